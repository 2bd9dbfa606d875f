/- PkAll -/
import Derived.Test.YteobmfpbgnmffaaGreatDoorPkgCopiesRowG33
import Derived.Test.YteobmfpbgnmffaaGreatDoorPkgCopiesRowG22
import Derived.Deep.Cut
set_option linter.unusedSimpArgs false
set_option linter.unusedVariables false
open List (getElem?_toArray getElem?_cons_zero getElem?_cons_succ setIfInBounds_toArray set_cons_zero set_cons_succ take_succ_cons take_zero)
/- Walk: a package's rich dependencies in one row (pkg.All). -/



namespace Go.Proofs.YteobmfpbgnmffaaGreatDoor
open Go.RowKit Go.Shelf
set_option linter.unusedVariables false
attribute [local go_sem] Oper.semAt_some
attribute [local go_sem ↓ high] asked_wide

theorem infoRichA : (Tryz.prog.info? 39).map (fun i => (i.zero, i.size, i.bytes)) = some (some (.agg #[.int .u8 0, .string ⟨#[]⟩, .int .u8 0, .int .i64 0, .string ⟨#[]⟩, .string ⟨#[]⟩, .slice none 0 0]), 7, 96) := by kernel_rfl
theorem info_partsR {z : Value} {n m : Nat} {t : TypeId} (h : (Tryz.prog.info? t).map (fun i => (i.zero, i.size, i.bytes)) = some (some z, n, m)) : ∃ i, Tryz.prog.info? t = some i ∧ i.zero = some z ∧ i.size = n ∧ i.bytes = m := by
  cases hi : Tryz.prog.info? t with
  | none => rw [hi] at h; simp at h
  | some i => rw [hi] at h; simp at h; exact ⟨i, rfl, h.1, h.2.1, h.2.2⟩
/-- the trees of the lists told so far -/
def preT {p : Pk} : List (LXof p) → List RT | [] => [] | x :: l => treeL x.1.l ++ preT l
theorem preT_app {p : Pk} (x : LXof p) : ∀ l : List (LXof p), preT (l ++ [x]) = preT l ++ treeL x.1.l
  | [] => by simp [preT]
  | y :: l => by rw [List.cons_append, preT, preT, preT_app x l, List.append_assoc]
/-- all of a package's trees, in their row -/
def allT (p : Pk) : List RT := treeL p.req ++ (treeL p.con ++ (treeL p.rcm ++ (treeL p.sup ++ (treeL p.sug ++ treeL p.enh))))
theorem preT_all (p : Pk) : preT (LSA p) = allT p := by simp [LSA, preT, lx0, lx1, lx2, lx3, lx4, lx5, allT]
theorem lx_few {p : Pk} (hf : p.few) {x : LX} (hx : x ∈ LS p) : x.l.length ≤ 900000 ∧ ∀ t ∈ x.l, t.tree.parts ≤ 900000 := by
  have H : partsL (treeL x.l) ≤ 900000 := by
    simp only [LS, List.mem_cons, List.not_mem_nil, or_false] at hx
    rcases hx with rfl | rfl | rfl | rfl | rfl | rfl
    · exact hf.req
    · exact hf.con
    · exact hf.rcm
    · exact hf.sup
    · exact hf.sug
    · exact hf.enh
  refine ⟨by have h1 := partsL_len (treeL x.l); rw [treeL_len] at h1; omega, fun t ht => ?_⟩
  obtain ⟨i, hi, rfl⟩ := List.getElem_of_mem ht
  have p1 := partsL_get (l := treeL x.l) (i := i) (by rw [treeL_len]; exact hi)
  rw [treeL_get x.l i hi] at p1
  omega
theorem ROwnF.more {base base' : Nat} {l : List RV} {v : Value} {W : World} (h : ROwnF base l v W) (hb : base' ≤ base) : ROwnF base' l v W := ⟨Own.more h.own hb, fun a ha => (h.tr a ha).keep (fun b hq => ⟨Nat.le_trans hb hq.1, hq.2⟩) fun _ _ => rfl⟩
def allQ (v0 : Value) (m : Nat) (x : RV) (hz : Nat) (i : Nat) (v : Value) (W : World) : Prop := match i with
  | 0 => v = v0
  | 1 => v = .agg #[.int .u8 x.kind, .string (bs x.dep.name), .int .u8 x.dep.op, .int .i64 x.dep.evr.epoch, .string (bs x.dep.evr.ver), .string (bs x.dep.evr.rel), .slice x.addr x.args.length x.cap]
  | 2 => ∃ rv : RV, v = rv.val ∧ rv.tree = x.tree ∧ TQF (fun b => hz ≤ b ∧ b < W.heap.size) W rv
  | 3 => v = .int .i64 (m : Int)
  | 4 => ∃ h, v = .slice (some ⟨h, 0, none⟩) 1 1 ∧ ∀ j u, ([.int .u8 0, .string ⟨#[]⟩, .int .u8 0, .int .i64 0, .string ⟨#[]⟩, .string ⟨#[]⟩, .slice none 0 0] : List Value)[j]? = some u → W.cell? ⟨h, j, none⟩ = some u
  | _ => False
theorem allQ_mono (v0 : Value) (m : Nat) (x : RV) (hz : Nat) : ∀ i v w w', allQ v0 m x hz i v w → Below w.heap.size w w' → allQ v0 m x hz i v w' := by
  intro i v w w' h hb
  match i, h with
  | 0, h => exact h
  | 1, h => exact h
  | 2, h => obtain ⟨rv, e, ht, hT⟩ := h; exact ⟨rv, e, ht, hT.keep (fun b hq => ⟨hq.1, Nat.lt_of_lt_of_le hq.2 hb.size⟩) fun b hq => hb.block b hq.2⟩
  | 3, h => exact h
  | 4, h => obtain ⟨q, e, hc⟩ := h; exact ⟨q, e, fun j u hu => (hb.cell (World.block_lt_of_cell? w _ (hc j u hu))).trans (hc j u hu)⟩
  | (k + 5), h => exact h.elim
set_option maxRecDepth 100000 in
set_option maxHeartbeats 16000000 in
theorem pkall_any (p : Pk) (w : World) (hL : p.Laid w.heap.size w) (hf : p.few) : Calls Tryz.prog 15 #[p.val] w fun e w' => ∃ A c l, e = .returned (.slice A l.length c) ∧ treeL l = allT p ∧ ROwnF w.heap.size l (.slice A l.length c) w' ∧ Below w.heap.size w w' := by
  have HF := Lib.hid (fun x (hx : x ∈ LS p) => lx_few hf hx)
  have LR := Lib.hid (fun W (h : Below w.heap.size w W) x (hx : x ∈ LS p) => (RRow.below (lx_row hL hx) h).more h.size)
  have SH := Lib.hid (fun (x : RV) W (hp : x.tree.parts ≤ 1000000) (h : RTree W.heap.size W x) => (shcopyf_any x.ht x W (Nat.le_refl _) hp h).mono fun e w' hh => CopyPostF.tq h.wf hh)
  have LI := Lib.hid (fun W => pklists_any p W)
  obtain ⟨i0, hi, hz0, hz1, hz2⟩ := info_partsR infoRichA
  have z1 : (w.alloc (.cells #[.string p.name, .int .i64 p.epoch, .string p.ver, .string p.rel, .int .u8 p.arch, .string p.vendor, .slice p.provA p.prov.length p.provC, .slice p.reqA p.req.length p.reqC, .slice p.conA p.con.length p.conC, .slice p.obsA p.obs.length p.obsC, .slice p.rcmA p.rcm.length p.rcmC, .slice p.supA p.sup.length p.supC, .slice p.sugA p.sug.length p.sugC, .slice p.enhA p.enh.length p.enhC, .slice p.filesA p.files.length p.filesC] 28)).heap.size = w.heap.size + 1 := by simp
  have b1 : Below w.heap.size w (w.alloc (.cells #[.string p.name, .int .i64 p.epoch, .string p.ver, .string p.rel, .int .u8 p.arch, .string p.vendor, .slice p.provA p.prov.length p.provC, .slice p.reqA p.req.length p.reqC, .slice p.conA p.con.length p.conC, .slice p.obsA p.obs.length p.obsC, .slice p.rcmA p.rcm.length p.rcmC, .slice p.supA p.sup.length p.supC, .slice p.sugA p.sug.length p.sugC, .slice p.enhA p.enh.length p.enhC, .slice p.filesA p.files.length p.filesC] 28)) := (Below.refl _ _).alloc (Nat.le_refl _) _
  obtain ⟨W2, hW2⟩ : ∃ W, W = (w.alloc (.cells #[.string p.name, .int .i64 p.epoch, .string p.ver, .string p.rel, .int .u8 p.arch, .string p.vendor, .slice p.provA p.prov.length p.provC, .slice p.reqA p.req.length p.reqC, .slice p.conA p.con.length p.conC, .slice p.obsA p.obs.length p.obsC, .slice p.rcmA p.rcm.length p.rcmC, .slice p.supA p.sup.length p.supC, .slice p.sugA p.sug.length p.sugC, .slice p.enhA p.enh.length p.enhC, .slice p.filesA p.files.length p.filesC] 28)).alloc (.cells #[.slice none 0 0] 25) := ⟨_, rfl⟩
  have z2 : W2.heap.size = w.heap.size + 2 := by rw [hW2]; simp
  have b2 : Below w.heap.size w W2 := by rw [hW2]; exact b1.alloc (by rw [z1]; omega) _
  have o2 : W2.cell? ⟨w.heap.size + 1, 0, none⟩ = some (.slice none 0 0) ∧ W2.frozen? ⟨w.heap.size + 1, 0, none⟩ = false := by rw [hW2, ← z1]; simp [go_sem]
  have p2 : PkAt W2 w.heap.size p := by rw [hW2]; exact (PkAt.new w p).calls ((Below.refl _ _).alloc (Nat.le_refl _) _)
  have O2 := Lib.hid o2
  have B2 := Lib.hid b2
  have Z2 := Lib.hid z2
  have EV := Lib.hid hW2
  have P2 := Lib.hid p2
  clear hL hf z1 b1 z2 b2 o2 p2 hW2
  unfold RV.val at SH
  unfold Pk.val
  unfold Pk.val at LI
  refine (callsIn_wide (n := 8)).1 ?_
  refine callsIn_of_wp_marks Tryz.func15 rfl trivial ?_ rfl
  simp only [Tryz.ntmps15, List.size_toArray, List.length_cons, List.length_nil, Nat.reduceAdd, Nat.reduceSub, Array.replicate_succ, Array.replicate_zero, List.push_toArray, List.append_toArray, List.nil_append, List.cons_append]
  gi_wp2_with fail
  refine ⟨trivial, ?_⟩
  rw [← EV.out]
  clear EV
  gi_at_call 68
  refine (callsIn_wide.2 (LI.out _)).mono ?_
  rintro e wl ⟨rfl, rfl⟩
  have hPL := PkAt.new W2 p
  have b3 : Below W2.heap.size W2 (W2.alloc (.cells #[.string p.name, .int .i64 p.epoch, .string p.ver, .string p.rel, .int .u8 p.arch, .string p.vendor, .slice p.provA p.prov.length p.provC, .slice p.reqA p.req.length p.reqC, .slice p.conA p.con.length p.conC, .slice p.obsA p.obs.length p.obsC, .slice p.rcmA p.rcm.length p.rcmC, .slice p.supA p.sup.length p.supC, .slice p.sugA p.sug.length p.sugC, .slice p.enhA p.enh.length p.enhC, .slice p.filesA p.files.length p.filesC] 28)) := (Below.refl _ _).alloc (Nat.le_refl _) _
  have hz3 : (W2.alloc (.cells #[.string p.name, .int .i64 p.epoch, .string p.ver, .string p.rel, .int .u8 p.arch, .string p.vendor, .slice p.provA p.prov.length p.provC, .slice p.reqA p.req.length p.reqC, .slice p.conA p.con.length p.conC, .slice p.obsA p.obs.length p.obsC, .slice p.rcmA p.rcm.length p.rcmC, .slice p.supA p.sup.length p.supC, .slice p.sugA p.sug.length p.sugC, .slice p.enhA p.enh.length p.enhC, .slice p.filesA p.files.length p.filesC] 28)).heap.size = W2.heap.size + 1 := by simp
  generalize W2.alloc (.cells #[.string p.name, .int .i64 p.epoch, .string p.ver, .string p.rel, .int .u8 p.arch, .string p.vendor, .slice p.provA p.prov.length p.provC, .slice p.reqA p.req.length p.reqC, .slice p.conA p.con.length p.conC, .slice p.obsA p.obs.length p.obsC, .slice p.rcmA p.rcm.length p.rcmC, .slice p.supA p.sup.length p.supC, .slice p.sugA p.sug.length p.sugC, .slice p.enhA p.enh.length p.enhC, .slice p.filesA p.files.length p.filesC] 28) = W3 at *
  have B3 := Lib.hid (B2.out.trans (b3.mono B2.out.size))
  have z2 := Z2.out
  have ol : w.heap.size + 1 < W2.heap.size := by omega
  have O3 := Lib.hid (show W3.cell? ⟨w.heap.size + 1, 0, none⟩ = some (.slice none 0 0) ∧ W3.frozen? ⟨w.heap.size + 1, 0, none⟩ = false from ⟨(b3.cell (p := ⟨w.heap.size + 1, 0, none⟩) ol).trans O2.out.1, (b3.frozen (p := ⟨w.heap.size + 1, 0, none⟩) ol).trans O2.out.2⟩)
  have T3 : AllI w W3.heap.size [] 0 W3 := ⟨⟨[], rfl, Nat.le_refl _, ⟨_, O3.out.1, Own.nil_ _ _ _, fun a ha => by cases ha⟩, O3.out.2, by omega, Nat.le_refl _⟩, B3.out⟩
  have hb9 : W2.heap.size < W3.heap.size := by omega
  have hbn : W2.heap.size ≠ w.heap.size + 1 := by omega
  have H9 := Lib.hid hb9
  have HN9 := Lib.hid hbn
  clear b3 LI O2 B2 P2 ol hz3
  generalize W2.heap.size = b9 at *
  have e9 := Z2.out
  clear z2 Z2
  subst e9
  gi_wp2_with fail
  generalize Value.agg #[.string p.name, .int .i64 p.epoch, .string p.ver, .string p.rel, .int .u8 p.arch, .string p.vendor, .slice p.provA p.prov.length p.provC, .slice p.reqA p.req.length p.reqC, .slice p.conA p.con.length p.conC, .slice p.obsA p.obs.length p.obsC, .slice p.rcmA p.rcm.length p.rcmC, .slice p.supA p.sup.length p.supC, .slice p.sugA p.sug.length p.sugC, .slice p.enhA p.enh.length p.enhC, .slice p.filesA p.files.length p.filesC] = vp at *
  refine wpIn_rangeFunc_ownA rfl (by decide) (gf := 123) (lb := #[.pointer (some ⟨w.heap.size + 2, 0, none⟩)]) rfl trivial (enters_of Tryz.func123 (by kernel_rfl) rfl) (lists_stopsA 7 (w.heap.size + 2) p W3 hPL) kp_tA (kp_bA hb9) (Below.refl _ _) (fun _ => rfl)
    (fun (pre : List (LXof p)) W => AllI w W3.heap.size (preT pre) (900000 * pre.length) W) (fun _ _ _ => False) (AllI.own _ _ B3.out.size) (fun _ _ _ _ _ h _ _ => h) T3
    (fun a x _ => { tmps := ((a.tmps.setIfInBounds 10 (.int .u8 x.1.wh)).setIfInBounds 11 (.slice x.1.A x.1.l.length x.1.c)).setIfInBounds 5 (.slice x.1.A x.1.l.length x.1.c), defers := [] }) (fun _ _ _ => True) (fun x a' => fun _ _ _ _ h _ _ => h) ?assign ?body ?done ?stop
  case assign =>
    rintro l pre x W K h hK
    unfold lxArgs
    gi_wp2
    refine hK _ _ (KeepsFrom.refl _ _) ⟨fun _ => rfl, Nat.le_refl _⟩ h ⟨0, ?_, trivial⟩
    rfl
  case body =>
    rintro l pre xx b W hl0 hA _ hlt
    have A0 := Lib.hid hA
    have RR := Lib.hid (fun U (h : Below w.heap.size w U) => LR.out U h xx.1 xx.2)
    have FW := Lib.hid (HF.out xx.1 xx.2)
    have PT := Lib.hid (show ∀ l2 n2, treeL l2 = preT pre ++ (treeL xx.1.l).take n2 → xx.1.l.length ≤ n2 → treeL l2 = preT (pre ++ [xx]) from fun l2 n2 h1 h2 => by rw [h1, List.take_of_length_le (by rw [treeL_len]; exact h2), preT_app])
    have PL := Lib.hid (show 900000 * (pre ++ [xx]).length = 900000 * pre.length + 900000 by rw [List.length_append, List.length_singleton]; omega)
    have PN := Lib.hid (show 900000 * pre.length ≤ 4500000 by omega)
    obtain ⟨n, hn⟩ : ∃ n, n = xx.1.l.length := ⟨_, rfl⟩
    have HN := Lib.hid hn
    have hn1 : n ≤ 900000 := by have := (FW.out).1; omega
    obtain ⟨xl, hxl⟩ : ∃ xl, xl = xx.1.l := ⟨_, rfl⟩
    rw [← hn]
    rw [← hxl] at HN RR FW PT
    have HL0 := Lib.hid (show W3.heap.size ≤ W.heap.size from by obtain ⟨l2, _, _, h3⟩ := hA.ex; exact h3.hz.2)
    clear hA hlt hn hxl T3 hPL O3
    generalize 900000 * pre.length = pn at *
    generalize preT pre = pT at *
    generalize xx.1.A = xA at *
    generalize xx.1.c = xc at *
    simp only [setIfInBounds_toArray, set_cons_zero, set_cons_succ]
    gi_wp2_with fail
    gi_loopw [14] (fun iv wr => ∃ k : Nat, k ≤ n ∧ iv = .int .i64 (k : Int) ∧ AllI w W3.heap.size (pT ++ (treeL xl).take k) (pn + k) wr ∧ KeepsOthers W wr ∧ KP (w.heap.size + 2) W wr) (fun iv _ => n - (intOf iv).toNat)
    case atStart => exact ⟨0, Nat.zero_le _, rfl, by simpa using A0.out, KeepsOthers.refl _, fun _ => rfl, Nat.le_refl _⟩
    case round =>
      obtain ⟨k, hk, rfl, hA, hK, hP⟩ := hrel
      have AA := Lib.hid hA
      have KO9 := Lib.hid hK
      have KP9 := Lib.hid hP
      clear hK hP A0
      by_cases hlt : k < n
      · have hkl : k < xl.length := by have := HN.out; omega
        have RX := RR.out wr hA.old
        have TX := RX.2 _ (List.getElem_mem hkl)
        have hpx := FW.out.2 _ (List.getElem_mem hkl)
        obtain ⟨b, o, rfl, hb, e0, e1, e2, e3, e4, e5, e6⟩ := RX.at_ hkl
        have HTK := Lib.hid (fun (rv : RV) (l2 : List RV) (h1 : rv.tree = xl[k].tree) (h2 : treeL l2 = pT ++ (treeL xl).take k) => show treeL (l2 ++ [rv]) = pT ++ (treeL xl).take (k + 1) from by
          rw [treeL_app, h2, List.append_assoc, take_snoc _ _ (by rw [treeL_len]; exact hkl), treeL_get xl k hkl]
          simp only [treeL, h1])
        have SC := Lib.hid (fun U (h : Below wr.heap.size wr U) => SH.out xl[k] U (by omega) ((TX.keeps h).more h.size))
        clear RX TX hpx
        generalize xl[k] = x at *
        clear hkl
        have i0' : (0 : Int) ≤ (k : Int) := by omega
        have i1 : (k : Int) < (n : Int) := by omega
        clear hA
        gi_wp2_with fail
        have bV : Below wr.heap.size wr (wr.alloc (.cells #[.int .u8 x.kind, .string (bs x.dep.name), .int .u8 x.dep.op, .int .i64 x.dep.evr.epoch, .string (bs x.dep.evr.ver), .string (bs x.dep.evr.rel), .slice x.addr x.args.length x.cap] 39)) := (Below.refl _ _).alloc (Nat.le_refl _) _
        have XB := Lib.hid (Box7.new wr (.int .u8 x.kind) (.string (bs x.dep.name)) (.int .u8 x.dep.op) (.int .i64 x.dep.evr.epoch) (.string (bs x.dep.evr.ver)) (.string (bs x.dep.evr.rel)) (.slice x.addr x.args.length x.cap) 39)
        have AV := Lib.hid (AA.out.then bV)
        have KV := Lib.hid (KO9.out.trans (KeepsOthers.alloc wr (.cells #[.int .u8 x.kind, .string (bs x.dep.name), .int .u8 x.dep.op, .int .i64 x.dep.evr.epoch, .string (bs x.dep.evr.ver), .string (bs x.dep.evr.rel), .slice x.addr x.args.length x.cap] 39)))
        have PV := Lib.hid (kp_tA KP9.out (kp_callsA (Nat.lt_of_lt_of_le H9.out (Nat.le_trans (show W3.heap.size ≤ W.heap.size from HL0.out) KO9.out.size)) bV))
        have SC2 := Lib.hid (fun U (h : Below (wr.alloc (.cells #[.int .u8 x.kind, .string (bs x.dep.name), .int .u8 x.dep.op, .int .i64 x.dep.evr.epoch, .string (bs x.dep.evr.ver), .string (bs x.dep.evr.rel), .slice x.addr x.args.length x.cap] 39)).heap.size (wr.alloc (.cells #[.int .u8 x.kind, .string (bs x.dep.name), .int .u8 x.dep.op, .int .i64 x.dep.evr.epoch, .string (bs x.dep.evr.ver), .string (bs x.dep.evr.rel), .slice x.addr x.args.length x.cap] 39)) U) => SC.out U (bV.trans (h.mono bV.size)))
        clear AA KO9 KP9 SC e0 e1 e2 e3 e4 e5 e6 bV
        generalize wr.alloc (.cells #[.int .u8 x.kind, .string (bs x.dep.name), .int .u8 x.dep.op, .int .i64 x.dep.evr.epoch, .string (bs x.dep.evr.ver), .string (bs x.dep.evr.rel), .slice x.addr x.args.length x.cap] 39) = V at *
        generalize wr.heap.size = kx at *
        obtain ⟨l2, ht2, hn2, hO⟩ := AV.out.ex
        obtain ⟨v0, hv0, ho0⟩ := hO.row
        have HZ := Lib.hid hO.hz
        have HFZ := Lib.hid hO.fz
        have V0 := Lib.hid hv0
        have R0 := Lib.hid ho0
        have HL2 := Lib.hid hn2
        have HT2 := Lib.hid ht2
        obtain ⟨A0, c0, rfl⟩ := own_shape ho0.own
        clear hO hv0 ho0 hn2 ht2
        refine wpIn_region_part (PP := allQ (.slice A0 l2.length c0) l2.length x V.heap.size) 5 rfl (by kernel_rfl) (by kernel_rfl) (by decide) (by decide) (allQ_mono _ _ x V.heap.size) (fun i => match i with | 0 => u18 | 1 => u19 | 2 => u20 | 3 => u21 | _ => u22) (by simp [fillV, put_someT, setIfInBounds_toArray, set_cons_zero, set_cons_succ]) ?_ ?_
        · intro i o vs W hi ho he hBW K hK
          simp only [take_succ_cons, take_zero, fillV, put_someT, setIfInBounds_toArray, set_cons_zero, set_cons_succ] at hK ⊢
          have BWW := Lib.hid hBW
          have V0W := Lib.hid ((hBW.cell (p := ⟨w.heap.size + 1, 0, none⟩) (World.block_lt_of_cell? V _ V0.out)).trans V0.out)
          have XBW := Lib.hid (XB.out.past (hBW.mono (XB.out.2.2)))
          obtain rfl | rfl | rfl | rfl | rfl := (show i = 0 ∨ i = 1 ∨ i = 2 ∨ i = 3 ∨ i = 4 by exact (by have : i < 5 := hi; omega))
          · simp only [getElem?_toArray, getElem?_cons_zero, getElem?_cons_succ, Option.some.injEq] at ho
            subst ho
            rw [if_pos (by rfl)]
            simp only [put_someT, setIfInBounds_toArray, set_cons_zero, set_cons_succ] at hK
            have HK := Lib.hid hK
            clear hK he hi hBW
            have ccV0W := V0W.out
            gi_step
            exact HK.out _ _ rfl (Below.refl _ _)
          · simp only [getElem?_toArray, getElem?_cons_zero, getElem?_cons_succ, Option.some.injEq] at ho
            subst ho
            rw [if_pos (by rfl)]
            simp only [put_someT, setIfInBounds_toArray, set_cons_zero, set_cons_succ] at hK
            have HK := Lib.hid hK
            clear hK he hi hBW
            obtain ⟨⟨x0, x1, x2, x3, x4, x5, x6⟩, _, _⟩ := XBW.out
            gi_step
            exact HK.out _ _ rfl (Below.refl _ _)
          · simp only [getElem?_toArray, getElem?_cons_zero, getElem?_cons_succ, Option.some.injEq] at ho
            subst ho
            have e1 : vs 1 = .agg #[.int .u8 x.kind, .string (bs x.dep.name), .int .u8 x.dep.op, .int .i64 x.dep.evr.epoch, .string (bs x.dep.evr.ver), .string (bs x.dep.evr.rel), .slice x.addr x.args.length x.cap] := (he ⟨1, .data⟩ (by simp) rfl : allQ (.slice A0 l2.length c0) l2.length x V.heap.size 1 (vs 1) W)
            rw [e1] at hK ⊢
            rw [if_pos (by rfl)]
            simp only [put_someT, setIfInBounds_toArray, set_cons_zero, set_cons_succ] at hK
            have HK := Lib.hid hK
            clear hK he hi hBW
            have SQ := SC2.out W BWW.out
            gi_step
            refine ⟨trivial, ?_⟩
            gi_at_call 69
            refine (CallsIn.inRound l (callsIn_wide.2 SQ)).mono ?_
            rintro en w9 ⟨rv, rfl, hrt, hT, h⟩
            exact HK.out _ _ ⟨rv, rfl, hrt, hT.keep (fun b hq => ⟨Nat.le_trans BWW.out.size hq.1, hq.2⟩) (fun _ _ => rfl)⟩ h
          · simp only [getElem?_toArray, getElem?_cons_zero, getElem?_cons_succ, Option.some.injEq] at ho
            subst ho
            have e0 : vs 0 = .slice A0 l2.length c0 := (he ⟨0, .data⟩ (by simp) rfl : allQ (.slice A0 l2.length c0) l2.length x V.heap.size 0 (vs 0) W)
            rw [e0] at hK ⊢
            rw [if_pos (by rfl)]
            simp only [put_someT, setIfInBounds_toArray, set_cons_zero, set_cons_succ] at hK
            have HK := Lib.hid hK
            clear hK he hi hBW
            gi_step
            exact HK.out _ _ rfl (Below.refl _ _)
          · simp only [getElem?_toArray, getElem?_cons_zero, getElem?_cons_succ, Option.some.injEq] at ho
            subst ho
            rw [if_pos (by rfl)]
            simp only [put_someT, setIfInBounds_toArray, set_cons_zero, set_cons_succ] at hK
            have HK := Lib.hid hK
            clear hK he hi hBW
            gi_step
            exact HK.out _ _ ⟨W.heap.size, rfl, fun j u hu => (World.cell?_alloc_at _ _ _ _ rfl).trans (by simpa using hu)⟩ ((Below.refl _ W).alloc (Nat.le_refl _) _)
        · intro vs U hall hBU
          have q0 : vs 0 = .slice A0 l2.length c0 := hall 0 (by decide)
          obtain ⟨rv, q2, hrt, hT⟩ : ∃ rv : RV, vs 2 = rv.val ∧ rv.tree = x.tree ∧ TQF (fun b => V.heap.size ≤ b ∧ b < U.heap.size) U rv := hall 2 (by decide)
          have q3 : vs 3 = .int .i64 (l2.length : Int) := hall 3 (by decide)
          obtain ⟨h4, q4, hc4⟩ : ∃ h, vs 4 = .slice (some ⟨h, 0, none⟩) 1 1 ∧ ∀ j u, ([.int .u8 0, .string ⟨#[]⟩, .int .u8 0, .int .i64 0, .string ⟨#[]⟩, .string ⟨#[]⟩, .slice none 0 0] : List Value)[j]? = some u → U.cell? ⟨h, j, none⟩ = some u := hall 4 (by decide)
          simp only [take_succ_cons, take_zero, List.drop_succ_cons, List.drop_zero, fillV, put_someT, put_noneC, setIfInBounds_toArray, set_cons_zero, set_cons_succ]
          rw [q0, q2, q3, q4]
          generalize vs 1 = q9
          have HRT := Lib.hid hrt
          have HTR := Lib.hid hT
          have BU := Lib.hid hBU
          have OU := Lib.hid (own_keep R0.out.own (Nat.le_refl _) (fun g hg => hBU.block g (World.ownsRow.lt R0.out.own g hg).2))
          have LL := Lib.hid (show l2.length ≤ 5500000 by have := HL2.out; have := PN.out; omega)
          clear hall hrt hT hBU q0 q2 q3 q4 SC2 XB
          refine anyIn_one 5 _ (by kernel_rfl) rfl rfl ?_
          intro K hK
          have HK := Lib.hid hK
          clear hK
          refine opIn_append_own _ _ 25 rfl W3.heap.size 39 i0 (.agg #[.int .u8 0, .string ⟨#[]⟩, .int .u8 0, .int .i64 0, .string ⟨#[]⟩, .string ⟨#[]⟩, .slice none 0 0]) 7 96 Tryz.underlying25 hi hz0 hz1 hz2 rfl (by decide) _ _ _ rfl OU.out ⟨h4, 0, none⟩ 1 1 [.int .u8 0, .string ⟨#[]⟩, .int .u8 0, .int .i64 0, .string ⟨#[]⟩, .string ⟨#[]⟩, .slice none 0 0] rfl rfl ?c1 ?c2 ?c3 ?c4 ?c5 ?c6
          case c1 => intro j u hu; have := hc4 j u hu; by_cases hj0 : j = 0; (subst hj0; simpa [Addr.add] using this); simpa [Addr.add, hj0] using this
          case c2 => simp [Value.oneCell']
          case c3 => have := LL.out; unfold maxLen; omega
          case c4 => have := LL.out; omega
          case c5 => exact Nat.le_trans HZ.out.2 BU.out.size
          case c6 =>
            intro v' w6 ho6 hg6 hat6
            obtain ⟨A9, c9, rfl⟩ := own_shape ho6
            have ho7 : Own encR 7 W3.heap.size 39 (.slice A9 (l2.length + 1) c9) (l2 ++ [zR]) w6 := Own.snoc (x := zR) ho6
            obtain ⟨g, rfl, y1, y2, y3, hfz⟩ := own_some ho7 (by simp)
            clear y1 y2 y3
            have hat7 : some g = (Value.slice A0 l2.length c0).ownBlock ∨ g = U.heap.size := by rcases hat6 with h | h; exact .inl h; exact .inr (by simpa [Value.ownBlock] using h)
            obtain ⟨f1, f2, f3, f4, f5, f6, f7⟩ := OutR.fin HZ.out HFZ.out V0.out R0.out BU.out HTR.out hg6 hat7 ho7
            have HCM := Lib.hid (setL_comm g ⟨w.heap.size + 1, 0, none⟩ (.slice (some ⟨g, 0, none⟩) (l2.length + 1) c9) f2 (encR rv) (l2.length * 7) w6)
            obtain ⟨d0, d1, d2, d3, d4, d5, d6⟩ := own7_at ho7 (k := l2.length) (by simp)
            rw [List.getElem_append_right (Nat.le_refl _)] at d0 d1 d2 d3 d4 d5 d6
            simp only [Nat.sub_self, List.getElem_cons_zero] at d0 d1 d2 d3 d4 d5 d6
            unfold zR at d0 d1 d2 d3 d4 d5 d6
            have F1 := Lib.hid f1
            have F5 := Lib.hid f5
            have F6 := Lib.hid (AV.out.old.trans (f6.mono (Nat.le_succ _)))
            have F7 := Lib.hid (kp_tA PV.out (show KP (w.heap.size + 2) V _ from ⟨fun i => World.cell?_of_block (f7 (w.heap.size + 2) (Nat.lt_of_lt_of_le H9.out HZ.out.2) HN9.out (fun e => by have := (World.ownsRow.lt R0.out.own (w.heap.size + 2) e).1; have := H9.out; omega)), by simp [World.setCell, setL_heap]; have := hg6.size; have := BU.out.size; omega⟩))
            have z0 := hfz (l2.length * 7)
            have z1 := hfz (l2.length * 7 + 1)
            have z2 := hfz (l2.length * 7 + 2)
            have z3 := hfz (l2.length * 7 + 3)
            have z4 := hfz (l2.length * 7 + 4)
            have z5 := hfz (l2.length * 7 + 5)
            have z6 := hfz (l2.length * 7 + 6)
            clear ho6 hg6 hat6 hat7 ho7 f1 f5 f6 f7 hfz OU hc4 R0 HTR
            unfold encR setL setL setL setL setL setL setL setL at F1 F5 F6 F7 HCM
            unfold RV.val
            have j0 : (0 : Int) ≤ (l2.length : Int) := by omega
            have j1 : (l2.length : Int) < ((l2.length + 1 : Nat) : Int) := by omega
            have j2 : (l2.length : Int) < (l2.length : Int) + 1 := by omega
            try simp only [put_someT, setIfInBounds_toArray, set_cons_zero, set_cons_succ]
            refine HK.out _ _ ?_
            clear HK
            try simp only [put_someT, setIfInBounds_toArray, set_cons_zero, set_cons_succ]
            refine anyIn_two 6 8 _ _ (by kernel_rfl) rfl rfl rfl rfl ?_ ?_
            · intro K hK; have HK := Lib.hid hK; clear hK; gi_step; refine HK.out _ _ ?_; clear HK; try simp only [put_someT, setIfInBounds_toArray, set_cons_zero, set_cons_succ]
              refine anyIn_two 7 8 _ _ (by kernel_rfl) rfl rfl rfl rfl ?_ ?_
              · intro K hK; have HK := Lib.hid hK; clear hK; gi_step; refine HK.out _ _ ?_; clear HK; try simp only [put_someT, setIfInBounds_toArray, set_cons_zero, set_cons_succ]
                refine anyIn_one 8 _ (by kernel_rfl) rfl rfl ?_
                intro K hK; have HK := Lib.hid hK; clear hK; gi_step; refine HK.out _ _ ?_; clear HK; try simp only [put_someT, setIfInBounds_toArray, set_cons_zero, set_cons_succ]
                refine anyIn_done (by kernel_rfl) ?_
                gi_wp2_with fail
                go_roundw
                case rel => exact ⟨k + 1, by omega, by go_num, ⟨⟨l2 ++ [rv], HTK.out rv l2 HRT.out HT2.out, by rw [List.length_append, List.length_singleton]; have := HL2.out; omega, F1.out⟩, F6.out⟩, KV.out.trans F5.out, F7.out⟩
                case measure => simp [intOf]; omega
              · intro K hK; have HK := Lib.hid hK; clear hK; gi_step; refine HK.out _ _ ?_; clear HK; try simp only [put_someT, setIfInBounds_toArray, set_cons_zero, set_cons_succ]
                refine anyIn_one 7 _ (by kernel_rfl) rfl rfl ?_
                intro K hK; have HK := Lib.hid hK; clear hK; gi_step; refine HK.out _ _ ?_; clear HK; try simp only [put_someT, setIfInBounds_toArray, set_cons_zero, set_cons_succ]
                refine anyIn_done (by kernel_rfl) ?_
                rw [HCM.out]
                gi_wp2_with fail
                go_roundw
                case rel => exact ⟨k + 1, by omega, by go_num, ⟨⟨l2 ++ [rv], HTK.out rv l2 HRT.out HT2.out, by rw [List.length_append, List.length_singleton]; have := HL2.out; omega, F1.out⟩, F6.out⟩, KV.out.trans F5.out, F7.out⟩
                case measure => simp [intOf]; omega
            · intro K hK; have HK := Lib.hid hK; clear hK; gi_step; refine HK.out _ _ ?_; clear HK; try simp only [put_someT, setIfInBounds_toArray, set_cons_zero, set_cons_succ]
              refine anyIn_one 6 _ (by kernel_rfl) rfl rfl ?_
              intro K hK; have HK := Lib.hid hK; clear hK; gi_step; refine HK.out _ _ ?_; clear HK; try simp only [put_someT, setIfInBounds_toArray, set_cons_zero, set_cons_succ]
              refine anyIn_one 7 _ (by kernel_rfl) rfl rfl ?_
              intro K hK; have HK := Lib.hid hK; clear hK; gi_step; refine HK.out _ _ ?_; clear HK; try simp only [put_someT, setIfInBounds_toArray, set_cons_zero, set_cons_succ]
              refine anyIn_done (by kernel_rfl) ?_
              rw [HCM.out]
              gi_wp2_with fail
              go_roundw
              case rel => exact ⟨k + 1, by omega, by go_num, ⟨⟨l2 ++ [rv], HTK.out rv l2 HRT.out HT2.out, by rw [List.length_append, List.length_singleton]; have := HL2.out; omega, F1.out⟩, F6.out⟩, KV.out.trans F5.out, F7.out⟩
              case measure => simp [intOf]; omega
      · obtain rfl : k = n := by omega
        have i1 : ¬ (k : Int) < (k : Int) := by omega
        clear hlt hA
        gi_wp2_with fail
        exact ⟨KO9.out.from _, KP9.out, by
          obtain ⟨l2, h1, h2, h3⟩ := AA.out.ex
          exact ⟨⟨l2, PT.out l2 k h1 (by have := HN.out; omega), by rw [PL.out]; omega, h3⟩, AA.out.old⟩⟩
  case done =>
    rintro D ys W hD hys hA hK
    obtain ⟨l2, h1, h2, h3⟩ := hA.ex
    obtain ⟨v, hv, ho⟩ := h3.row
    rw [hys, preT_all] at h1
    obtain ⟨A9, c9, rfl⟩ := own_shape ho.own
    have HV := Lib.hid hv
    have OW := Lib.hid ho
    have HK := Lib.hid hK
    have HD := Lib.hid hD
    have HB := Lib.hid hA.old
    have HT := Lib.hid h1
    clear h1 h2 h3 ho hK hD hys hA T3 hPL
    gi_wp2_with fail
    refine ⟨by simp, .inl ⟨_, _, rfl, run_takeDeferred HK.out, ?_⟩⟩
    have hb := HB.out.trans (belowK_b (w := w) (Nat.le_refl _) W D _ (.deferred none) (Nat.le_trans B3.out.size HD.out) HK.out rfl rfl)
    exact ⟨_, results_tmp rfl _ _ _, A9, c9, l2, rfl, HT.out, (OW.out.kept (grownBy_putObj' W D _) (fun r e => by cases e; exact ⟨_, HK.out, rfl⟩)).more B3.out.size, hb⟩
  case stop =>
    rintro D c pre W hD hpre h hK
    exact h.elim
end Go.Proofs.YteobmfpbgnmffaaGreatDoor
