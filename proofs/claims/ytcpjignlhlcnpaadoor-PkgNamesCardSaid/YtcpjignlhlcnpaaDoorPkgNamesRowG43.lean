/- PkNmM2 -/
import Derived.Test.YtcpjignlhlcnpaaDoorPkgNamesRowG42
import Derived.Test.YtcpjignlhlcnpaaDoorPkgNamesRowG35
import Derived.Test.YtcpjignlhlcnpaaDoorPkgNamesRowG36
import Derived.Lib.SlBytesRow
set_option linter.unusedSimpArgs false
set_option linter.unusedVariables false
/- PkgNames: the packages of the examples, in plain terms. -/




namespace Go.Proofs.YtcpjignlhlcnpaaDoor
open Go.RowKit Go.Shelf
set_option linter.unusedVariables false

def xD : Dp := ⟨[120], 0, zeroE⟩
def yD : Dp := ⟨[121], 0, zeroE⟩
def xB : Dp := ⟨[120], 5, zeroE⟩
def vInc : ByteArray := ⟨#[83, 111, 109, 101, 32, 86, 101, 110, 100, 111, 114, 44, 32, 73, 110, 99, 46]⟩
/-- the good package's data -/
def GZ : Pk := { P1 with prov := List.replicate 32 xD, req := [twoR 4 0, twoR 5 0, atomR [99]], con := [twoR 5 0], sup := [atomR [100]], files := [⟨#[47, 97]⟩, ⟨#[47, 98]⟩], vendor := vInc }
def GS0 : Pk := { P1 with prov := List.replicate 32 zeroT }
def GS1 : Pk := { GS0 with req := [twoR 4 0, twoR 5 0, atomR [99]] }
def GS2 : Pk := { GS1 with con := [twoR 5 0] }
def GS3 : Pk := { GS2 with sup := [atomR [100]] }
def GS4 : Pk := { GS3 with files := [⟨#[47, 97]⟩, ⟨#[47, 98]⟩] }
def GS5 : Pk := { GS4 with vendor := vInc }
/-- what a package may not have -/
def GB : Nat → Pk
  | 0 => { GZ with name := ⟨#[]⟩ }
  | 1 => { GZ with name := ⟨#[47, 97]⟩ }
  | 2 => { GZ with name := ⟨#[105, 102]⟩ }
  | 3 => { GZ with rel := ⟨#[]⟩ }
  | 4 => { GZ with epoch := -1 }
  | 5 => { GZ with arch := 0 }
  | 6 => { GZ with arch := 5 }
  | 7 => { GZ with vendor := bs (List.replicate 65 0) }
  | 8 => { GZ with prov := List.replicate 32 xD ++ [yD] }
  | 9 => { GZ with prov := (List.replicate 32 xD).set 3 xB }
  | 10 => { GZ with obs := [zeroT] }
  | 11 => { GZ with req := List.replicate 33 (atomR [97]) }
  | 12 => { GZ with con := [twoR 4 0] }
  | 13 => { GZ with sup := [twoR 5 0] }
  | 14 => { GZ with enh := [twoR 4 0] }
  | 15 => { GZ with rcm := [zeroRV] }
  | 16 => { GZ with files := [⟨#[47, 98]⟩, ⟨#[47, 97]⟩] }
  | 17 => { GZ with files := [⟨#[47, 97]⟩, ⟨#[47, 97]⟩] }
  | _ => { GZ with files := [⟨#[97]⟩] }
theorem gz_may : mayP GZ = true := by kernel_rfl
theorem gb_no (i : Nat) (h : i < 19) : mayP (GB i) = false := by
  obtain rfl | rfl | rfl | rfl | rfl | rfl | rfl | rfl | rfl | rfl | rfl | rfl | rfl | rfl | rfl | rfl | rfl | rfl | rfl : i = 0 ∨ i = 1 ∨ i = 2 ∨ i = 3 ∨ i = 4 ∨ i = 5 ∨ i = 6 ∨ i = 7 ∨ i = 8 ∨ i = 9 ∨ i = 10 ∨ i = 11 ∨ i = 12 ∨ i = 13 ∨ i = 14 ∨ i = 15 ∨ i = 16 ∨ i = 17 ∨ i = 18 := by omega
  all_goals kernel_rfl
theorem gb_early : earlyB (GB 9) = false := by kernel_rfl
def dchk (p : Pk) : Bool := (LS p).all fun x => x.l.all fun t => t.tree.kOk && decide (t.tree.parts ≤ 1000000)
theorem deep_chk {p : Pk} (h : dchk p = true) : p.deepOk := by
  intro x hx t ht
  have h1 := List.all_eq_true.1 (List.all_eq_true.1 h x hx) t ht
  rw [Bool.and_eq_true, decide_eq_true_eq] at h1
  exact ⟨(KO_iff t).2 h1.1, h1.2⟩
theorem gz_deep : GZ.deepOk := deep_chk (by kernel_rfl)
theorem gb_deep (i : Nat) (h : i < 19) : (GB i).deepOk := by
  obtain rfl | rfl | rfl | rfl | rfl | rfl | rfl | rfl | rfl | rfl | rfl | rfl | rfl | rfl | rfl | rfl | rfl | rfl | rfl : i = 0 ∨ i = 1 ∨ i = 2 ∨ i = 3 ∨ i = 4 ∨ i = 5 ∨ i = 6 ∨ i = 7 ∨ i = 8 ∨ i = 9 ∨ i = 10 ∨ i = 11 ∨ i = 12 ∨ i = 13 ∨ i = 14 ∨ i = 15 ∨ i = 16 ∨ i = 17 ∨ i = 18 := by omega
  all_goals exact deep_chk (by kernel_rfl)
theorem gz_few : GZ.few := ⟨by decide, by decide, by decide, of_decide_eq_true (by kernel_rfl), of_decide_eq_true (by kernel_rfl), of_decide_eq_true (by kernel_rfl), of_decide_eq_true (by kernel_rfl), of_decide_eq_true (by kernel_rfl), of_decide_eq_true (by kernel_rfl)⟩
theorem few_alike {p q : Pk} (h : Alike p q) (hf : p.few) : q.few := ⟨by rw [h.prov]; exact hf.nprov, by rw [h.obs]; exact hf.nobs, by rw [h.files]; exact hf.nfiles, by rw [h.req]; exact hf.req, by rw [h.con]; exact hf.con, by rw [h.rcm]; exact hf.rcm, by rw [h.sup]; exact hf.sup, by rw [h.sug]; exact hf.sug, by rw [h.enh]; exact hf.enh⟩
theorem Alike.trans2 {p q r : Pk} (h : Alike p q) (k : Alike q r) : Alike p r := ⟨k.name.trans h.name, k.epoch.trans h.epoch, k.ver.trans h.ver, k.rel.trans h.rel, k.arch.trans h.arch, k.vendor.trans h.vendor, k.prov.trans h.prov, k.obs.trans h.obs, k.files.trans h.files, k.req.trans h.req, k.con.trans h.con, k.rcm.trans h.rcm, k.sup.trans h.sup, k.sug.trans h.sug, k.enh.trans h.enh⟩
theorem RBn.past {b n : Nat} {R : RV} {W W' : World} (h : RBn b R W) (hb : Below n W W') (hn : b < n) : RBn b R W' := by
  obtain ⟨hl, c0, c1, c2, c3, c4, c5, c6⟩ := h
  exact ⟨Nat.lt_of_lt_of_le hl hb.size, (hb.cell (p := ⟨b, 0, none⟩) hn).trans c0, (hb.cell (p := ⟨b, 1, none⟩) hn).trans c1, (hb.cell (p := ⟨b, 2, none⟩) hn).trans c2, (hb.cell (p := ⟨b, 3, none⟩) hn).trans c3, (hb.cell (p := ⟨b, 4, none⟩) hn).trans c4, (hb.cell (p := ⟨b, 5, none⟩) hn).trans c5, (hb.cell (p := ⟨b, 6, none⟩) hn).trans c6⟩
/-- a new package in a box of its own: all its rows lie below it -/
theorem nm_box {q : Pk} {w V : World} (hl : q.Laid w.heap.size w) (hV : V = w.alloc (.cells #[.string q.name, .int .i64 q.epoch, .string q.ver, .string q.rel, .int .u8 q.arch, .string q.vendor, .slice q.provA q.prov.length q.provC, .slice q.reqA q.req.length q.reqC, .slice q.conA q.con.length q.conC, .slice q.obsA q.obs.length q.obsC, .slice q.rcmA q.rcm.length q.rcmC, .slice q.supA q.sup.length q.supC, .slice q.sugA q.sug.length q.sugC, .slice q.enhA q.enh.length q.enhC, .slice q.filesA q.files.length q.filesC] 33)) :
    NmP (· = w.heap.size) w.heap.size q w V ∧ RdS encD 5 (· = w.heap.size) q.provA q.provC q.prov V := by
  subst hV
  have hb := (Below.refl w.heap.size w).alloc (Nat.le_refl _) (.cells #[.string q.name, .int .i64 q.epoch, .string q.ver, .string q.rel, .int .u8 q.arch, .string q.vendor, .slice q.provA q.prov.length q.provC, .slice q.reqA q.req.length q.reqC, .slice q.conA q.con.length q.conC, .slice q.obsA q.obs.length q.obsC, .slice q.rcmA q.rcm.length q.rcmC, .slice q.supA q.sup.length q.supC, .slice q.sugA q.sug.length q.sugC, .slice q.enhA q.enh.length q.enhC, .slice q.filesA q.files.length q.filesC] 33)
  have hX : ∀ b, b < w.heap.size → ¬ b = w.heap.size := fun b h e => by omega
  have hL := LaidS.of (X := (· = w.heap.size)) (hl.below hb) hb.size hX
  refine ⟨⟨hb, Nat.le_refl _, rfl, ⟨PkAt.new w q, fun i hi => by simp [go_sem], by simp⟩, { hL with prov := .none_, provW := fun d hd => by cases hd }⟩, hL.prov⟩
theorem NmP.at_ {X : Nat → Prop} {b : Nat} {q : Pk} {wr W : World} (h : NmP X b q wr W) : PkAt W b q := h.box.1
theorem NmP.full {X : Nat → Prop} {b : Nat} {q : Pk} {wr W : World} (h : NmP X b q wr W) (hp : RdS encD 5 X q.provA q.provC q.prov W) (hw : ∀ d ∈ q.prov, d.wf) : q.Laid W.heap.size W := h.all hp.rd hw
theorem gs0 {q : Pk} {A : Option Addr} (h : q = g0 A) : Alike GS0 q := by subst h; exact ⟨rfl, rfl, rfl, rfl, rfl, rfl, rfl, rfl, rfl, rfl, rfl, rfl, rfl, rfl, rfl⟩
theorem gs1 {q r : Pk} {A : Option Addr} {c : Nat} {l : List RV} (h : Alike GS0 q) (hr : r = { q with reqA := A, reqC := c, req := l }) (hl : treeL l = treeL GS1.req) : Alike GS1 r := by subst hr; exact { h with req := hl }
theorem gs2 {q r : Pk} {A : Option Addr} {c : Nat} {l : List RV} (h : Alike GS1 q) (hr : r = { q with conA := A, conC := c, con := l }) (hl : treeL l = treeL GS2.con) : Alike GS2 r := by subst hr; exact { h with con := hl }
theorem gs3 {q r : Pk} {A : Option Addr} {c : Nat} {l : List RV} (h : Alike GS2 q) (hr : r = { q with supA := A, supC := c, sup := l }) (hl : treeL l = treeL GS3.sup) : Alike GS3 r := by subst hr; exact { h with sup := hl }
theorem gs4 {q r : Pk} {A : Option Addr} {c : Nat} {l : List ByteArray} (h : Alike GS3 q) (hr : r = { q with filesA := A, filesC := c, files := l }) (hl : l = GS4.files) : Alike GS4 r := by subst hr; exact { h with files := hl }
theorem gs5 {q r : Pk} (h : Alike GS4 q) (hr : r = { q with vendor := vInc }) : Alike GS5 r := by subst hr; exact { h with vendor := rfl }
theorem gsz {q r : Pk} {l : List Dp} (h : Alike GS5 q) (hr : r = { q with prov := l }) (hl : l = List.replicate 32 xD) : Alike GZ r := by subst hr; exact { h with prov := hl }
theorem set_alloc (W : World) (o : Obj) (a : Addr) (v : Value) (h : a.block < W.heap.size) : (W.alloc o).setCell a v = (W.setCell a v).alloc o := by
  unfold World.setCell World.alloc
  dsimp only
  congr 1
  refine Array.ext (by simp) fun i h1 h2 => ?_
  rw [Array.getElem_modify, Array.getElem_push, Array.getElem_push]
  by_cases e : a.block = i
  · subst e
    simp [h, Array.getElem_modify]
  · by_cases hi : i < W.heap.size
    · simp [e, hi, Array.getElem_modify]
    · simp [e, hi]
theorem rep_set (i : Nat) (h : i < 32) : (List.replicate i xD ++ List.replicate (32 - i) zeroT).set i xD = List.replicate (i + 1) xD ++ List.replicate (32 - (i + 1)) zeroT := by
  have e : List.replicate (32 - i) zeroT = zeroT :: List.replicate (32 - (i + 1)) zeroT := by rw [show 32 - i = (32 - (i + 1)) + 1 by omega]; rfl
  rw [List.set_append_right _ _ (by simp), e]
  simp [List.replicate_succ', List.append_assoc]
theorem own_rdA {α : Type} {enc : α → List Value} {size base : Nat} {e : TypeId} {l : List α} {A : Option Addr} {n c : Nat} {w : World} (h : Own enc size base e (.slice A n c) l w) (he : ∀ x, (enc x).length = size) : Rd enc size w.heap.size A c l w := by
  obtain ⟨A', c', e2, hr⟩ := h.rd he
  simp only [Value.slice.injEq] at e2
  obtain ⟨rfl, _, rfl⟩ := e2
  exact hr
set_option maxRecDepth 100000 in
set_option maxHeartbeats 4000000 in
theorem build1D (W : World) (a b c d e : Value) : (Instr.buildSlice 30 1 #[(0, .agg #[a, b, c, d, e])]).run Tryd.prog W = .ok (.slice (some ⟨W.heap.size, 0, none⟩) 1 1) (W.alloc (.cells #[a, b, c, d, e] 25)) := by
  go_simp
set_option maxRecDepth 100000 in
set_option maxHeartbeats 4000000 in
theorem build1R (W : World) (a b c d e f g : Value) : (Instr.buildSlice 26 1 #[(0, .agg #[a, b, c, d, e, f, g])]).run Tryd.prog W = .ok (.slice (some ⟨W.heap.size, 0, none⟩) 1 1) (W.alloc (.cells #[a, b, c, d, e, f, g] 28)) := by
  go_simp
theorem op_build1D {o : Oper} {t : Act} {w : World} {K : Act → World → Prop} {Q : Exit → Act → World → Prop} (x : Operand) (a b c d e : Value) (ho : o.op = .buildSlice 30 1 #[(0, x)]) (hx : t.eval x = .agg #[a, b, c, d, e]) (h : K (t.put o.dst (.slice (some ⟨w.heap.size, 0, none⟩) 1 1)) (w.alloc (.cells #[a, b, c, d, e] 25))) : Oper.wp Tryd.prog o t w K Q := by
  have hr := build1D w a b c d e
  unfold Oper.wp
  simp [execOp, ho, hx, hr, Result.andThen]
  exact h
theorem op_build1R {o : Oper} {t : Act} {w : World} {K : Act → World → Prop} {Q : Exit → Act → World → Prop} (x : Operand) (a b c d e f g : Value) (ho : o.op = .buildSlice 26 1 #[(0, x)]) (hx : t.eval x = .agg #[a, b, c, d, e, f, g]) (h : K (t.put o.dst (.slice (some ⟨w.heap.size, 0, none⟩) 1 1)) (w.alloc (.cells #[a, b, c, d, e, f, g] 28))) : Oper.wp Tryd.prog o t w K Q := by
  have hr := build1R w a b c d e f g
  unfold Oper.wp
  simp [execOp, ho, hx, hr, Result.andThen]
  exact h
def lowP : Pk := { P1 with name := ⟨#[111, 108, 100]⟩, ver := ⟨#[48]⟩ }
def othP : Pk := { lowP with ver := ⟨#[50]⟩ }
def obD : Dp := ⟨[111, 108, 100], 1, ⟨0, [49], []⟩⟩
def viD : Dp := ⟨[111, 108, 100], 2, ⟨0, [48], []⟩⟩
def highP (a : Nat) : Pk := { P1 with obsA := some ⟨a, 0, none⟩, obsC := 1, obs := [obD] }
def viaP (a : Nat) : Pk := { P1 with provA := some ⟨a, 0, none⟩, provC := 1, prov := [viD] }
theorem low_laid (W : World) : lowP.Laid W.heap.size W := { p1_laid W with n0 := by decide, n1 := by decide }
theorem high_laid {a : Nat} {W : World} (h : Rd encD 5 W.heap.size (some ⟨a, 0, none⟩) 1 [obD] W) : (highP a).Laid W.heap.size W := { p1_laid W with obs := h, obsW := fun d hd => (show d = obD by simpa [highP] using hd) ▸ (show obD.wf from ⟨by decide, rfl, rfl, by decide, by decide⟩) }
theorem low_small : lowP.small := { p1_small with name := by decide, ver := by decide }
theorem high_small (a : Nat) : (highP a).small := { p1_small with obsN := by show [obD].length ≤ 100; decide, obs := fun d hd => (show d = obD by simpa [highP] using hd) ▸ (show obD.small from ⟨by decide, by decide, by decide⟩) }
theorem low_ok : lowP.evr.ok := ⟨by decide +kernel, by decide +kernel⟩
theorem oth_ok : othP.evr.ok := ⟨by decide +kernel, by decide +kernel⟩
theorem hl_yes : ([obD].any fun d => meetsN lowP.ownD d) = true := by kernel_rfl
theorem ho_no : ([obD].any fun d => meetsN othP.ownD d) = false := by kernel_rfl
theorem hv_no : ([obD].any fun d => meetsN P1.ownD d) = false := by kernel_rfl
theorem rd_setN {α : Type} {enc : α → List Value} {size a b o c : Nat} {l : List α} {W : World} {v : Value} (h : Rd enc size W.heap.size (some ⟨a, 0, none⟩) c l W) (hne : a ≠ b) : Rd enc size (W.setCell ⟨b, o, none⟩ v).heap.size (some ⟨a, 0, none⟩) c l (W.setCell ⟨b, o, none⟩ v) := by
  refine ⟨h.1, h.2.1, fun k hk => ?_⟩
  obtain ⟨b', o', e, hb, hc⟩ := h.2.2 k hk
  cases e
  exact ⟨a, 0, rfl, by simpa [World.setCell] using hb, fun j u hu => (sc_other (fun e2 => by simp only [Addr.mk.injEq] at e2; exact hne e2.1.symm)).trans (hc j u hu)⟩
theorem rd_lt {α : Type} {enc : α → List Value} {size a c : Nat} {l : List α} {W : World} (h : Rd enc size W.heap.size (some ⟨a, 0, none⟩) c l W) (hl : 0 < l.length) : a < W.heap.size := by
  obtain ⟨b', o', e, hb, hc⟩ := h.2.2 0 hl
  cases e
  exact hb
theorem early_alike {p q : Pk} (h : Alike p q) : earlyB q = earlyB p := by unfold earlyB; rw [h.name, h.evr, h.arch, h.vendor, h.prov]
theorem gb_early8 : earlyB (GB 8) = false := by kernel_rfl
theorem set16 : (((List.replicate 32 xD).flatMap encD).set 16 (.int .u8 5)) = ((List.replicate 32 xD).set 3 xB).flatMap encD := by kernel_rfl
theorem xB_wf : xB.wf := ⟨by decide, rfl, rfl, by decide, by decide⟩
theorem yD_wf : yD.wf := ⟨by decide, rfl, rfl, by decide, by decide⟩
/-- a Provides' Op is written -/
theorem nm_op {base g c : Nat} {e : TypeId} {l : List Dp} {W : World} (h : Own encD 5 base e (.slice (some ⟨g, 0, none⟩) l.length c) l W) (hl : l = List.replicate 32 xD) : W.cell? ⟨g, 16, none⟩ = some (.int .u8 0) ∧ W.frozen? ⟨g, 16, none⟩ = false ∧ Rd encD 5 (W.setCell ⟨g, 16, none⟩ (.int .u8 5)).heap.size (some ⟨g, 0, none⟩) c ((List.replicate 32 xD).set 3 xB) (W.setCell ⟨g, 16, none⟩ (.int .u8 5)) := by
  subst hl
  have hr := own_rdA h encD_len
  obtain ⟨b, o, e1, _, hc⟩ := hr.2.2 3 (by decide)
  cases e1
  refine ⟨hc 1 _ rfl, own_frozen h 16, ?_⟩
  have h2 := ownsRow_setCell h 16 (.int .u8 5)
  rw [set16] at h2
  exact own_rdA (l := (List.replicate 32 xD).set 3 xB) h2 encD_len
theorem infoU8N : (Tryd.prog.info? 5).map (fun i => (i.zero, i.size, i.bytes)) = some (some (.int .u8 0), 1, 1) := by kernel_rfl
def byte65 : Array Value := madeCells (Value.int .u8 0).cells 65
def z65 : ByteArray := bs (List.replicate 65 0)
theorem byte65_is : byte65 = (z65.data.toList.map fun x => Value.int .u8 (x.toNat : Int)).toArray := by kernel_rfl
theorem make65 (W : World) : (Instr.makeSlice 37 (.int .i64 65) (.int .i64 65)).run Tryd.prog W = .ok (.slice (some ⟨W.heap.size, 0, none⟩) 65 65) (W.alloc (.cells byte65 5)) := by
  obtain ⟨i0, hi, h0, h1, h2⟩ := info_partsN infoU8N
  have h := run_makeSlice (P := Tryd.prog) W 37 5 i0 _ Tryd.underlying37 hi h0 .i64 .i64 65 65 (by decide) (by decide) (by rw [h1]; decide) (by rw [h2]; decide) (by decide)
  rw [h1] at h
  exact h
theorem conv65 (W : World) : (convert 37 9 (.slice (some ⟨W.heap.size, 0, none⟩) 65 65)).run Tryd.prog (W.alloc (.cells byte65 5)) = .ok (.string z65) (W.alloc (.cells byte65 5)) := by
  refine Go.Lib.run_convert_whole (P := Tryd.prog) (W.alloc (.cells byte65 5)) 37 5 9 Tryd.underlying37 Tryd.underlying5 Tryd.underlying9 W.heap.size 0 z65 (fun i hi => ?_) 65
  rw [Nat.zero_add, byte65_is]
  refine (World.cell?_alloc_at _ _ _ _ rfl).trans ?_
  simp [hi]
  rfl
theorem Box15.blk {b : Nat} {q : Pk} {W W' : World} (h : Box15 b q W) (hb : W'.heap[b]? = W.heap[b]?) : Box15 b q W' := by
  obtain ⟨⟨hl, c0, c1, c2, c3, c4, c5, c6, c7, c8, c9, c10, c11, c12, c13, c14⟩, hf, hlt⟩ := h
  have hz : b < W'.heap.size := by
    refine Classical.byContradiction fun hn => ?_
    rw [Array.getElem?_eq_none (by omega), Array.getElem?_eq_getElem hlt] at hb
    cases hb
  have k : ∀ i, W'.cell? ⟨b, i, none⟩ = W.cell? ⟨b, i, none⟩ := fun i => World.cell?_of_block (w := W) (a := ⟨b, i, none⟩) hb
  exact ⟨⟨hz, (k 0).trans c0, (k 1).trans c1, (k 2).trans c2, (k 3).trans c3, (k 4).trans c4, (k 5).trans c5, (k 6).trans c6, (k 7).trans c7, (k 8).trans c8, (k 9).trans c9, (k 10).trans c10, (k 11).trans c11, (k 12).trans c12, (k 13).trans c13, (k 14).trans c14⟩, fun i hi => (World.frozen?_of_block (w := W) (a := ⟨b, i, none⟩) hb).trans (hf i hi), hz⟩
theorem p1_may : mayP P1 = true := by kernel_rfl
theorem p1_deep : P1.deepOk := deep_chk (by kernel_rfl)
theorem xD_wf : xD.wf := ⟨by decide, rfl, rfl, by decide, by decide⟩
end Go.Proofs.YtcpjignlhlcnpaaDoor
