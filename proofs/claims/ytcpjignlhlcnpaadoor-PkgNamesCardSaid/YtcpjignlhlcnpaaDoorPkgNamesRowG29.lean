/- PkMayA -/
import Derived.Test.YtcpjignlhlcnpaaDoorPkgNamesRowG17
import Derived.Test.YtcpjignlhlcnpaaDoorPkgNamesRowG28
import Derived.Test.YtcpjignlhlcnpaaDoorPkgNamesRowG10
import Derived.Laws.EntriesVeiled
set_option linter.unusedSimpArgs false
set_option linter.unusedVariables false
/- Walk: whether any package may be (pkg.May). -/




namespace Go.Proofs.YtcpjignlhlcnpaaDoor
open Go.RowKit Go.Shelf
set_option linter.unusedVariables false
attribute [local go_sem] Oper.semAt_some
attribute [local go_sem ↓ high] asked_wide

def archB (a : Int) : Bool := decide (1 ≤ a ∧ a ≤ 4)
def archT (a : Int) : ByteArray := if a = 1 then ⟨#[110, 111, 97, 114, 99, 104]⟩ else if a = 2 then ⟨#[120, 56, 54, 95, 54, 52]⟩ else if a = 3 then ⟨#[105, 54, 56, 54]⟩ else if a = 4 then ⟨#[97, 97, 114, 99, 104, 54, 52]⟩ else ⟨#[]⟩
theorem archT_yes {a : Int} (h : archB a = true) : (archT a).toList ≠ [] := by
  have h2 := of_decide_eq_true h
  intro h
  have h3 := congrArg List.length h
  rw [size_toList] at h3
  obtain rfl | rfl | rfl | rfl : a = 1 ∨ a = 2 ∨ a = 3 ∨ a = 4 := by omega
  all_goals exact absurd h3 (by decide)
theorem archT_no {a : Int} (h : archB a = false) : archT a = ⟨#[]⟩ := by
  have h2 := of_decide_eq_false h
  unfold archT
  repeat' split
  all_goals first | rfl | omega
set_option maxRecDepth 100000 in
set_option maxHeartbeats 16000000 in
theorem archis_any (a : Int) (w : World) : Calls Tryd.prog 30 #[.int .u8 a] w fun r w' => r = .returned (.bool (archB a)) ∧ Below w.heap.size w w' := by
  by_cases h1 : 1 ≤ a
  · by_cases h2 : a ≤ 4
    · rw [show archB a = true from decide_eq_true ⟨h1, h2⟩]
      go_enter Tryd.func30, Tryd.ntmps30
      go_wp2
      go_ret
      exact ⟨rfl, Below.refl _ _⟩
    · rw [show archB a = false from decide_eq_false (by omega)]
      go_enter Tryd.func30, Tryd.ntmps30
      go_wp2
      go_ret
      exact ⟨rfl, Below.refl _ _⟩
  · rw [show archB a = false from decide_eq_false (by omega)]
    go_enter Tryd.func30, Tryd.ntmps30
    go_wp2
    go_ret
    exact ⟨rfl, Below.refl _ _⟩
set_option maxRecDepth 100000 in
set_option maxHeartbeats 16000000 in
theorem archname_any (a : Int) (w : World) : Calls Tryd.prog 13 #[.int .u8 a] w fun r w' => r = .returned (.string (archT a)) ∧ Below w.heap.size w w' := by
  cases hq : archB a with
  | false =>
    rw [archT_no hq]
    have IS := Lib.hid (hq ▸ archis_any a w)
    clear hq
    go_enter Tryd.func13, Tryd.ntmps13
    go_wp2_with fail
    go_at_call 30
    refine IS.out.mono ?_
    rintro e w2 ⟨rfl, h⟩
    go_wp2_with fail
    go_ret
    exact ⟨rfl, h⟩
  | true =>
    have IS := Lib.hid (hq ▸ archis_any a w)
    have hh := of_decide_eq_true hq
    have IX : ∀ W : World, (Instr.index 61 (.agg #[.string ⟨#[]⟩, .string ⟨#[110, 111, 97, 114, 99, 104]⟩, .string ⟨#[120, 56, 54, 95, 54, 52]⟩, .string ⟨#[105, 54, 56, 54]⟩, .string ⟨#[97, 97, 114, 99, 104, 54, 52]⟩]) (.int .u8 a)).run Tryd.prog W = .ok (.string (archT a)) W := by
      intro W
      obtain rfl | rfl | rfl | rfl : a = 1 ∨ a = 2 ∨ a = 3 ∨ a = 4 := by omega
      all_goals rfl
    have IXH := Lib.hid IX
    clear hq hh IX
    go_enter Tryd.func13, Tryd.ntmps13
    go_wp2_with fail
    go_at_call 30
    refine IS.out.mono ?_
    rintro e w2 ⟨rfl, h⟩
    go_wp2_with fail
    go_at_call 31
    refine (archnames _).mono ?_
    rintro e w3 ⟨rfl, h3⟩
    have IX := IXH.out w3
    go_wp2
    go_ret
    exact ⟨rfl, h.trans (h3.mono h.size)⟩
/-- texts in their row, each less than the next one -/
def riseB (l : List ByteArray) : Bool := (List.range (l.length - 1)).all fun j => Op.bytesLess (l.getD j ⟨#[]⟩).toList (l.getD (j + 1) ⟨#[]⟩).toList
theorem rise_no {l : List ByteArray} {k : Nat} (h : k + 1 < l.length) (hb : Op.bytesLess l[k].toList l[k + 1].toList = false) : riseB l = false := by
  rw [riseB, List.all_eq_false]
  refine ⟨k, by simp; omega, ?_⟩
  rw [List.getD_eq_getElem?_getD, List.getD_eq_getElem?_getD, List.getElem?_eq_getElem (show k < l.length by omega), List.getElem?_eq_getElem h]
  simpa using hb
theorem rise_yes {l : List ByteArray} (h : ∀ j (hj : j + 1 < l.length), Op.bytesLess l[j].toList l[j + 1].toList = true) : riseB l = true := by
  rw [riseB, List.all_eq_true]
  intro j hj
  have hj2 : j + 1 < l.length := by simp at hj; omega
  rw [List.getD_eq_getElem?_getD, List.getD_eq_getElem?_getD, List.getElem?_eq_getElem (show j < l.length by omega), List.getElem?_eq_getElem hj2]
  exact h j hj2
def listB (x : LX) : Bool := decide (x.l.length ≤ 32) && x.l.all (okR x.wh)
/-- may it be? -/
def mayP (p : Pk) : Bool := nameB p.name.toList && (!fileB p.name.toList && (mayB p.evr false && (archB p.arch && (decide (p.vendor.size ≤ 64) && ((decide (p.prov.length ≤ 32) && p.prov.all dmayB) && ((decide (p.obs.length ≤ 32) && p.obs.all dmayB) && ((decide (p.files.length ≤ 32) && p.files.all fileS) && (riseB p.files && (LS p).all listB))))))))
/-- each rich dependency's parts have bytes as kinds, and are not too many -/
def Pk.deepOk (p : Pk) : Prop := ∀ x ∈ LS p, ∀ t ∈ x.l, KO t ∧ t.tree.parts ≤ 1000000
theorem Boxed.callsA {W W' : World} {B : Nat} {t : TypeId} {v : Value} (h : Boxed W B t v) (hb : Below W.heap.size W W') : Boxed W' B t v := (hb.block B h.lt).trans h
theorem evmay_pkA (p : Pk) (w : World) (hw : p.evr.wf) : Calls Tryd.prog 12 #[.agg #[.int .i64 p.epoch, .string p.ver, .string p.rel], .bool false] w fun r w' => r = .returned (.bool (mayB p.evr false)) ∧ Below w.heap.size w w' := by
  have h := evMay_any p.evr false w hw
  unfold Evr.val Pk.evr at h
  dsimp only at h
  rw [bs_of, bs_of] at h
  unfold Pk.evr
  exact h
theorem kp_tA {Bs : Nat} {A B C : World} (h : KP Bs A B) (k : KP Bs B C) : KP Bs A C := ⟨fun i => (k.1 i).trans (h.1 i), Nat.le_trans h.2 k.2⟩
theorem kp_bA {Bs : Nat} {w : World} (hn : Bs < w.heap.size) (W : World) (l : Nat) (o o' : Obj) (hl : w.heap.size ≤ l) (_ : W.heap[l]? = some o) (_ : o.isCells = false) (_ : o.isWalk = false) : KP Bs W (W.putObj l o') :=
  ⟨fun i => World.cell?_of_block (World.putObj_heap_other (by simp; omega)), (grownBy_putObj' W l o').size⟩
theorem kp_callsA {Bs : Nat} {W W' : World} (hn : Bs < W.heap.size) (h : Below W.heap.size W W') : KP Bs W W' := ⟨fun i => h.cell (p := ⟨Bs, i, none⟩) hn, h.size⟩
theorem kp_pastA {Bs n : Nat} {W W' : World} (hn : Bs < n) (h : Below n W W') : KP Bs W W' := ⟨fun i => h.cell (p := ⟨Bs, i, none⟩) hn, h.size⟩
theorem kp_setA {Bs R : Nat} (W : World) (hn : R ≠ Bs) (v : Value) : KP Bs W (W.setCell ⟨R, 0, none⟩ v) := ⟨fun i => World.cell?_setCell_other _ _ _ _ (by simp [hn]), by simp [World.setCell]⟩
theorem kp_allocA {Bs : Nat} {W : World} {o : Obj} (h : Bs < W.heap.size) : KP Bs W (W.alloc o) := kp_callsA h ((Below.refl _ _).alloc (Nat.le_refl _) _)
theorem kp_atA {Bs : Nat} {W W' : World} {p : Pk} (h : PkAt W Bs p) (k : KP Bs W W') : PkAt W' Bs p := by
  obtain ⟨hl, c0, c1, c2, c3, c4, c5, c6, c7, c8, c9, c10, c11, c12, c13, c14⟩ := h
  exact ⟨Nat.lt_of_lt_of_le hl k.2, (k.1 0).trans c0, (k.1 1).trans c1, (k.1 2).trans c2, (k.1 3).trans c3, (k.1 4).trans c4, (k.1 5).trans c5, (k.1 6).trans c6, (k.1 7).trans c7, (k.1 8).trans c8, (k.1 9).trans c9, (k.1 10).trans c10, (k.1 11).trans c11, (k.1 12).trans c12, (k.1 13).trans c13, (k.1 14).trans c14⟩
theorem lists_stopsA (n : Nat) (Bs : Nat) (p : Pk) (w : World) (hB : PkAt w Bs p) : SeqStopsK Fence.wide n Tryd.prog 36 #[.pointer (some ⟨Bs, 0, none⟩)] (lxArgs (p := p)) (KP Bs) (fun ys => ys = LSA p) (fun pre => pre <+: LSA p) 6 w :=
  fun l J Jx W hW hJ _ hY h0 => lists1_in n l Bs p J Jx hY W (kp_atA hB (kp_callsA hB.1 hW)) h0
/-- what lies between pkg.May's steps: its boxes -/
structure PMay (w : World) (p : Pk) (r : Bool) (W : World) : Prop where
  old : Below w.heap.size w W
  box : PkAt W w.heap.size p
  res : Boxed W (w.heap.size + 1) 4 (.bool r)
section
variable {w W W' : World} {p : Pk} {r : Bool}
theorem PMay.then (h : PMay w p r W) (hb : Below W.heap.size W W') : PMay w p r W' := ⟨h.old.trans (hb.mono h.old.size), h.box.calls hb, Boxed.callsA h.res hb⟩
theorem PMay.past (h : PMay w p r W) (hb : Below (w.heap.size + 2) W W') : PMay w p r W' := ⟨h.old.trans (hb.mono (by omega)), kp_atA h.box (kp_pastA (by omega) hb), (hb.block (w.heap.size + 1) (by omega)).trans h.res⟩
theorem PMay.set (h : PMay w p r W) (q : Bool) : PMay w p q (W.setCell ⟨w.heap.size + 1, 0, none⟩ (.bool q)) :=
  ⟨h.old.setCell (p := ⟨w.heap.size + 1, 0, none⟩) (by show w.heap.size ≤ w.heap.size + 1; omega) _, kp_atA h.box (kp_setA _ (by omega) _), h.res.set _⟩
theorem PMay.own {B : Nat} (hB : w.heap.size + 2 ≤ B) {β : Type} (Q : List β → Prop) (b : Nat) : OwnFrom B (fun (s : List β) W => Q s ∧ PMay w p r W ∧ b ≤ W.heap.size) := by
  intro s A C row hs hg hr
  have hl := hs.2.1.res.lt
  exact ⟨hs.1, hs.2.1.past ((Below.refl _ A).grown hg (by omega) (fun k e => Nat.le_trans hB (hr k e).1)), Nat.le_trans hs.2.2 hg.size⟩
theorem PMay.new (w : World) (p : Pk) : PMay w p false ((w.alloc (.cells #[.string p.name, .int .i64 p.epoch, .string p.ver, .string p.rel, .int .u8 p.arch, .string p.vendor, .slice p.provA p.prov.length p.provC, .slice p.reqA p.req.length p.reqC, .slice p.conA p.con.length p.conC, .slice p.obsA p.obs.length p.obsC, .slice p.rcmA p.rcm.length p.rcmC, .slice p.supA p.sup.length p.supC, .slice p.sugA p.sug.length p.sugC, .slice p.enhA p.enh.length p.enhC, .slice p.filesA p.files.length p.filesC] 33)).alloc (.cells #[.bool false] 4)) := by
  have z1 : (w.alloc (.cells #[.string p.name, .int .i64 p.epoch, .string p.ver, .string p.rel, .int .u8 p.arch, .string p.vendor, .slice p.provA p.prov.length p.provC, .slice p.reqA p.req.length p.reqC, .slice p.conA p.con.length p.conC, .slice p.obsA p.obs.length p.obsC, .slice p.rcmA p.rcm.length p.rcmC, .slice p.supA p.sup.length p.supC, .slice p.sugA p.sug.length p.sugC, .slice p.enhA p.enh.length p.enhC, .slice p.filesA p.files.length p.filesC] 33)).heap.size = w.heap.size + 1 := by simp
  refine ⟨((Below.refl _ _).alloc (Nat.le_refl _) _).alloc (by rw [z1]; omega) _, (PkAt.new w p).calls ((Below.refl _ _).alloc (Nat.le_refl _) _), ?_⟩
  have h := Boxed.new (w.alloc (.cells #[.string p.name, .int .i64 p.epoch, .string p.ver, .string p.rel, .int .u8 p.arch, .string p.vendor, .slice p.provA p.prov.length p.provC, .slice p.reqA p.req.length p.reqC, .slice p.conA p.con.length p.conC, .slice p.obsA p.obs.length p.obsC, .slice p.rcmA p.rcm.length p.rcmC, .slice p.supA p.sup.length p.supC, .slice p.sugA p.sug.length p.sugC, .slice p.enhA p.enh.length p.enhC, .slice p.filesA p.files.length p.filesC] 33)) 4 (.bool false)
  rw [z1] at h
  exact h
end
def PmI (w : World) (p : Pk) (b : Nat) (pre : List (LXof p)) (W : World) : Prop := (∀ x ∈ pre, listB x.1 = true) ∧ PMay w p false W ∧ b ≤ W.heap.size
def PmX (w : World) (p : Pk) (b : Nat) (c : Code) (pre : List (LXof p)) (W : World) : Prop := (c = .ret ∧ ∃ x ∈ pre, listB x.1 = false) ∧ PMay w p false W ∧ b ≤ W.heap.size
def WBoxA (x : Int) (b : Nat) (W : World) : Prop := Boxed W b 5 (.int .u8 x)
theorem wbox_ownA (B : Nat) (x : Int) (a' : Act) (f : Nat → Act) : OwnFrom B (fun (_ : Unit) W => ∃ b, a' = f b ∧ WBoxA x b W) := by
  rintro _ X Y row ⟨b, e, hb⟩ hg hrow
  refine ⟨b, e, (hg.block b (Array.getElem?_eq_some_iff.1 hb).1 (fun e2 => ?_)).trans hb⟩
  obtain ⟨_, o, ho, hc⟩ := hrow b e2.symm
  rw [show X.heap[b]? = _ from hb] at ho
  cases ho
  cases hc
/-- a range over a function whose loop variable is boxed: what the assign code leaves is told by the frame's own update -/
theorem wpIn_rangeFunc_ownA {F : Fence} {n : Nat} {P : Program} {w : World} {α : Type} {g : Operand} {ps : Array Tmp} {assign body : Code} {Q : Exit → Act → World → Prop} {a : Act}
    (hro : F.round = none) (h1 : 1 ≤ n) {gf : Nat} {lb : Array Value} (hg : a.eval g = .func (.func gf) #[] lb) (hFg : F.fn gf) (eg : ∀ args w, (callFunc gf args).run P w = .ok (.enter gf args) w)
    {encs : α → Array Value} {Kp : World → World → Prop} {S Sp : List α → Prop} {N : Nat} {w0 : World} (hseq : SeqStopsK F (n - 1) P gf lb encs Kp S Sp N w0)
    (hKt : ∀ {A B C : World}, Kp A B → Kp B C → Kp A C) (hKb : ∀ (W : World) (l : Nat) (o o' : Obj), w.heap.size ≤ l → W.heap[l]? = some o → o.isCells = false → o.isWalk = false → Kp W (W.putObj l o')) (hb0 : Below w0.heap.size w0 w) (hps : ∀ x, (encs x).size = ps.size)
    (I : List α → World → Prop) (Ix : Code → List α → World → Prop) (hI : OwnFrom w.heap.size I) (hIx : ∀ c, OwnFrom w.heap.size (Ix c)) (h0 : I [] w) (upd : Act → α → Nat → Act) (BX : α → Nat → World → Prop) (hAx : ∀ x a', OwnFrom w.heap.size (fun (_ : Unit) W => ∃ b, a' = upd a x b ∧ BX x b W))
    (hassign : ∀ (l : Nat) (pre : List α) (x : α) (W : World) (K : Act → World → Prop), I pre W → (∀ a' W', KeepsFrom w.heap.size W W' → Kp W W' → I pre W' → (∃ b, a' = upd a x b ∧ BX x b W') → K a' W') →
      assign.wpIn (F.inRound l) (n - 1 - 1) P (Exit.then K (fun _ _ _ => False)) { tmps := (ps.zip (encs x)).foldl (fun t (p, v) => t.setIfInBounds p v) a.tmps, defers := [] } W)
    (hbody : ∀ (l : Nat) (pre : List α) (x : α) (b : Nat) (W : World), w.heap.size ≤ l → I pre W → BX x b W → pre.length < N → body.wpIn (F.inRound l) (n - 1 - 1) P (ownPostG w.heap.size Kp I Ix (pre ++ [x]) W) (upd a x b) W)
    (hdone : ∀ (D : Nat) (xs : List α) (W : World), w.heap.size ≤ D → S xs → I xs W → W.heap[D]? = some (.deferred (some [])) → Q .normal { a with defers := { target := .collected D, args := #[] } :: a.defers } W)
    (hstop : ∀ (D : Nat) (c : Code) (pre : List α) (W : World), w.heap.size ≤ D → Sp pre → Ix c pre W → W.heap[D]? = some (.deferred (some [])) → c.wpIn F n P Q { a with defers := { target := .collected D, args := #[] } :: a.defers } W) :
    (Code.rangeFunc g ps assign body).wpIn F n P Q a w :=
  wpIn_rangeFunc_ownH hro h1 hg hFg eg hseq hKt hKb hb0 hps I Ix hI hIx h0 (fun x a' W => ∃ b, a' = upd a x b ∧ BX x b W) hAx hassign (fun l pre x a' W hl _ hi ⟨b, e, hb⟩ hlen => by subst e; exact hbody l pre x b W hl hi hb hlen) hdone hstop
/-- the frame with what a round is told: the box of the place, the list -/
def updA (a : Act) (wv : Value) (lv : Value) (b : Nat) (t1 t2 : Nat) : Act := { tmps := (((a.tmps.setIfInBounds 5 (.pointer (some ⟨b, 0, none⟩))).setIfInBounds 6 lv).setIfInBounds t1 wv).setIfInBounds t2 lv, defers := [] }
theorem lx_wh {p : Pk} {x : LX} (h : x ∈ LS p) : 0 ≤ x.wh ∧ x.wh ≤ 255 := by
  simp only [LS, List.mem_cons, List.not_mem_nil, or_false] at h
  rcases h with rfl | rfl | rfl | rfl | rfl | rfl
  all_goals exact ⟨by dsimp only; omega, by dsimp only; omega⟩
theorem mem_LSA {p : Pk} {x : LX} (h : x ∈ LS p) : (⟨x, h⟩ : LXof p) ∈ LSA p := by
  have h2 := h
  simp only [LS, List.mem_cons, List.not_mem_nil, or_false] at h2
  rcases h2 with rfl | rfl | rfl | rfl | rfl | rfl <;> simp [LSA, lx0, lx1, lx2, lx3, lx4, lx5]
theorem lx_row {p : Pk} {B : Nat} {W : World} (hL : p.Laid B W) {x : LX} (h : x ∈ LS p) : RRow B W x.A x.c x.l := by
  simp only [LS, List.mem_cons, List.not_mem_nil, or_false] at h
  rcases h with rfl | rfl | rfl | rfl | rfl | rfl
  · exact hL.req
  · exact hL.con
  · exact hL.rcm
  · exact hL.sup
  · exact hL.sug
  · exact hL.enh
set_option maxRecDepth 100000 in
set_option maxHeartbeats 16000000 in
theorem pkmaya_in (p : Pk) (w : World) (hI : PkIn w) (hL : p.Laid w.heap.size w) (hD : p.deepOk) : CallsIn Fence.wide 8 Tryd.prog 6 #[p.val] w fun e w' => e = .returned (.bool (mayP p)) ∧ Below w.heap.size w w' := by
  have n0 := hL.n0
  have hw : p.evr.wf := ⟨hL.ep, by show p.ver.toList.length ≤ maxLen; rw [size_toList]; exact hL.n1, by show p.rel.toList.length ≤ maxLen; rw [size_toList]; exact hL.n2⟩
  obtain ⟨r1, h1⟩ : ∃ r, r = nameB p.name.toList := ⟨_, rfl⟩
  obtain ⟨r2, h2⟩ : ∃ r, r = fileB p.name.toList := ⟨_, rfl⟩
  obtain ⟨r3, h3⟩ : ∃ r, r = mayB p.evr false := ⟨_, rfl⟩
  obtain ⟨r4, h4⟩ : ∃ r, r = archB p.arch := ⟨_, rfl⟩
  obtain ⟨r6, h6⟩ : ∃ r, r = (decide (p.prov.length ≤ 32) && p.prov.all dmayB) := ⟨_, rfl⟩
  obtain ⟨r7, h7⟩ : ∃ r, r = (decide (p.obs.length ≤ 32) && p.obs.all dmayB) := ⟨_, rfl⟩
  obtain ⟨r8, h8⟩ : ∃ r, r = (decide (p.files.length ≤ 32) && p.files.all fileS) := ⟨_, rfl⟩
  have HM := Lib.hid (show mayP p = (r1 && (!r2 && (r3 && (r4 && (decide (p.vendor.size ≤ 64) && (r6 && (r7 && (r8 && (riseB p.files && (LS p).all listB))))))))) by rw [h1, h2, h3, h4, h6, h7, h8]; rfl)
  have NA := Lib.hid (fun W (h : Below w.heap.size w W) => dname_pk p.name W n0 (hI.below h))
  have FA := Lib.hid (fun W (h : Below w.heap.size w W) => dfile_pk p.name W n0 (hI.below h))
  have EA := Lib.hid (fun W => evmay_pkA p W hw)
  rw [← h1] at NA
  rw [← h2] at FA
  rw [← h3] at EA
  have AA := Lib.hid (fun W => archname_any p.arch W)
  obtain ⟨sa, hsa⟩ : ∃ s, s = archT p.arch := ⟨_, rfl⟩
  rw [← hsa] at AA
  have SAY := Lib.hid (show r4 = true → sa.toList ≠ [] from fun h => by rw [hsa]; exact archT_yes (h4 ▸ h))
  have SAN := Lib.hid (show r4 = false → sa = ⟨#[]⟩ from fun h => by rw [hsa]; exact archT_no (h4 ▸ h))
  have PA := Lib.hid (fun W (h : Below w.heap.size w W) => everydep_any p.prov p.provA p.provC W (hI.below h) ((hL.prov.below h).more h.size) hL.provW)
  have OA := Lib.hid (fun W (h : Below w.heap.size w W) => everydep_any p.obs p.obsA p.obsC W (hI.below h) ((hL.obs.below h).more h.size) hL.obsW)
  have SA := Lib.hid (fun W (h : Below w.heap.size w W) => everystr_any p.files p.filesA p.filesC W (hI.below h) ((hL.files.below h).more h.size) hL.filesW)
  rw [← h6] at PA
  rw [← h7] at OA
  rw [← h8] at SA
  have HLF := Lib.hid (show r8 = true → p.files.length ≤ 32 from fun h => by rw [h8] at h; simp only [Bool.and_eq_true, decide_eq_true_eq] at h; exact h.1)
  clear h1 h2 h3 h4 h6 h7 h8 hsa
  unfold mayF at PA OA
  unfold fileF at SA
  have LI := Lib.hid (fun W => pklists_any p W)
  have FR := Lib.hid hL.files
  have RR := Lib.hid (fun W (h : Below w.heap.size w W) (x : LX) (hx : x ∈ LS p) b0 (hb0 : b0 < W.heap.size ∧ W.cell? ⟨b0, 0, none⟩ = some (.int .u8 x.wh)) => (show Calls Tryd.prog 18 #[.slice x.A x.l.length x.c, .int .i64 32, mayV b0] W fun r w' => r = .returned (.bool (listB x)) ∧ Below W.heap.size W w' from everyrow_any x.wh (lx_wh hx) b0 x.l x.A x.c W (hI.below h) (((lx_row hL hx).below h).more h.size) (hD x hx) hb0))
  unfold mayV at RR
  have M0 := Lib.hid (PMay.new w p)
  clear hI hL n0 hw hD
  unfold Pk.val
  unfold Pk.val at LI
  refine callsIn_of_wp_marks Tryd.func6 rfl trivial ?_ rfl
  simp only [Tryd.ntmps6, List.size_toArray, List.length_cons, List.length_nil, Nat.reduceAdd, Nat.reduceSub, Array.replicate_succ, Array.replicate_zero, List.push_toArray, List.append_toArray, List.nil_append, List.cons_append]
  gi_wp2_with fail
  refine ⟨trivial, ?_⟩
  gi_at_call 10
  refine (callsIn_wide.2 (NA.out _ M0.out.old)).mono ?_
  rintro e wn1 ⟨rfl, h⟩
  have M1 := Lib.hid (M0.out.then h)
  clear h M0
  obtain ⟨hl, c0, c1, c2, c3, c4, c5, c6, c7, c8, c9, c10, c11, c12, c13, c14⟩ := M1.out.box
  have rc := M1.out.res.cell
  have rf := M1.out.res.frozen
  cases r1
  · gi_wp2_with fail; refine ⟨trivial, ?_⟩; gi_wp2_with fail; refine ⟨trivial, ?_⟩; gi_wp2_with fail
    refine ⟨.bool false, by simp [results, Tryd.results6, go_sem, (M1.out.set false).res.cell], by rw [HM.out]; rfl, (M1.out.set false).old⟩
  gi_wp2_with fail
  refine ⟨trivial, ?_⟩
  gi_at_call 11
  refine (callsIn_wide.2 (FA.out _ M1.out.old)).mono ?_
  rintro e wn2 ⟨rfl, h⟩
  have M2 := Lib.hid (M1.out.then h)
  clear h M1
  clear hl rc rf c0 c1 c2 c3 c4 c5 c6 c7 c8 c9 c10 c11 c12 c13 c14
  obtain ⟨hl, c0, c1, c2, c3, c4, c5, c6, c7, c8, c9, c10, c11, c12, c13, c14⟩ := M2.out.box
  have rc := M2.out.res.cell
  have rf := M2.out.res.frozen
  cases r2
  rotate_left
  · gi_wp2_with fail; refine ⟨trivial, ?_⟩; gi_wp2_with fail
    refine ⟨.bool false, by simp [results, Tryd.results6, go_sem, (M2.out.set false).res.cell], by rw [HM.out]; rfl, (M2.out.set false).old⟩
  gi_wp2_with fail
  refine ⟨trivial, ?_⟩
  gi_at_call 12
  refine (callsIn_wide.2 (EA.out _)).mono ?_
  rintro e wn3 ⟨rfl, h⟩
  have M3 := Lib.hid (M2.out.then h)
  clear h M2
  clear hl rc rf c0 c1 c2 c3 c4 c5 c6 c7 c8 c9 c10 c11 c12 c13 c14
  obtain ⟨hl, c0, c1, c2, c3, c4, c5, c6, c7, c8, c9, c10, c11, c12, c13, c14⟩ := M3.out.box
  have rc := M3.out.res.cell
  have rf := M3.out.res.frozen
  cases r3
  · gi_wp2_with fail
    refine ⟨.bool false, by simp [results, Tryd.results6, go_sem, (M3.out.set false).res.cell], by rw [HM.out]; rfl, (M3.out.set false).old⟩
  gi_wp2_with fail
  refine ⟨trivial, ?_⟩
  gi_at_call 13
  refine (callsIn_wide.2 (AA.out _)).mono ?_
  rintro e wn4 ⟨rfl, h⟩
  have M4 := Lib.hid (M3.out.then h)
  clear h M3
  clear hl rc rf c0 c1 c2 c3 c4 c5 c6 c7 c8 c9 c10 c11 c12 c13 c14
  obtain ⟨hl, c0, c1, c2, c3, c4, c5, c6, c7, c8, c9, c10, c11, c12, c13, c14⟩ := M4.out.box
  have rc := M4.out.res.cell
  have rf := M4.out.res.frozen
  cases r4
  · have e0 := SAN.out rfl
    clear SAN SAY
    subst e0
    gi_wp2_with fail
    refine ⟨.bool false, by simp [results, Tryd.results6, go_sem, (M4.out.set false).res.cell], by rw [HM.out]; rfl, (M4.out.set false).old⟩
  have s0 := SAY.out rfl
  have s1 : sa.toList.isEmpty = false := by simpa using s0
  have s2 : (!sa.toList.isEmpty) = true := by simpa using s0
  clear SAY SAN
  by_cases hv : (64 : Int) < (p.vendor.size : Int)
  · have hv2 : decide (p.vendor.size ≤ 64) = false := decide_eq_false (by omega)
    have HV := Lib.hid hv2
    clear hv2
    gi_wp2_with fail
    refine ⟨.bool false, by simp [results, Tryd.results6, go_sem, (M4.out.set false).res.cell], by rw [HM.out]; rw [HV.out]; rfl, (M4.out.set false).old⟩
  have HV := Lib.hid (show decide (p.vendor.size ≤ 64) = true from decide_eq_true (by omega))
  gi_wp2_with fail
  refine ⟨trivial, ?_⟩
  gi_at_call 14
  refine (callsIn_wide.2 (PA.out _ M4.out.old)).mono ?_
  rintro e wn5 ⟨rfl, h⟩
  have M5 := Lib.hid (M4.out.then h)
  clear h M4
  clear hl rc rf c0 c1 c2 c3 c4 c5 c6 c7 c8 c9 c10 c11 c12 c13 c14
  obtain ⟨hl, c0, c1, c2, c3, c4, c5, c6, c7, c8, c9, c10, c11, c12, c13, c14⟩ := M5.out.box
  have rc := M5.out.res.cell
  have rf := M5.out.res.frozen
  cases r6
  · gi_wp2_with fail; refine ⟨trivial, ?_⟩; gi_wp2_with fail; refine ⟨trivial, ?_⟩; gi_wp2_with fail
    refine ⟨.bool false, by simp [results, Tryd.results6, go_sem, (M5.out.set false).res.cell], by rw [HM.out]; rw [HV.out]; rfl, (M5.out.set false).old⟩
  gi_wp2_with fail
  refine ⟨trivial, ?_⟩
  gi_at_call 14
  refine (callsIn_wide.2 (OA.out _ M5.out.old)).mono ?_
  rintro e wn6 ⟨rfl, h⟩
  have M6 := Lib.hid (M5.out.then h)
  clear h M5
  clear hl rc rf c0 c1 c2 c3 c4 c5 c6 c7 c8 c9 c10 c11 c12 c13 c14
  obtain ⟨hl, c0, c1, c2, c3, c4, c5, c6, c7, c8, c9, c10, c11, c12, c13, c14⟩ := M6.out.box
  have rc := M6.out.res.cell
  have rf := M6.out.res.frozen
  cases r7
  · gi_wp2_with fail; refine ⟨trivial, ?_⟩; gi_wp2_with fail
    refine ⟨.bool false, by simp [results, Tryd.results6, go_sem, (M6.out.set false).res.cell], by rw [HM.out]; rw [HV.out]; rfl, (M6.out.set false).old⟩
  gi_wp2_with fail
  refine ⟨trivial, ?_⟩
  gi_at_call 16
  refine (callsIn_wide.2 (SA.out _ M6.out.old)).mono ?_
  rintro e wn7 ⟨rfl, h⟩
  have M7 := Lib.hid (M6.out.then h)
  clear h M6
  clear hl rc rf c0 c1 c2 c3 c4 c5 c6 c7 c8 c9 c10 c11 c12 c13 c14
  obtain ⟨hl, c0, c1, c2, c3, c4, c5, c6, c7, c8, c9, c10, c11, c12, c13, c14⟩ := M7.out.box
  have rc := M7.out.res.cell
  have rf := M7.out.res.frozen
  cases r8
  · gi_wp2_with fail
    refine ⟨.bool false, by simp [results, Tryd.results6, go_sem, (M7.out.set false).res.cell], by rw [HM.out]; rw [HV.out]; rfl, (M7.out.set false).old⟩
  have hlf := HLF.out rfl
  clear NA FA EA AA PA OA SA HLF s0 s1 s2 hl rc rf c0 c1 c2 c3 c4 c5 c6 c7 c8 c9 c10 c11 c12 c13 c14
  obtain ⟨n, hn⟩ : ∃ n, n = p.files.length := ⟨_, rfl⟩
  have HN := Lib.hid hn
  rw [← hn] at hlf
  clear hn
  skip
  obtain ⟨hl, c0, c1, c2, c3, c4, c5, c6, c7, c8, c9, c10, c11, c12, c13, c14⟩ := M7.out.box
  have rc := M7.out.res.cell
  have rf := M7.out.res.frozen
  rw [← HN.out] at c14
  gi_wp2_with fail
  clear hl rc rf c0 c1 c2 c3 c4 c5 c6 c7 c8 c9 c10 c11 c12 c13 c14
  gi_loopw [54] (fun iv wr => ∃ k : Nat, k ≤ n ∧ iv = .int .i64 (k : Int) ∧ Hid (∀ j (hj : j + 1 < p.files.length), j + 1 < k → Op.bytesLess p.files[j].toList p.files[j + 1].toList = true) ∧ PMay w p false wr) (fun iv _ => n - (intOf iv).toNat)
  case atStart => exact ⟨0, Nat.zero_le _, rfl, Lib.hid (by intro j hj h; omega), M7.out⟩
  case round =>
    obtain ⟨k, hk, rfl, hS, hM⟩ := hrel
    have M9 := Lib.hid hM
    clear hM
    by_cases hlt : k < n
    · have hkl : k < p.files.length := by have := HN.out; omega
      obtain ⟨b, o, hA, hb, e0⟩ := (FR.out.below M9.out.old).at1 (f := fun s => Value.string s) (fun _ => rfl) hkl
      obtain ⟨hl, c0, c1, c2, c3, c4, c5, c6, c7, c8, c9, c10, c11, c12, c13, c14⟩ := M9.out.box
      have rc := M9.out.res.cell
      have rf := M9.out.res.frozen
      rw [← HN.out, hA] at c14
      rw [hA]
      have i0 : (0 : Int) ≤ (k : Int) := by omega
      have i1 : (k : Int) < (n : Int) := by omega
      cases k with
      | zero =>
        have HA0 := Lib.hid hA
        rw [show ((0 : Nat) : Int) = 0 from rfl] at i0 i1 ⊢
        try simp only [Nat.add_zero, Nat.zero_mul, Nat.zero_add] at e0
        generalize p.files[0] = f0 at *
        clear hS hA
        gi_wp2_with fail
        go_roundw
        case rel => exact ⟨1, by omega, by go_num, Lib.hid (by intro j hj h; omega), M9.out⟩
        case measure => simp [intOf]; omega
      | succ q =>
        have hq1 : (((q + 1 : Nat)) : Int) = (q : Int) + 1 := by omega
        obtain ⟨b', o', hA', hb', e1⟩ := (FR.out.below M9.out.old).at1 (f := fun s => Value.string s) (fun _ => rfl) (show q < p.files.length by omega)
        rw [hA] at hA'
        cases hA'
        obtain ⟨r, hr⟩ : ∃ r, Op.bytesLess p.files[q].toList p.files[q + 1].toList = r := ⟨_, rfl⟩
        have HYES := Lib.hid (fun (h : r = true) => show ∀ j (hj : j + 1 < p.files.length), j + 1 < q + 1 + 1 → Op.bytesLess p.files[j].toList p.files[j + 1].toList = true from fun j hj hjk => by
          by_cases e : j = q
          · subst e; exact hr.trans h
          · exact hS.out j hj (by omega))
        have HNO := Lib.hid (fun (h : r = false) => rise_no (l := p.files) (k := q) hkl (hr.trans h))
        have wq : IntKind.i64.wrap ((q : Int) + 1 - 1) = (q : Int) := by rw [show (q : Int) + 1 - 1 = (q : Int) by omega]; exact IntWalk.i64_in _ (by omega)
        have wq0 : (0 : Int) ≤ (q : Int) := by omega
        have wq1 : (q : Int) < (n : Int) := by omega
        have wq2 : (0 : Int) < (q : Int) + 1 := by omega
        rw [hq1] at i0 i1 ⊢
        clear hS hA
        generalize p.files[q] = f0 at *
        generalize p.files[q + 1] = f1 at *
        cases r
        · have HR := Lib.hid (HNO.out rfl)
          clear HYES HNO
          gi_wp2_with fail
          have MF := M9.out.set false
          exact ⟨.bool false, by simp [results, Tryd.results6, go_sem, MF.res.cell], by rw [HM.out, HV.out, HR.out]; rfl, MF.old⟩
        · have HR := Lib.hid (HYES.out rfl)
          clear HYES HNO
          gi_wp2_with fail
          go_roundw
          case rel => exact ⟨q + 1 + 1, by omega, by go_num, HR, M9.out⟩
          case measure => simp [intOf]; omega
    · have hr := rise_yes (l := p.files) (fun j hj => hS.out j hj (by have := HN.out; omega))
      have HR := Lib.hid hr
      have i1 : ¬ (k : Int) < (n : Int) := by omega
      obtain ⟨hl, c0, c1, c2, c3, c4, c5, c6, c7, c8, c9, c10, c11, c12, c13, c14⟩ := M9.out.box
      have rc := M9.out.res.cell
      have rf := M9.out.res.frozen
      clear hr hS FR hlf
      gi_wp2_with fail
      refine ⟨trivial, ?_⟩
      gi_at_call 17
      refine (callsIn_wide.2 (LI.out _)).mono ?_
      rintro e wl ⟨rfl, rfl⟩
      have hPL := PkAt.new wr p
      have MW := Lib.hid (M9.out.then ((Below.refl _ _).alloc (Nat.le_refl _) (.cells #[.string p.name, .int .i64 p.epoch, .string p.ver, .string p.rel, .int .u8 p.arch, .string p.vendor, .slice p.provA p.prov.length p.provC, .slice p.reqA p.req.length p.reqC, .slice p.conA p.con.length p.conC, .slice p.obsA p.obs.length p.obsC, .slice p.rcmA p.rcm.length p.rcmC, .slice p.supA p.sup.length p.supC, .slice p.sugA p.sug.length p.sugC, .slice p.enhA p.enh.length p.enhC, .slice p.filesA p.files.length p.filesC] 33)))
      clear LI M9 hl rc rf c0 c1 c2 c3 c4 c5 c6 c7 c8 c9 c10 c11 c12 c13 c14
      gi_wp2_with fail
      have hz2 := MW.out.res.lt
      refine wpIn_rangeFunc_ownA rfl (by decide) (gf := 36) (lb := #[.pointer (some ⟨wr.heap.size, 0, none⟩)]) rfl trivial (enters_of Tryd.func36 (by kernel_rfl) rfl) (lists_stopsA 7 wr.heap.size p _ hPL) kp_tA (kp_bA (by simp)) (Below.refl _ _) (fun _ => rfl) (PmI w p (wr.heap.size + 1)) (PmX w p (wr.heap.size + 1)) (PMay.own (by omega) _ _) (fun c => PMay.own (by omega) _ _) ⟨(fun x hx => by cases hx), MW.out, by simp⟩ (fun a x b => updA a (.int .u8 x.1.wh) (.slice x.1.A x.1.l.length x.1.c) b 74 75) (fun x b W => WBoxA x.1.wh b W) (fun x a' => wbox_ownA _ x.1.wh a' _) ?assign ?body ?done ?stop
      case assign =>
        rintro l pre x W K ⟨h1, h2, h3⟩ hK
        unfold lxArgs
        gi_wp2
        refine hK _ _ ((KeepsOthers.alloc _ _).from _) (kp_allocA (by omega)) ⟨h1, h2.then ((Below.refl _ _).alloc (Nat.le_refl _) _), by simp; omega⟩ ⟨W.heap.size, ?_, World.alloc_heap_new _ _⟩
        rfl
      case body =>
        rintro l pre x b W hl0 ⟨h1, h2, h3⟩ hb hlt
        have M := Lib.hid h2
        have H1 := Lib.hid h1
        have hx := Boxed.cell (t := 5) (v := .int .u8 x.1.wh) hb
        have hbl : b < W.heap.size := (Array.getElem?_eq_some_iff.1 hb).1
        have CR := Lib.hid (RR.out W h2.old x.1 x.2 b ⟨hbl, hx⟩)
        have h1n : 1 ≤ 8 - 1 - 1 := by decide
        obtain ⟨bx, hbx⟩ : ∃ bx, bx = listB x.1 := ⟨_, rfl⟩
        rw [← hbx] at CR
        have HBX := Lib.hid hbx
        have HX := Lib.hid (show ∀ y ∈ pre ++ [x], (bx = true → listB y.1 = true) from fun y hy hbt => by
          rcases List.mem_append.1 hy with hy | hy
          · exact H1.out y hy
          · obtain rfl := List.mem_singleton.1 hy; rw [← HBX.out]; exact hbt)
        have HX2 := Lib.hid (show bx = false → ∃ y ∈ pre ++ [x], listB y.1 = false from fun h => ⟨x, List.mem_append_right _ (List.mem_singleton.2 rfl), by rw [← HBX.out]; exact h⟩)
        clear h1 h2 hb hbx H1
        unfold updA
        dsimp only
        simp only [List.setIfInBounds_toArray, List.set_cons_zero, List.set_cons_succ]
        gi_wp2_with fail
        refine ⟨trivial, ?_⟩
        gi_at_call 18
        refine (CallsIn.inRound l (callsIn_wide.2 CR.out)).mono ?_
        rintro e w9 ⟨rfl, h⟩
        have M9 := Lib.hid (M.out.then h)
        have B9 := Lib.hid h
        have hz9 := h.size
        have rc := M9.out.res.cell
        have rf := M9.out.res.frozen
        clear h hx M
        cases bx
        · gi_wp2_with fail
          exact ⟨((KeepsOthers.of_grownBy (grown_below B9.out) (fun _ _ h => by cases h)).trans (KeepsOthers.setCell _ _ _)).from _, ⟨rfl, HX2.out (by trivial)⟩, M9.out.set false, by simp [World.setCell]; omega⟩
        · gi_wp2_with fail
          exact ⟨(KeepsOthers.of_grownBy (grown_below B9.out) (fun _ _ h => by cases h)).from _, kp_callsA (by omega) B9.out, (fun y hy => HX.out y hy (by trivial)), M9.out, by omega⟩
      case done =>
        rintro D ys W hD hys ⟨h1, h2, h3⟩ hK
        have M9 := Lib.hid h2
        have HOK := Lib.hid (show mayP p = true by
          rw [HM.out, HV.out, HR.out]
          simp only [Bool.true_and, Bool.not_false]
          refine List.all_eq_true.2 fun y hy => ?_
          have hy2 : (⟨y, hy⟩ : LXof p) ∈ ys := by rw [hys]; exact mem_LSA hy
          exact h1 _ hy2)
        have HK := Lib.hid hK
        have HD := Lib.hid hD
        have rc := h2.res.cell
        have rf := h2.res.frozen
        clear h1 h2 hys hK hD
        gi_wp2
        refine ⟨by simp, .inl ⟨_, _, rfl, run_takeDeferred ((KeepsOthers.setCell _ _ _).same D _ HK.out rfl), ?_⟩⟩
        have MP := (M9.out.set true).past (belowK_b (n₀ := w.heap.size + 2) (w := wr.alloc (.cells #[.string p.name, .int .i64 p.epoch, .string p.ver, .string p.rel, .int .u8 p.arch, .string p.vendor, .slice p.provA p.prov.length p.provC, .slice p.reqA p.req.length p.reqC, .slice p.conA p.con.length p.conC, .slice p.obsA p.obs.length p.obsC, .slice p.rcmA p.rcm.length p.rcmC, .slice p.supA p.sup.length p.supC, .slice p.sugA p.sug.length p.sugC, .slice p.enhA p.enh.length p.enhC, .slice p.filesA p.files.length p.filesC] 33)) (by omega) _ D _ (.deferred none) HD.out ((KeepsOthers.setCell _ ⟨w.heap.size + 1, 0, none⟩ (.bool true)).same D _ HK.out rfl) rfl rfl)
        exact ⟨.bool true, by simp [results, Tryd.results6, go_sem, MP.res.cell], by rw [HOK.out], MP.old⟩
      case stop =>
        rintro D c pre W hD hpre ⟨⟨rfl, x, hx, hbad⟩, h2, h3⟩ hK
        have M9 := Lib.hid h2
        have HOK := Lib.hid (show mayP p = false by
          rw [HM.out, HV.out, HR.out]
          simp only [Bool.true_and, Bool.not_false]
          rw [List.all_eq_false]
          exact ⟨x.1, x.2, by rw [hbad]; decide⟩)
        have HK := Lib.hid hK
        have HD := Lib.hid hD
        clear h2 hK hD hx hbad hpre
        gi_wp2
        refine ⟨by simp, .inl ⟨_, _, rfl, run_takeDeferred HK.out, ?_⟩⟩
        have MP := M9.out.past (belowK_b (n₀ := w.heap.size + 2) (w := wr.alloc (.cells #[.string p.name, .int .i64 p.epoch, .string p.ver, .string p.rel, .int .u8 p.arch, .string p.vendor, .slice p.provA p.prov.length p.provC, .slice p.reqA p.req.length p.reqC, .slice p.conA p.con.length p.conC, .slice p.obsA p.obs.length p.obsC, .slice p.rcmA p.rcm.length p.rcmC, .slice p.supA p.sup.length p.supC, .slice p.sugA p.sug.length p.sugC, .slice p.enhA p.enh.length p.enhC, .slice p.filesA p.files.length p.filesC] 33)) (by omega) _ D _ (.deferred none) HD.out HK.out rfl rfl)
        exact ⟨.bool false, by simp [results, Tryd.results6, go_sem, MP.res.cell], by rw [HOK.out], MP.old⟩
theorem pkmaya_any (p : Pk) (w : World) (hI : PkIn w) (hL : p.Laid w.heap.size w) (hD : p.deepOk) : Calls Tryd.prog 6 #[p.val] w fun e w' => e = .returned (.bool (mayP p)) ∧ Below w.heap.size w w' := callsIn_wide.1 (pkmaya_in p w hI hL hD)
end Go.Proofs.YtcpjignlhlcnpaaDoor
