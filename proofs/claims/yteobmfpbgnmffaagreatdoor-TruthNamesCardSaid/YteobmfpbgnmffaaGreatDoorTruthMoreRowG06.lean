/- EvShow, EvParse, AppendRd, PkA, SpOps, DepPlain -/
import Derived.Test.YteobmfpbgnmffaaGreatDoorTruthMoreRowG05
import Derived.Maps.AppendAt
import Derived.Deep.RegionHeld3
import Derived.Maps.RangeWalk
import Derived.Maps.StringElems
import Derived.Maps.OwnOps
import Derived.Lib.Split
import Derived.Lib.SplitLaws
import Derived.Lib.Join
set_option linter.unusedSimpArgs false
set_option linter.unusedVariables false
namespace Go.Proofs.YteobmfpbgnmffaaGreatDoor
section
/- Walks: EVRs by the program: which may be, their texts, the EVR of a text. -/



open Go.RowKit Go.Shelf

set_option maxRecDepth 100000 in
set_option maxHeartbeats 8000000 in
theorem evMay_any (e : Evr) (dep : Bool) (w : World) (hw : e.wf) : Calls Tryz.prog 115 #[e.val, .bool dep] w fun r w' => r = .returned (.bool (mayB e dep)) ∧ Below w.heap.size w w' := by
  have WV := Lib.hid (fun W => word_any (bs e.ver) W (by rw [bs_size]; exact hw.2.1))
  have WR := Lib.hid (fun W => word_any (bs e.rel) W (by rw [bs_size]; exact hw.2.2))
  obtain ⟨r, hr⟩ : ∃ r, r = mayB e dep := ⟨_, rfl⟩
  rw [← hr]
  unfold mayB at hr
  rw [bs_toList] at WV WR
  have hx : (bs e.rel).toList = e.rel := bs_toList _
  clear hw
  unfold Evr.val
  obtain ⟨p, v, l⟩ := e
  dsimp only at *
  by_cases h0 : 0 ≤ p
  · by_cases h1 : p ≤ 2147483647
    · rw [decide_eq_true h0, decide_eq_true h1] at hr
      generalize wordB v = x at *
      generalize wordB l = y at *
      cases x with
      | false =>
        obtain rfl : r = false := hr
        clear hx
        go_enter Tryz.func115, Tryz.ntmps115
        go_wp2_with (go_at_call 159; refine (WV.out _).mono ?_; rintro e' w' ⟨rfl, rfl⟩)
        go_ret
        exact ⟨rfl, (Below.refl _ _).alloc (Nat.le_refl _) _⟩
      | true =>
        cases y with
        | true =>
          obtain rfl : r = true := hr
          clear hx
          go_enter Tryz.func115, Tryz.ntmps115
          go_wp2_with ((first | (go_at_call 159; ((with_reducible refine (WV.out _).mono ?_); rintro e' w' ⟨rfl, rfl⟩)) | (go_at_call 159; refine (WR.out _).mono ?_; rintro e' w' ⟨rfl, rfl⟩)))
          go_ret
          exact ⟨rfl, (Below.refl _ _).alloc (Nat.le_refl _) _⟩
        | false =>
          cases dep with
          | false =>
            obtain rfl : r = false := hr
            clear hx
            go_enter Tryz.func115, Tryz.ntmps115
            go_wp2_with ((first | (go_at_call 159; ((with_reducible refine (WV.out _).mono ?_); rintro e' w' ⟨rfl, rfl⟩)) | (go_at_call 159; refine (WR.out _).mono ?_; rintro e' w' ⟨rfl, rfl⟩)))
            go_ret
            exact ⟨rfl, (Below.refl _ _).alloc (Nat.le_refl _) _⟩
          | true =>
            by_cases hl : l = []
            · have f1 : (bs l).toList = [] := by rw [hx, hl]
              obtain rfl : r = true := by rw [hr, hl]; rfl
              clear hx hl hr
              go_enter Tryz.func115, Tryz.ntmps115
              go_wp2_with ((first | (go_at_call 159; ((with_reducible refine (WV.out _).mono ?_); rintro e' w' ⟨rfl, rfl⟩)) | (go_at_call 159; refine (WR.out _).mono ?_; rintro e' w' ⟨rfl, rfl⟩)))
              go_ret
              exact ⟨rfl, (Below.refl _ _).alloc (Nat.le_refl _) _⟩
            · have f1 : ¬ (bs l).toList = [] := by rw [hx]; exact hl
              have f2 : (bs l).toList.isEmpty = false := by rw [hx]; simpa using hl
              obtain rfl : r = false := by rw [hr]; simp [hl]
              clear hx hl hr
              go_enter Tryz.func115, Tryz.ntmps115
              go_wp2_with ((first | (go_at_call 159; ((with_reducible refine (WV.out _).mono ?_); rintro e' w' ⟨rfl, rfl⟩)) | (go_at_call 159; refine (WR.out _).mono ?_; rintro e' w' ⟨rfl, rfl⟩)))
              go_ret
              exact ⟨rfl, (Below.refl _ _).alloc (Nat.le_refl _) _⟩
    · obtain rfl : r = false := by rw [hr, decide_eq_false h1]; simp
      have h2 : 2147483647 < p := by omega
      clear hx hr
      go_enter Tryz.func115, Tryz.ntmps115
      go_wp2_with fail
      go_ret
      exact ⟨rfl, (Below.refl _ _).alloc (Nat.le_refl _) _⟩
  · obtain rfl : r = false := by rw [hr, decide_eq_false h0]; rfl
    have h2 : p < 0 := by omega
    clear hx hr
    go_enter Tryz.func115, Tryz.ntmps115
    go_wp2_with fail
    go_ret
    exact ⟨rfl, (Below.refl _ _).alloc (Nat.le_refl _) _⟩
end
section
/- Walks: the EVR of a text, by the program. -/


open Go.RowKit Go.Shelf

def zeroE : Evr := ⟨0, [], []⟩
end
section
/- append of a slice that came in, of whatever elements, nil too, onto a row of the call's own. -/



open Go.RowKit

theorem len_flat {α β : Type} {enc : α → List β} {size : Nat} (he : ∀ x, (enc x).length = size) : ∀ D : List α, (D.flatMap enc).length = D.length * size
  | [] => by simp
  | x :: D => by rw [List.flatMap_cons, List.length_append, he, len_flat he D, List.length_cons, Nat.add_mul]; omega
section
variable {P : Program} {α : Type} {enc : α → List Value} (w : World)
theorem run_append_nil (base : Nat) (t ty e : TypeId) (i : TypeInfo) (size : Nat) (ht : P.underlying t = some (.slice e)) (hi : P.info? e = some i)
    (v : Value) (n : Nat) (xs : List Value) (hown : w.ownsRow base e size v n xs) (c : Nat) : (Builtin.append_ #[t, t] ty #[v, .slice none 0 c]).run P w = .ok v w := by
  rcases hown.2 with ⟨rfl, rfl⟩ | ⟨g, cap, cur, rfl, _, _, hnc, _⟩
  · simp [Builtin.append_, run_underlying ht, sizeOf, typeInfo, hi, Builtin.lenOf, Builtin.firstCells]
  · simp [Builtin.append_, run_underlying ht, sizeOf, typeInfo, hi, Builtin.lenOf, Builtin.firstCells, hnc, storeCells]
theorem run_append_rd (base : Nat) (t ty e : TypeId) (i : TypeInfo) (z : Value) (size bytes : Nat) (ht : P.underlying t = some (.slice e)) (hi : P.info? e = some i) (hz : i.zero = some z) (hsize : i.size = size) (hby : i.bytes = bytes) (hzc : z.cells.size = size) (hs0 : 0 < size)
    (he : ∀ x, (enc x).length = size) (h1 : ∀ x, ∀ u ∈ enc x, u.oneCell' = true)
    (v : Value) (n : Nat) (xs : List Value) (hown : w.ownsRow base e size v n xs) (B : Nat) (A : Option Addr) (c : Nat) (D : List α) (hT : Rd enc size B A c D w) (hn : n + D.length ≤ 1000000) (hbytes : bytes ≤ 1000) (hbase : base ≤ w.heap.size) :
    ∃ v' w', (Builtin.append_ #[t, t] ty #[v, .slice A D.length c]).run P w = .ok v' w' ∧ w'.ownsRow base e size v' (n + D.length) (xs ++ D.flatMap enc) ∧ w.grownBy w' v.ownBlock ∧ (v'.ownBlock = v.ownBlock ∨ v'.ownBlock = some w.heap.size) := by
  cases A with
  | none =>
    have hD : D = [] := by
      cases D with
      | nil => rfl
      | cons x D => obtain ⟨b, o, e, _⟩ := hT.2.2 0 (by simp); cases e
    subst hD
    exact ⟨v, w, run_append_nil w base t ty e i size ht hi v n xs hown c, by simpa using hown, World.grownBy.refl w _, .inl rfl⟩
  | some ad =>
    obtain ⟨v', w', hrun, r1, r2, _, r4⟩ := run_append_own_at (P := P) w base t ty e i z size bytes ht hi hz hsize hby hzc hs0 v n xs hown ad D.length c (D.flatMap enc) (len_flat he D) (fun j u hu => by
      have hj : j < D.length * size := by
        have := (List.getElem?_eq_some_iff.1 hu).1
        rw [len_flat he] at this
        exact this
      have hk : j / size < D.length := Nat.div_lt_of_lt_mul (by rw [Nat.mul_comm]; exact hj)
      obtain ⟨b, o, e2, _, hc⟩ := hT.2.2 (j / size) hk
      cases e2
      rw [Addr.add_lit]
      have hd := Nat.div_add_mod j size
      have h3 := flatMap_at enc size he D (j / size) hk (j % size) (Nat.mod_lt _ hs0)
      rw [show j / size * size + j % size = j by rw [Nat.mul_comm]; exact hd, hu] at h3
      have h4 := hc (j % size) u h3.symm
      rw [show o + j / size * size + j % size = o + j by rw [Nat.add_assoc, Nat.mul_comm (j / size)]; rw [hd]] at h4
      exact h4) (fun u hu => by obtain ⟨x, _, hx⟩ := List.mem_flatMap.1 hu; exact h1 x u hx) (by unfold maxLen; omega) (by have := Nat.mul_le_mul hn hbytes; omega) hbase
    exact ⟨v', w', hrun, r1, r2, r4⟩
/-- the same, as a step of a region that draws -/
theorem step_append_rd {ops : Array Oper} {o : Oper} {a : Act} {K : Act → World → Prop} {Q : Exit → Act → World → Prop} {E : Prop} (hgd : o.guard = none) (s x : Operand) (t : TypeId)
    (ho : o.op = .call { callee := .builtin .append, args := #[s, x], argTypes := #[t, t] })
    (base : Nat) (e : TypeId) (i : TypeInfo) (z : Value) (size bytes : Nat) (ht : P.underlying t = some (.slice e)) (hi : P.info? e = some i) (hz : i.zero = some z) (hsize : i.size = size) (hby : i.bytes = bytes) (hzc : z.cells.size = size) (hs0 : 0 < size)
    (he : ∀ x, (enc x).length = size) (h1 : ∀ x, ∀ u ∈ enc x, u.oneCell' = true)
    (v : Value) (n : Nat) (xs : List Value) (hs : a.eval s = v) (hown : w.ownsRow base e size v n xs) (B : Nat) (A : Option Addr) (c : Nat) (D : List α) (m : Nat) (hm : m = D.length) (hx : a.eval x = .slice A m c) (hT : Rd enc size B A c D w) (hn : n + D.length ≤ 1000000) (hbytes : bytes ≤ 1000) (hbase : base ≤ w.heap.size)
    (h : ∀ v' w', w'.ownsRow base e size v' (n + D.length) (xs ++ D.flatMap enc) → w.grownBy w' v.ownBlock → (v'.ownBlock = v.ownBlock ∨ v'.ownBlock = some w.heap.size) → K (a.put o.dst v') w') :
    if Region.wanted o (yielded ops a.tmps) = true then Oper.wp P o a w K Q else E := by
  subst hm
  have hw : Region.wanted o (yielded ops a.tmps) = true := by simp [Region.wanted, hgd]
  rw [if_pos hw]
  obtain ⟨v', w', hrun, r1, r2, r3⟩ := run_append_rd (P := P) w base t o.type e i z size bytes ht hi hz hsize hby hzc hs0 he h1 v n xs hown B A c D hT hn hbytes hbase
  unfold Oper.wp
  simp [execOp, ho, resolve, invoke, builtin, hs, hx, hrun, Result.andThen]
  exact h v' w' r1 r2 r3
end
end
section
/- joined: PkMuch, PkPack -/





open Go.RowKit Go.Shelf
set_option linter.unusedVariables false
/- Walks: of how many parts rich dependencies are (chandlerylaw10.much). -/

theorem below_drewNm {B : Nat} {w W : World} {n : Nat} (h : Below B w W) : Below B w (W.drewN n) := ⟨h.os, h.tape, h.output, h.size, h.block⟩
/- A package, as it lies in memory. -/

structure Pk where
  name : ByteArray
  epoch : Int
  ver : ByteArray
  rel : ByteArray
  arch : Int
  vendor : ByteArray
  provA : Option Addr
  provC : Nat
  prov : List Dp
  reqA : Option Addr
  reqC : Nat
  req : List RV
  conA : Option Addr
  conC : Nat
  con : List RV
  obsA : Option Addr
  obsC : Nat
  obs : List Dp
  rcmA : Option Addr
  rcmC : Nat
  rcm : List RV
  supA : Option Addr
  supC : Nat
  sup : List RV
  sugA : Option Addr
  sugC : Nat
  sug : List RV
  enhA : Option Addr
  enhC : Nat
  enh : List RV
  filesA : Option Addr
  filesC : Nat
  files : List ByteArray
def Pk.val (p : Pk) : Value := .agg #[.string p.name, .int .i64 p.epoch, .string p.ver, .string p.rel, .int .u8 p.arch, .string p.vendor, .slice p.provA p.prov.length p.provC, .slice p.reqA p.req.length p.reqC, .slice p.conA p.con.length p.conC, .slice p.obsA p.obs.length p.obsC, .slice p.rcmA p.rcm.length p.rcmC, .slice p.supA p.sup.length p.supC, .slice p.sugA p.sug.length p.sugC, .slice p.enhA p.enh.length p.enhC, .slice p.filesA p.files.length p.filesC]
def Pk.evr (p : Pk) : Evr := ⟨p.epoch, p.ver.toList, p.rel.toList⟩
def Dp.small (d : Dp) : Prop := d.name.length ≤ 500 ∧ d.evr.ver.length ≤ 500 ∧ d.evr.rel.length ≤ 500
/-- small enough for a statement -/
structure Pk.small (p : Pk) : Prop where
  name : p.name.size ≤ 1000
  ver : p.ver.size ≤ 1000
  rel : p.rel.size ≤ 1000
  vendor : p.vendor.size ≤ 1000
  provN : p.prov.length ≤ 100
  obsN : p.obs.length ≤ 100
  filesN : p.files.length ≤ 100
  prov : ∀ d ∈ p.prov, d.small
  obs : ∀ d ∈ p.obs, d.small
  files : ∀ s ∈ p.files, s.size ≤ 500
/-- it lies in blocks below B -/
structure Pk.Laid (B : Nat) (W : World) (p : Pk) : Prop where
  ar : (Lit.int .u8 p.arch).wf = true
  ep : (Lit.int .i64 p.epoch).wf = true
  n0 : p.name.size ≤ maxLen
  n1 : p.ver.size ≤ maxLen
  n2 : p.rel.size ≤ maxLen
  n3 : p.vendor.size ≤ maxLen
  prov : Rd encD 5 B p.provA p.provC p.prov W
  provW : ∀ d ∈ p.prov, d.wf
  obs : Rd encD 5 B p.obsA p.obsC p.obs W
  obsW : ∀ d ∈ p.obs, d.wf
  files : Rd (fun s => [Value.string s]) 1 B p.filesA p.filesC p.files W
  filesW : ∀ s ∈ p.files, s.size ≤ maxLen
  req : RRow B W p.reqA p.reqC p.req
  con : RRow B W p.conA p.conC p.con
  rcm : RRow B W p.rcmA p.rcmC p.rcm
  sup : RRow B W p.supA p.supC p.sup
  sug : RRow B W p.sugA p.sugC p.sug
  enh : RRow B W p.enhA p.enhC p.enh
theorem Pk.Laid.below {B : Nat} {W W' : World} {p : Pk} (h : p.Laid B W) (hb : Below B W W') : p.Laid B W' :=
  { h with prov := h.prov.below hb, obs := h.obs.below hb, files := h.files.below hb, req := h.req.below hb, con := h.con.below hb, rcm := h.rcm.below hb, sup := h.sup.below hb, sug := h.sug.below hb, enh := h.enh.below hb }
theorem Pk.Laid.more {B B' : Nat} {W : World} {p : Pk} (h : p.Laid B W) (hb : B ≤ B') : p.Laid B' W :=
  { h with prov := h.prov.more hb, obs := h.obs.more hb, files := h.files.more hb, req := h.req.more hb, con := h.con.more hb, rcm := h.rcm.more hb, sup := h.sup.more hb, sug := h.sug.more hb, enh := h.enh.more hb }
theorem Pk.Laid.calls {W W' : World} {p : Pk} (h : p.Laid W.heap.size W) (hb : Below W.heap.size W W') : p.Laid W'.heap.size W' := (h.below hb).more hb.size
theorem encD_len (d : Dp) : (encD d).length = 5 := rfl
theorem encD_one (d : Dp) : ∀ u ∈ encD d, u.oneCell' = true := by
  intro u hu
  simp only [encD, List.mem_cons, List.not_mem_nil, or_false] at hu
  rcases hu with rfl | rfl | rfl | rfl | rfl <;> rfl
end
section
/- Walks: span's Ops, an Op's text, the Op of a text; the map that the program's own text lays. -/





open Go.RowKit Go.Shelf

/-- THE LISTED MAP LIES THERE -/
def OpsIn (w : World) : Prop := 0 < w.heap.size ∧ ∃ bm n, w.cell? ⟨2, 0, none⟩ = some (.map (some bm)) ∧ 2 < w.heap.size ∧ bm < w.heap.size ∧ w.ownsMap Tryz.prog 9 (plainElem Tryz.prog 5) bm n (Rows.laid_chandlery_span_ops (H := Unit))
theorem OpsIn.below {w w' : World} (h : OpsIn w) (hb : Below w.heap.size w w') : OpsIn w' := by
  obtain ⟨h0, bm, n, hc, hg, hl, ho⟩ := h
  exact ⟨Nat.lt_of_lt_of_le h0 hb.size, bm, n, (hb.cell (p := ⟨2, 0, none⟩) hg).trans hc, Nat.lt_of_lt_of_le hg hb.size, Nat.lt_of_lt_of_le hl hb.size, ho.kept (grown_below hb) (by simp)⟩
theorem keyLaw : Maps.Keyed Tryz.prog 9 := Maps.string_keyed Tryz.underlying9

/-- an Op's text -/
def opText (n : Int) : Bytes := if n = 1 then [60] else if n = 2 then [61] else if n = 3 then [60, 61] else if n = 4 then [62] else if n = 6 then [62, 61] else []
def opMay (n : Int) : Bool := n == 0 || n == 1 || n == 2 || n == 3 || n == 4 || n == 6
theorem ops_at (x : Bytes) (c : Int) (h : (Rows.laid_chandlery_span_ops (H := Unit)).atKey (.string x) .nil = .lit (.int .u8 c)) :
    (x = [] ∧ c = 0) ∨ (x = [60] ∧ c = 1) ∨ (x = [60, 61] ∧ c = 3) ∨ (x = [61] ∧ c = 2) ∨ (x = [62] ∧ c = 4) ∨ (x = [62, 61] ∧ c = 6) := by
  unfold Rows.laid_chandlery_span_ops DataW.atKey at h
  simp only [List.find?_cons, Lit.sameKey, List.find?_nil] at h
  by_cases h0 : x = []
  · subst h0; simp at h; simp [h]
  by_cases h1 : x = [60]
  · subst h1; simp at h; simp [h]
  by_cases h2 : x = [60, 61]
  · subst h2; simp at h; simp [h]
  by_cases h3 : x = [61]
  · subst h3; simp at h; simp [h]
  by_cases h4 : x = [62]
  · subst h4; simp at h; simp [h]
  by_cases h5 : x = [62, 61]
  · subst h5; simp at h; simp [h]
  · have b0 : (([] : Bytes) == x) = false := by simpa using Ne.symm h0
    have b1 : (([60] : Bytes) == x) = false := by simpa using Ne.symm h1
    have b2 : (([60, 61] : Bytes) == x) = false := by simpa using Ne.symm h2
    have b3 : (([61] : Bytes) == x) = false := by simpa using Ne.symm h3
    have b4 : (([62] : Bytes) == x) = false := by simpa using Ne.symm h4
    have b5 : (([62, 61] : Bytes) == x) = false := by simpa using Ne.symm h5
    rw [b0, b1, b2, b3, b4, b5] at h
    cases h
/-- the Op is still to come -/
def ToCome (op : Int) (left : Lit → Bool) : Prop := op = 1 ∨ op = 2 ∨ op = 3 ∨ op = 4 ∨ op = 6 → left (.string (opText op)) = true
theorem opText_no {op : Int} (h : ¬ (op = 1 ∨ op = 2 ∨ op = 3 ∨ op = 4 ∨ op = 6)) : opText op = [] := by
  unfold opText
  rw [if_neg (fun e => h (by simp [e])), if_neg (fun e => h (by simp [e])), if_neg (fun e => h (by simp [e])), if_neg (fun e => h (by simp [e])), if_neg (fun e => h (by simp [e]))]
theorem toCome_start (op : Int) : ToCome op (Maps.has (Rows.laid_chandlery_span_ops (H := Unit))) := by
  intro h
  rcases h with rfl | rfl | rfl | rfl | rfl <;> rfl
theorem toCome_end {op : Int} {left : Lit → Bool} (h : ToCome op left) (hl : ∀ kl, left kl = false) : opText op = [] := by
  by_cases e : op = 1 ∨ op = 2 ∨ op = 3 ∨ op = 4 ∨ op = 6
  · have := h e; rw [hl] at this; cases this
  · exact opText_no e
theorem toCome_step {op c : Int} {x : Bytes} {left : Lit → Bool} (h : ToCome op left) (hat : (Rows.laid_chandlery_span_ops (H := Unit)).atKey (.string x) .nil = .lit (.int .u8 c)) (hne : ¬ c = op) :
    ToCome op (fun z => left z && !z.sameKey (.string x)) := by
  intro e
  have h1 := h e
  have h2 := ops_at x c hat
  simp only [h1, Bool.true_and, Bool.not_eq_true']
  show (opText op == x) = false
  rw [beq_eq_false_iff_ne]
  rintro rfl
  rcases e with rfl | rfl | rfl | rfl | rfl <;> simp [opText] at h2 <;> exact hne h2
theorem toCome_hit {c : Int} {x : Bytes} (hat : (Rows.laid_chandlery_span_ops (H := Unit)).atKey (.string x) .nil = .lit (.int .u8 c)) : x = opText c := by
  rcases ops_at x c hat with ⟨rfl, rfl⟩ | ⟨rfl, rfl⟩ | ⟨rfl, rfl⟩ | ⟨rfl, rfl⟩ | ⟨rfl, rfl⟩ | ⟨rfl, rfl⟩ <;> rfl

theorem keyOf_str {P : Program} {k : TypeId} (hk : P.underlying k = some .string) {key : Value} {kl : Lit} (h : keyOf P k key = some kl) : ∃ x : Bytes, key = .string (bs x) ∧ kl = .string x := by
  cases key <;> simp [keyOf, hk, mapKey] at h
  rename_i s
  obtain ⟨hs, rfl⟩ := h
  exact ⟨s.toList, by rw [bs_of], by rw [Lib.toList_data]⟩
/-- the range's step, strings to bytes -/
theorem wpList_next_su {P : Program} (w : World) {ops : Array Oper} {rest : List Oper} {o : Oper} {a : Act} {Q : Exit → Act → World → Prop}
    (hg : o.guard = none) (it : Operand) (hop : o.op = Op.next it false) (k e : TypeId) (K : Maps.Keyed P k) (hk : P.underlying k = some .string) (he : P.underlying e = some (.int .u8))
    (b r n : Nat) (D : DataW Unit) (left : Lit → Bool) (cnt : Nat) (hit : a.eval it = .pointer (some ⟨r, 0, none⟩)) (h : w.ranges P k (plainElem P e) b r n D left cnt)
    (hDone : cnt = 0 → (∀ kl, left kl = false) → wpList P ops Q rest (a.put o.dst (.tuple #[.bool false])) w)
    (hMore : ∀ (x : Bytes) (c : Int) (w' : World) (cnt' : Nat), left (.string x) = true → D.atKey (.string x) .nil = .lit (.int .u8 c) → w'.ranges P k (plainElem P e) b r n D (fun z => left z && !z.sameKey (.string x)) cnt' → cnt' < cnt →
      w.grownBy w' (some r) → w'.heap.size = w.heap.size → (Instr.entry (.pointer (some ⟨r, 0, none⟩))).run P w' = .ok (.tuple #[.string (bs x), .int .u8 c]) w' → wpList P ops Q rest (a.put o.dst (.tuple #[.bool true, .string (bs x), .int .u8 c])) w') :
    wpList P ops Q (o :: rest) a w :=
  wpList_next_ranges w hg it hop k K (plainElem P e) (fun l : Bytes => Value.string (bs l)) (Value.int .u8) (fun key kl hkey => by obtain ⟨x, rfl, _⟩ := keyOf_str hk hkey; exact ⟨x, rfl⟩) (fun v y hv => by obtain ⟨c, rfl, _⟩ := plainElem_int_inv he hv; exact ⟨c, rfl⟩)
    b r n D left cnt hit h hDone (fun x c kl y w' cnt' hkey hlk hv hat hrg hlt hgr hsz hen => by
      obtain ⟨x', ex, rfl⟩ := keyOf_str hk hkey
      obtain rfl : x = x' := bs_inj (by injection ex)
      obtain ⟨c', ec, rfl, hwc⟩ := plainElem_int_inv he hv
      cases ec
      exact hMore x c w' cnt' hlk (hat .nil) hrg hlt hgr hsz hen)

set_option maxRecDepth 100000 in
set_option maxHeartbeats 2000000 in
theorem text_any (op : Int) (w : World) (hO : OpsIn w) : Calls Tryz.prog 188 #[.int .u8 op] w fun e w' => e = .returned (.string (bs (opText op))) ∧ Below w.heap.size w w' := by
  obtain ⟨_, bm, n, hc, _, hl, hown⟩ := hO
  go_enter Tryz.func188, Tryz.ntmps188
  go_wp2_with (first | (at_range; refine wpList_range_own _ rfl _ 227 rfl 9 5 keyLaw Tryz.underlying227 _ bm n _ rfl hown ?_; intro w0 hrg0 hg0 hs0) | fail)
  go_frame
  have B0 : Below w.heap.size w w0 := ⟨hg0.os, hg0.tape, hg0.output, hg0.size, fun k hk => hg0.block k hk (by simp)⟩
  go_loopw [3] (fun _ wr => ∃ left cnt, wr.ranges Tryz.prog 9 (plainElem Tryz.prog 5) bm w.heap.size n (Rows.laid_chandlery_span_ops (H := Unit)) left cnt ∧ RowKit.Hid (ToCome op left) ∧ Below w.heap.size w wr) (fun _ wr => wr.rangeLeft bm w.heap.size)
  case atStart => exact ⟨_, _, hrg0, Lib.hid (toCome_start op), B0⟩
  case round =>
    obtain ⟨left, cnt, hrg, hT, hB⟩ := hrel
    go_wp2_with (first | (at_next; refine wpList_next_su _ rfl _ rfl 9 5 keyLaw Tryz.underlying9 Tryz.underlying5 bm w.heap.size n _ _ _ rfl hrg ?_ ?_) | fail)
    · intro _ hl0
      have H := Lib.hid (toCome_end hT.out hl0)
      clear hl0 hT
      go_wp2
      go_ret
      exact ⟨ret_str (by rw [H.out]; rfl), hB⟩
    · intro x c w1 cnt1 _ hat hrg1 hlt hg1 hs1 hen
      have hB1 : Below w.heap.size w w1 := hB.grown hg1 (by have := hB.size; omega) (fun k e => by cases e; exact Nat.le_refl _)
      clear hs1 hg1
      by_cases e : c = op
      · have H := Lib.hid (toCome_hit hat)
        subst e
        clear hat hT hrg1 hrg
        go_wp2
        go_ret
        exact ⟨ret_str (by rw [H.out]), hB1⟩
      · have H := Lib.hid (toCome_step hT.out hat e)
        have e2 : (c == op) = false := by simpa using e
        clear hat hT
        go_wp2
        go_roundw
        case rel => exact ⟨_, _, hrg1, H, hB1⟩
        case measure => rw [hrg1.left_eq, hrg.left_eq]; omega

set_option maxRecDepth 100000 in
set_option maxHeartbeats 2000000 in
theorem may_any (op : Int) (w : World) (hO : OpsIn w) : Calls Tryz.prog 145 #[.int .u8 op] w fun e w' => e = .returned (.bool (opMay op)) ∧ Below w.heap.size w w' := by
  have T := Lib.hid (text_any op w hO)
  have hm : opMay op = (op == 0 || !(opText op).isEmpty) := by
    unfold opMay opText
    by_cases h0 : op = 0
    · simp [h0]
    by_cases h1 : op = 1
    · simp [h1]
    by_cases h2 : op = 2
    · simp [h2]
    by_cases h3 : op = 3
    · simp [h3]
    by_cases h4 : op = 4
    · simp [h4]
    by_cases h6 : op = 6
    · simp [h6]
    · have b : ∀ k : Int, ¬ op = k → (op == k) = false := fun k h => by simpa using h
      simp [h1, h2, h3, h4, h6, b 1 h1, b 2 h2, b 3 h3, b 4 h4, b 6 h6]
  have H := Lib.hid hm
  clear hm hO
  generalize opMay op = r at *
  by_cases h0 : op = 0
  · subst h0
    go_enter Tryz.func145, Tryz.ntmps145
    go_wp2
    go_ret
    exact ⟨ret_bool (by rw [H.out]; rfl), Below.refl _ _⟩
  · have e0 : (op == 0) = false := by simpa using h0
    generalize opText op = t at *
    have H2 := Lib.hid (H.out.trans (by rw [e0, Bool.false_or]))
    clear H
    cases ht : t with
    | nil =>
      subst ht
      have f1 : (bs []).toList = [] := bs_toList []
      go_enter Tryz.func145, Tryz.ntmps145
      go_wp2_with fail
      go_at_call 188
      refine T.out.mono ?_
      rintro e w5 ⟨rfl, h⟩
      go_wp2
      go_ret
      exact ⟨ret_bool (by rw [H2.out]; rfl), h⟩
    | cons c r =>
      have f1 : ¬ (bs t).toList = [] := by rw [bs_toList, ht]; simp
      have f2 : (bs t).toList.isEmpty = false := by rw [bs_toList, ht]; rfl
      have H3 := Lib.hid (H2.out.trans (show (!t.isEmpty) = true by rw [ht]; rfl))
      clear H2 ht
      go_enter Tryz.func145, Tryz.ntmps145
      go_wp2_with fail
      go_at_call 188
      refine T.out.mono ?_
      rintro e w5 ⟨rfl, h⟩
      go_wp2
      go_ret
      exact ⟨ret_bool H3.out.symm, h⟩
/- the document's -/
end
section
/- Plain dependencies as texts, in plain terms: names, words, what stands between spaces; the dependency of words, of a text. -/






open Go.RowKit

def sgnI (n : Int) : Bool := decide ((97 ≤ n ∧ n ≤ 122) ∨ (65 ≤ n ∧ n ≤ 90) ∨ (48 ≤ n ∧ n ≤ 57) ∨ n = 46 ∨ n = 95 ∨ n = 43 ∨ n = 45 ∨ n = 47 ∨ n = 58 ∨ n = 64 ∨ n = 126 ∨ n = 94)
def sgn (c : UInt8) : Bool := sgnI (c.toNat : Int)
def noNames : List Bytes := [[97, 110, 100], [111, 114], [105, 102], [101, 108, 115, 101], [117, 110, 108, 101, 115, 115], [119, 105, 116, 104], [119, 105, 116, 104, 111, 117, 116]]
def nameB (l : Bytes) : Bool := decide (1 ≤ l.length) && (decide (l.length ≤ 64) && (l.all sgn && !noNames.contains l))
def fileB (l : Bytes) : Bool := nameB l && (l.head? == some 47)
def isZero (e : Evr) : Bool := e.epoch == 0 && (e.ver.isEmpty && e.rel.isEmpty)
def dmayB (d : Dp) : Bool := nameB d.name && (opMay d.op && (if d.op = 0 then isZero d.evr else !fileB d.name && mayB d.evr true))
theorem name_iff {l : Bytes} : nameB l = true ↔ 1 ≤ l.length ∧ l.length ≤ 64 ∧ (∀ c ∈ l, sgn c = true) ∧ l ∉ noNames := by
  unfold nameB; simp [List.all_eq_true]
/- what stands between spaces -/
/- bytes that stand in words -/
/- the library's words for it -/
end
end Go.Proofs.YteobmfpbgnmffaaGreatDoor
