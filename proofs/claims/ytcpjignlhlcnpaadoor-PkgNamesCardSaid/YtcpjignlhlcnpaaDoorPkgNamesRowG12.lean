/- SpOps, DepPlain -/
import Derived.Test.YtcpjignlhlcnpaaDoorPkgNamesRowG08
import Derived.Test.YtcpjignlhlcnpaaDoorPkgNamesRowG10
import Derived.Maps.RangeWalk
import Derived.Maps.StringElems
import Derived.Maps.OwnOps
import Derived.Lib.Split
import Derived.Lib.SplitLaws
import Derived.Lib.Join
set_option linter.unusedSimpArgs false
set_option linter.unusedVariables false
namespace Go.Proofs.YtcpjignlhlcnpaaDoor
section
/- Walks: span's Ops, an Op's text, the Op of a text; the map that the program's own text lays. -/





open Go.RowKit Go.Shelf

/-- THE LISTED MAP LIES THERE -/
def OpsIn (w : World) : Prop := 0 < w.heap.size ∧ ∃ bm n, w.cell? ⟨1, 0, none⟩ = some (.map (some bm)) ∧ 1 < w.heap.size ∧ bm < w.heap.size ∧ w.ownsMap Tryd.prog 9 (plainElem Tryd.prog 5) bm n (Rows.laid_chandlery_span_ops (H := Unit))
theorem OpsIn.below {w w' : World} (h : OpsIn w) (hb : Below w.heap.size w w') : OpsIn w' := by
  obtain ⟨h0, bm, n, hc, hg, hl, ho⟩ := h
  exact ⟨Nat.lt_of_lt_of_le h0 hb.size, bm, n, (hb.cell (p := ⟨1, 0, none⟩) hg).trans hc, Nat.lt_of_lt_of_le hg hb.size, Nat.lt_of_lt_of_le hl hb.size, ho.kept (grown_below hb) (by simp)⟩
theorem keyLaw : Maps.Keyed Tryd.prog 9 := Maps.string_keyed Tryd.underlying9

/-- an Op's text -/
def opText (n : Int) : Bytes := if n = 1 then [60] else if n = 2 then [61] else if n = 3 then [60, 61] else if n = 4 then [62] else if n = 6 then [62, 61] else []
def opMay (n : Int) : Bool := n == 0 || n == 1 || n == 2 || n == 3 || n == 4 || n == 6
theorem ops_at (x : Bytes) (c : Int) (h : (Rows.laid_chandlery_span_ops (H := Unit)).atKey (.string x) .nil = .lit (.int .u8 c)) :
    (x = [] ∧ c = 0) ∨ (x = [60] ∧ c = 1) ∨ (x = [60, 61] ∧ c = 3) ∨ (x = [61] ∧ c = 2) ∨ (x = [62] ∧ c = 4) ∨ (x = [62, 61] ∧ c = 6) := by
  unfold Rows.laid_chandlery_span_ops DataW.atKey at h
  simp only [List.find?_cons, Lit.sameKey, List.find?_nil] at h
  by_cases h0 : x = []
  · subst h0; simp at h; simp [h]
  by_cases h1 : x = [60]
  · subst h1; simp at h; simp [h]
  by_cases h2 : x = [60, 61]
  · subst h2; simp at h; simp [h]
  by_cases h3 : x = [61]
  · subst h3; simp at h; simp [h]
  by_cases h4 : x = [62]
  · subst h4; simp at h; simp [h]
  by_cases h5 : x = [62, 61]
  · subst h5; simp at h; simp [h]
  · have b0 : (([] : Bytes) == x) = false := by simpa using Ne.symm h0
    have b1 : (([60] : Bytes) == x) = false := by simpa using Ne.symm h1
    have b2 : (([60, 61] : Bytes) == x) = false := by simpa using Ne.symm h2
    have b3 : (([61] : Bytes) == x) = false := by simpa using Ne.symm h3
    have b4 : (([62] : Bytes) == x) = false := by simpa using Ne.symm h4
    have b5 : (([62, 61] : Bytes) == x) = false := by simpa using Ne.symm h5
    rw [b0, b1, b2, b3, b4, b5] at h
    cases h
/-- the Op is still to come -/
def ToCome (op : Int) (left : Lit → Bool) : Prop := op = 1 ∨ op = 2 ∨ op = 3 ∨ op = 4 ∨ op = 6 → left (.string (opText op)) = true
theorem opText_no {op : Int} (h : ¬ (op = 1 ∨ op = 2 ∨ op = 3 ∨ op = 4 ∨ op = 6)) : opText op = [] := by
  unfold opText
  rw [if_neg (fun e => h (by simp [e])), if_neg (fun e => h (by simp [e])), if_neg (fun e => h (by simp [e])), if_neg (fun e => h (by simp [e])), if_neg (fun e => h (by simp [e]))]
theorem toCome_start (op : Int) : ToCome op (Maps.has (Rows.laid_chandlery_span_ops (H := Unit))) := by
  intro h
  rcases h with rfl | rfl | rfl | rfl | rfl <;> rfl
theorem toCome_end {op : Int} {left : Lit → Bool} (h : ToCome op left) (hl : ∀ kl, left kl = false) : opText op = [] := by
  by_cases e : op = 1 ∨ op = 2 ∨ op = 3 ∨ op = 4 ∨ op = 6
  · have := h e; rw [hl] at this; cases this
  · exact opText_no e
theorem toCome_step {op c : Int} {x : Bytes} {left : Lit → Bool} (h : ToCome op left) (hat : (Rows.laid_chandlery_span_ops (H := Unit)).atKey (.string x) .nil = .lit (.int .u8 c)) (hne : ¬ c = op) :
    ToCome op (fun z => left z && !z.sameKey (.string x)) := by
  intro e
  have h1 := h e
  have h2 := ops_at x c hat
  simp only [h1, Bool.true_and, Bool.not_eq_true']
  show (opText op == x) = false
  rw [beq_eq_false_iff_ne]
  rintro rfl
  rcases e with rfl | rfl | rfl | rfl | rfl <;> simp [opText] at h2 <;> exact hne h2
theorem toCome_hit {c : Int} {x : Bytes} (hat : (Rows.laid_chandlery_span_ops (H := Unit)).atKey (.string x) .nil = .lit (.int .u8 c)) : x = opText c := by
  rcases ops_at x c hat with ⟨rfl, rfl⟩ | ⟨rfl, rfl⟩ | ⟨rfl, rfl⟩ | ⟨rfl, rfl⟩ | ⟨rfl, rfl⟩ | ⟨rfl, rfl⟩ <;> rfl

theorem keyOf_str {P : Program} {k : TypeId} (hk : P.underlying k = some .string) {key : Value} {kl : Lit} (h : keyOf P k key = some kl) : ∃ x : Bytes, key = .string (bs x) ∧ kl = .string x := by
  cases key <;> simp [keyOf, hk, mapKey] at h
  rename_i s
  obtain ⟨hs, rfl⟩ := h
  exact ⟨s.toList, by rw [bs_of], by rw [Lib.toList_data]⟩
/-- the range's step, strings to bytes -/
theorem wpList_next_su {P : Program} (w : World) {ops : Array Oper} {rest : List Oper} {o : Oper} {a : Act} {Q : Exit → Act → World → Prop}
    (hg : o.guard = none) (it : Operand) (hop : o.op = Op.next it false) (k e : TypeId) (K : Maps.Keyed P k) (hk : P.underlying k = some .string) (he : P.underlying e = some (.int .u8))
    (b r n : Nat) (D : DataW Unit) (left : Lit → Bool) (cnt : Nat) (hit : a.eval it = .pointer (some ⟨r, 0, none⟩)) (h : w.ranges P k (plainElem P e) b r n D left cnt)
    (hDone : cnt = 0 → (∀ kl, left kl = false) → wpList P ops Q rest (a.put o.dst (.tuple #[.bool false])) w)
    (hMore : ∀ (x : Bytes) (c : Int) (w' : World) (cnt' : Nat), left (.string x) = true → D.atKey (.string x) .nil = .lit (.int .u8 c) → w'.ranges P k (plainElem P e) b r n D (fun z => left z && !z.sameKey (.string x)) cnt' → cnt' < cnt →
      w.grownBy w' (some r) → w'.heap.size = w.heap.size → (Instr.entry (.pointer (some ⟨r, 0, none⟩))).run P w' = .ok (.tuple #[.string (bs x), .int .u8 c]) w' → wpList P ops Q rest (a.put o.dst (.tuple #[.bool true, .string (bs x), .int .u8 c])) w') :
    wpList P ops Q (o :: rest) a w :=
  wpList_next_ranges w hg it hop k K (plainElem P e) (fun l : Bytes => Value.string (bs l)) (Value.int .u8) (fun key kl hkey => by obtain ⟨x, rfl, _⟩ := keyOf_str hk hkey; exact ⟨x, rfl⟩) (fun v y hv => by obtain ⟨c, rfl, _⟩ := plainElem_int_inv he hv; exact ⟨c, rfl⟩)
    b r n D left cnt hit h hDone (fun x c kl y w' cnt' hkey hlk hv hat hrg hlt hgr hsz hen => by
      obtain ⟨x', ex, rfl⟩ := keyOf_str hk hkey
      obtain rfl : x = x' := bs_inj (by injection ex)
      obtain ⟨c', ec, rfl, hwc⟩ := plainElem_int_inv he hv
      cases ec
      exact hMore x c w' cnt' hlk (hat .nil) hrg hlt hgr hsz hen)

set_option maxRecDepth 100000 in
set_option maxHeartbeats 2000000 in
theorem text_any (op : Int) (w : World) (hO : OpsIn w) : Calls Tryd.prog 51 #[.int .u8 op] w fun e w' => e = .returned (.string (bs (opText op))) ∧ Below w.heap.size w w' := by
  obtain ⟨_, bm, n, hc, _, hl, hown⟩ := hO
  go_enter Tryd.func51, Tryd.ntmps51
  go_wp2_with (first | (at_range; refine wpList_range_own _ rfl _ 85 rfl 9 5 keyLaw Tryd.underlying85 _ bm n _ rfl hown ?_; intro w0 hrg0 hg0 hs0) | fail)
  go_frame
  have B0 : Below w.heap.size w w0 := ⟨hg0.os, hg0.tape, hg0.output, hg0.size, fun k hk => hg0.block k hk (by simp)⟩
  go_loopw [3] (fun _ wr => ∃ left cnt, wr.ranges Tryd.prog 9 (plainElem Tryd.prog 5) bm w.heap.size n (Rows.laid_chandlery_span_ops (H := Unit)) left cnt ∧ RowKit.Hid (ToCome op left) ∧ Below w.heap.size w wr) (fun _ wr => wr.rangeLeft bm w.heap.size)
  case atStart => exact ⟨_, _, hrg0, Lib.hid (toCome_start op), B0⟩
  case round =>
    obtain ⟨left, cnt, hrg, hT, hB⟩ := hrel
    go_wp2_with (first | (at_next; refine wpList_next_su _ rfl _ rfl 9 5 keyLaw Tryd.underlying9 Tryd.underlying5 bm w.heap.size n _ _ _ rfl hrg ?_ ?_) | fail)
    · intro _ hl0
      have H := Lib.hid (toCome_end hT.out hl0)
      clear hl0 hT
      go_wp2
      go_ret
      exact ⟨ret_str (by rw [H.out]; rfl), hB⟩
    · intro x c w1 cnt1 _ hat hrg1 hlt hg1 hs1 hen
      have hB1 : Below w.heap.size w w1 := hB.grown hg1 (by have := hB.size; omega) (fun k e => by cases e; exact Nat.le_refl _)
      clear hs1 hg1
      by_cases e : c = op
      · have H := Lib.hid (toCome_hit hat)
        subst e
        clear hat hT hrg1 hrg
        go_wp2
        go_ret
        exact ⟨ret_str (by rw [H.out]), hB1⟩
      · have H := Lib.hid (toCome_step hT.out hat e)
        have e2 : (c == op) = false := by simpa using e
        clear hat hT
        go_wp2
        go_roundw
        case rel => exact ⟨_, _, hrg1, H, hB1⟩
        case measure => rw [hrg1.left_eq, hrg.left_eq]; omega

set_option maxRecDepth 100000 in
set_option maxHeartbeats 2000000 in
theorem may_any (op : Int) (w : World) (hO : OpsIn w) : Calls Tryd.prog 33 #[.int .u8 op] w fun e w' => e = .returned (.bool (opMay op)) ∧ Below w.heap.size w w' := by
  have T := Lib.hid (text_any op w hO)
  have hm : opMay op = (op == 0 || !(opText op).isEmpty) := by
    unfold opMay opText
    by_cases h0 : op = 0
    · simp [h0]
    by_cases h1 : op = 1
    · simp [h1]
    by_cases h2 : op = 2
    · simp [h2]
    by_cases h3 : op = 3
    · simp [h3]
    by_cases h4 : op = 4
    · simp [h4]
    by_cases h6 : op = 6
    · simp [h6]
    · have b : ∀ k : Int, ¬ op = k → (op == k) = false := fun k h => by simpa using h
      simp [h1, h2, h3, h4, h6, b 1 h1, b 2 h2, b 3 h3, b 4 h4, b 6 h6]
  have H := Lib.hid hm
  clear hm hO
  generalize opMay op = r at *
  by_cases h0 : op = 0
  · subst h0
    go_enter Tryd.func33, Tryd.ntmps33
    go_wp2
    go_ret
    exact ⟨ret_bool (by rw [H.out]; rfl), Below.refl _ _⟩
  · have e0 : (op == 0) = false := by simpa using h0
    generalize opText op = t at *
    have H2 := Lib.hid (H.out.trans (by rw [e0, Bool.false_or]))
    clear H
    cases ht : t with
    | nil =>
      subst ht
      have f1 : (bs []).toList = [] := bs_toList []
      go_enter Tryd.func33, Tryd.ntmps33
      go_wp2_with fail
      go_at_call 51
      refine T.out.mono ?_
      rintro e w5 ⟨rfl, h⟩
      go_wp2
      go_ret
      exact ⟨ret_bool (by rw [H2.out]; rfl), h⟩
    | cons c r =>
      have f1 : ¬ (bs t).toList = [] := by rw [bs_toList, ht]; simp
      have f2 : (bs t).toList.isEmpty = false := by rw [bs_toList, ht]; rfl
      have H3 := Lib.hid (H2.out.trans (show (!t.isEmpty) = true by rw [ht]; rfl))
      clear H2 ht
      go_enter Tryd.func33, Tryd.ntmps33
      go_wp2_with fail
      go_at_call 51
      refine T.out.mono ?_
      rintro e w5 ⟨rfl, h⟩
      go_wp2
      go_ret
      exact ⟨ret_bool H3.out.symm, h⟩
/- the document's -/
end
section
/- Plain dependencies as texts, in plain terms: names, words, what stands between spaces; the dependency of words, of a text. -/






open Go.RowKit

def sgnI (n : Int) : Bool := decide ((97 ≤ n ∧ n ≤ 122) ∨ (65 ≤ n ∧ n ≤ 90) ∨ (48 ≤ n ∧ n ≤ 57) ∨ n = 46 ∨ n = 95 ∨ n = 43 ∨ n = 45 ∨ n = 47 ∨ n = 58 ∨ n = 64 ∨ n = 126 ∨ n = 94)
def sgn (c : UInt8) : Bool := sgnI (c.toNat : Int)
def noNames : List Bytes := [[97, 110, 100], [111, 114], [105, 102], [101, 108, 115, 101], [117, 110, 108, 101, 115, 115], [119, 105, 116, 104], [119, 105, 116, 104, 111, 117, 116]]
def nameB (l : Bytes) : Bool := decide (1 ≤ l.length) && (decide (l.length ≤ 64) && (l.all sgn && !noNames.contains l))
def fileB (l : Bytes) : Bool := nameB l && (l.head? == some 47)
def isZero (e : Evr) : Bool := e.epoch == 0 && (e.ver.isEmpty && e.rel.isEmpty)
def dmayB (d : Dp) : Bool := nameB d.name && (opMay d.op && (if d.op = 0 then isZero d.evr else !fileB d.name && mayB d.evr true))
theorem name_iff {l : Bytes} : nameB l = true ↔ 1 ≤ l.length ∧ l.length ≤ 64 ∧ (∀ c ∈ l, sgn c = true) ∧ l ∉ noNames := by
  unfold nameB; simp [List.all_eq_true]
/- what stands between spaces -/
/- bytes that stand in words -/
/- the library's words for it -/
end
end Go.Proofs.YtcpjignlhlcnpaaDoor
