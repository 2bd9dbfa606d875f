/- SpOps -/
import Derived.Test.YtnfagaccbkeikaaGreatDoorRichReadsRowG02
import Derived.Maps.RangeWalk
import Derived.Maps.StringElems
import Derived.Maps.OwnOps
/- Walks: span's Ops, an Op's text, the Op of a text; the map that the program's own text lays. -/




namespace Go.Proofs.YtnfagaccbkeikaaGreatDoor
open Go.RowKit Go.Shelf

/-- THE LISTED MAP LIES THERE -/
def OpsIn (w : World) : Prop := 0 < w.heap.size ∧ ∃ bm n, w.cell? ⟨2, 0, none⟩ = some (.map (some bm)) ∧ 2 < w.heap.size ∧ bm < w.heap.size ∧ w.ownsMap Tryz.prog 9 (plainElem Tryz.prog 5) bm n (Rows.laid_chandlery_span_ops (H := Unit))
theorem OpsIn.below {w w' : World} (h : OpsIn w) (hb : Below w.heap.size w w') : OpsIn w' := by
  obtain ⟨h0, bm, n, hc, hg, hl, ho⟩ := h
  exact ⟨Nat.lt_of_lt_of_le h0 hb.size, bm, n, (hb.cell (p := ⟨2, 0, none⟩) hg).trans hc, Nat.lt_of_lt_of_le hg hb.size, Nat.lt_of_lt_of_le hl hb.size, ho.kept (grown_below hb) (by simp)⟩
theorem OpsIn.past {w w' : World} {B : Nat} (h : OpsIn w) (hw : w.heap.size ≤ B) (hb : Below B w w') : OpsIn w' := h.below (hb.mono hw)
theorem keyLaw : Maps.Keyed Tryz.prog 9 := Maps.string_keyed Tryz.underlying9

/-- an Op's text -/
def opText (n : Int) : Bytes := if n = 1 then [60] else if n = 2 then [61] else if n = 3 then [60, 61] else if n = 4 then [62] else if n = 6 then [62, 61] else []
def opMay (n : Int) : Bool := n == 0 || n == 1 || n == 2 || n == 3 || n == 4 || n == 6
theorem ops_at (x : Bytes) (c : Int) (h : (Rows.laid_chandlery_span_ops (H := Unit)).atKey (.string x) .nil = .lit (.int .u8 c)) :
    (x = [] ∧ c = 0) ∨ (x = [60] ∧ c = 1) ∨ (x = [60, 61] ∧ c = 3) ∨ (x = [61] ∧ c = 2) ∨ (x = [62] ∧ c = 4) ∨ (x = [62, 61] ∧ c = 6) := by
  unfold Rows.laid_chandlery_span_ops DataW.atKey at h
  simp only [List.find?_cons, Lit.sameKey, List.find?_nil] at h
  by_cases h0 : x = []
  · subst h0; simp at h; simp [h]
  by_cases h1 : x = [60]
  · subst h1; simp at h; simp [h]
  by_cases h2 : x = [60, 61]
  · subst h2; simp at h; simp [h]
  by_cases h3 : x = [61]
  · subst h3; simp at h; simp [h]
  by_cases h4 : x = [62]
  · subst h4; simp at h; simp [h]
  by_cases h5 : x = [62, 61]
  · subst h5; simp at h; simp [h]
  · have b0 : (([] : Bytes) == x) = false := by simpa using Ne.symm h0
    have b1 : (([60] : Bytes) == x) = false := by simpa using Ne.symm h1
    have b2 : (([60, 61] : Bytes) == x) = false := by simpa using Ne.symm h2
    have b3 : (([61] : Bytes) == x) = false := by simpa using Ne.symm h3
    have b4 : (([62] : Bytes) == x) = false := by simpa using Ne.symm h4
    have b5 : (([62, 61] : Bytes) == x) = false := by simpa using Ne.symm h5
    rw [b0, b1, b2, b3, b4, b5] at h
    cases h
/-- the Op is still to come -/
def ToCome (op : Int) (left : Lit → Bool) : Prop := op = 1 ∨ op = 2 ∨ op = 3 ∨ op = 4 ∨ op = 6 → left (.string (opText op)) = true
theorem opText_no {op : Int} (h : ¬ (op = 1 ∨ op = 2 ∨ op = 3 ∨ op = 4 ∨ op = 6)) : opText op = [] := by
  unfold opText
  rw [if_neg (fun e => h (by simp [e])), if_neg (fun e => h (by simp [e])), if_neg (fun e => h (by simp [e])), if_neg (fun e => h (by simp [e])), if_neg (fun e => h (by simp [e]))]
theorem toCome_start (op : Int) : ToCome op (Maps.has (Rows.laid_chandlery_span_ops (H := Unit))) := by
  intro h
  rcases h with rfl | rfl | rfl | rfl | rfl <;> rfl
theorem toCome_end {op : Int} {left : Lit → Bool} (h : ToCome op left) (hl : ∀ kl, left kl = false) : opText op = [] := by
  by_cases e : op = 1 ∨ op = 2 ∨ op = 3 ∨ op = 4 ∨ op = 6
  · have := h e; rw [hl] at this; cases this
  · exact opText_no e
theorem toCome_step {op c : Int} {x : Bytes} {left : Lit → Bool} (h : ToCome op left) (hat : (Rows.laid_chandlery_span_ops (H := Unit)).atKey (.string x) .nil = .lit (.int .u8 c)) (hne : ¬ c = op) :
    ToCome op (fun z => left z && !z.sameKey (.string x)) := by
  intro e
  have h1 := h e
  have h2 := ops_at x c hat
  simp only [h1, Bool.true_and, Bool.not_eq_true']
  show (opText op == x) = false
  rw [beq_eq_false_iff_ne]
  rintro rfl
  rcases e with rfl | rfl | rfl | rfl | rfl <;> simp [opText] at h2 <;> exact hne h2
theorem toCome_hit {c : Int} {x : Bytes} (hat : (Rows.laid_chandlery_span_ops (H := Unit)).atKey (.string x) .nil = .lit (.int .u8 c)) : x = opText c := by
  rcases ops_at x c hat with ⟨rfl, rfl⟩ | ⟨rfl, rfl⟩ | ⟨rfl, rfl⟩ | ⟨rfl, rfl⟩ | ⟨rfl, rfl⟩ | ⟨rfl, rfl⟩ <;> rfl

theorem keyOf_str {P : Program} {k : TypeId} (hk : P.underlying k = some .string) {key : Value} {kl : Lit} (h : keyOf P k key = some kl) : ∃ x : Bytes, key = .string (bs x) ∧ kl = .string x := by
  cases key <;> simp [keyOf, hk, mapKey] at h
  rename_i s
  obtain ⟨hs, rfl⟩ := h
  exact ⟨s.toList, by rw [bs_of], by rw [Lib.toList_data]⟩
/-- the range's step, strings to bytes -/
theorem wpList_next_su {P : Program} (w : World) {ops : Array Oper} {rest : List Oper} {o : Oper} {a : Act} {Q : Exit → Act → World → Prop}
    (hg : o.guard = none) (it : Operand) (hop : o.op = Op.next it false) (k e : TypeId) (K : Maps.Keyed P k) (hk : P.underlying k = some .string) (he : P.underlying e = some (.int .u8))
    (b r n : Nat) (D : DataW Unit) (left : Lit → Bool) (cnt : Nat) (hit : a.eval it = .pointer (some ⟨r, 0, none⟩)) (h : w.ranges P k (plainElem P e) b r n D left cnt)
    (hDone : cnt = 0 → (∀ kl, left kl = false) → wpList P ops Q rest (a.put o.dst (.tuple #[.bool false])) w)
    (hMore : ∀ (x : Bytes) (c : Int) (w' : World) (cnt' : Nat), left (.string x) = true → D.atKey (.string x) .nil = .lit (.int .u8 c) → w'.ranges P k (plainElem P e) b r n D (fun z => left z && !z.sameKey (.string x)) cnt' → cnt' < cnt →
      w.grownBy w' (some r) → w'.heap.size = w.heap.size → (Instr.entry (.pointer (some ⟨r, 0, none⟩))).run P w' = .ok (.tuple #[.string (bs x), .int .u8 c]) w' → wpList P ops Q rest (a.put o.dst (.tuple #[.bool true, .string (bs x), .int .u8 c])) w') :
    wpList P ops Q (o :: rest) a w :=
  wpList_next_ranges w hg it hop k K (plainElem P e) (fun l : Bytes => Value.string (bs l)) (Value.int .u8) (fun key kl hkey => by obtain ⟨x, rfl, _⟩ := keyOf_str hk hkey; exact ⟨x, rfl⟩) (fun v y hv => by obtain ⟨c, rfl, _⟩ := plainElem_int_inv he hv; exact ⟨c, rfl⟩)
    b r n D left cnt hit h hDone (fun x c kl y w' cnt' hkey hlk hv hat hrg hlt hgr hsz hen => by
      obtain ⟨x', ex, rfl⟩ := keyOf_str hk hkey
      obtain rfl : x = x' := bs_inj (by injection ex)
      obtain ⟨c', ec, rfl, hwc⟩ := plainElem_int_inv he hv
      cases ec
      exact hMore x c w' cnt' hlk (hat .nil) hrg hlt hgr hsz hen)

set_option maxRecDepth 100000 in
set_option maxHeartbeats 2000000 in
theorem text_any (op : Int) (w : World) (hO : OpsIn w) : Calls Tryz.prog 176 #[.int .u8 op] w fun e w' => e = .returned (.string (bs (opText op))) ∧ Below w.heap.size w w' := by
  obtain ⟨_, bm, n, hc, _, hl, hown⟩ := hO
  go_enter Tryz.func176, Tryz.ntmps176
  go_wp2_with (first | (at_range; refine wpList_range_own _ rfl _ 222 rfl 9 5 keyLaw Tryz.underlying222 _ bm n _ rfl hown ?_; intro w0 hrg0 hg0 hs0) | fail)
  go_frame
  have B0 : Below w.heap.size w w0 := ⟨hg0.os, hg0.tape, hg0.output, hg0.size, fun k hk => hg0.block k hk (by simp)⟩
  go_loopw [3] (fun _ wr => ∃ left cnt, wr.ranges Tryz.prog 9 (plainElem Tryz.prog 5) bm w.heap.size n (Rows.laid_chandlery_span_ops (H := Unit)) left cnt ∧ RowKit.Hid (ToCome op left) ∧ Below w.heap.size w wr) (fun _ wr => wr.rangeLeft bm w.heap.size)
  case atStart => exact ⟨_, _, hrg0, Lib.hid (toCome_start op), B0⟩
  case round =>
    obtain ⟨left, cnt, hrg, hT, hB⟩ := hrel
    go_wp2_with (first | (at_next; refine wpList_next_su _ rfl _ rfl 9 5 keyLaw Tryz.underlying9 Tryz.underlying5 bm w.heap.size n _ _ _ rfl hrg ?_ ?_) | fail)
    · intro _ hl0
      have H := Lib.hid (toCome_end hT.out hl0)
      clear hl0 hT
      go_wp2
      go_ret
      exact ⟨ret_str (by rw [H.out]; rfl), hB⟩
    · intro x c w1 cnt1 _ hat hrg1 hlt hg1 hs1 hen
      have hB1 : Below w.heap.size w w1 := hB.grown hg1 (by have := hB.size; omega) (fun k e => by cases e; exact Nat.le_refl _)
      clear hs1 hg1
      by_cases e : c = op
      · have H := Lib.hid (toCome_hit hat)
        subst e
        clear hat hT hrg1 hrg
        go_wp2
        go_ret
        exact ⟨ret_str (by rw [H.out]), hB1⟩
      · have H := Lib.hid (toCome_step hT.out hat e)
        have e2 : (c == op) = false := by simpa using e
        clear hat hT
        go_wp2
        go_roundw
        case rel => exact ⟨_, _, hrg1, H, hB1⟩
        case measure => rw [hrg1.left_eq, hrg.left_eq]; omega

set_option maxRecDepth 100000 in
set_option maxHeartbeats 2000000 in
theorem may_any (op : Int) (w : World) (hO : OpsIn w) : Calls Tryz.prog 145 #[.int .u8 op] w fun e w' => e = .returned (.bool (opMay op)) ∧ Below w.heap.size w w' := by
  have T := Lib.hid (text_any op w hO)
  have hm : opMay op = (op == 0 || !(opText op).isEmpty) := by
    unfold opMay opText
    by_cases h0 : op = 0
    · simp [h0]
    by_cases h1 : op = 1
    · simp [h1]
    by_cases h2 : op = 2
    · simp [h2]
    by_cases h3 : op = 3
    · simp [h3]
    by_cases h4 : op = 4
    · simp [h4]
    by_cases h6 : op = 6
    · simp [h6]
    · have b : ∀ k : Int, ¬ op = k → (op == k) = false := fun k h => by simpa using h
      simp [h1, h2, h3, h4, h6, b 1 h1, b 2 h2, b 3 h3, b 4 h4, b 6 h6]
  have H := Lib.hid hm
  clear hm hO
  generalize opMay op = r at *
  by_cases h0 : op = 0
  · subst h0
    go_enter Tryz.func145, Tryz.ntmps145
    go_wp2
    go_ret
    exact ⟨ret_bool (by rw [H.out]; rfl), Below.refl _ _⟩
  · have e0 : (op == 0) = false := by simpa using h0
    generalize opText op = t at *
    have H2 := Lib.hid (H.out.trans (by rw [e0, Bool.false_or]))
    clear H
    cases ht : t with
    | nil =>
      subst ht
      have f1 : (bs []).toList = [] := bs_toList []
      go_enter Tryz.func145, Tryz.ntmps145
      go_wp2_with fail
      go_at_call 176
      refine T.out.mono ?_
      rintro e w5 ⟨rfl, h⟩
      go_wp2
      go_ret
      exact ⟨ret_bool (by rw [H2.out]; rfl), h⟩
    | cons c r =>
      have f1 : ¬ (bs t).toList = [] := by rw [bs_toList, ht]; simp
      have f2 : (bs t).toList.isEmpty = false := by rw [bs_toList, ht]; rfl
      have H3 := Lib.hid (H2.out.trans (show (!t.isEmpty) = true by rw [ht]; rfl))
      clear H2 ht
      go_enter Tryz.func145, Tryz.ntmps145
      go_wp2_with fail
      go_at_call 176
      refine T.out.mono ?_
      rintro e w5 ⟨rfl, h⟩
      go_wp2
      go_ret
      exact ⟨ret_bool H3.out.symm, h⟩
/-- the Op of a text, and whether there is one -/
def opOf (s : Bytes) : Int × Bool := if s = [] then (0, true) else if s = [60] then (1, true) else if s = [60, 61] then (3, true) else if s = [61] then (2, true) else if s = [62] then (4, true) else if s = [62, 61] then (6, true) else (0, false)
theorem ops_look (s : Bytes) : Maps.has (Rows.laid_chandlery_span_ops (H := Unit)) (.string s) = (opOf s).2 ∧ (Rows.laid_chandlery_span_ops (H := Unit)).atKey (.string s) (.lit (.int .u8 0)) = .lit (.int .u8 (opOf s).1) := by
  by_cases h0 : s = []
  · subst h0; exact ⟨rfl, rfl⟩
  by_cases h1 : s = [60]
  · subst h1; exact ⟨rfl, rfl⟩
  by_cases h2 : s = [60, 61]
  · subst h2; exact ⟨rfl, rfl⟩
  by_cases h3 : s = [61]
  · subst h3; exact ⟨rfl, rfl⟩
  by_cases h4 : s = [62]
  · subst h4; exact ⟨rfl, rfl⟩
  by_cases h5 : s = [62, 61]
  · subst h5; exact ⟨rfl, rfl⟩
  have e : opOf s = (0, false) := by unfold opOf; simp [h0, h1, h2, h3, h4, h5]
  have b0 : (([] : Bytes) == s) = false := by simpa using Ne.symm h0
  have b1 : (([60] : Bytes) == s) = false := by simpa using Ne.symm h1
  have b2 : (([60, 61] : Bytes) == s) = false := by simpa using Ne.symm h2
  have b3 : (([61] : Bytes) == s) = false := by simpa using Ne.symm h3
  have b4 : (([62] : Bytes) == s) = false := by simpa using Ne.symm h4
  have b5 : (([62, 61] : Bytes) == s) = false := by simpa using Ne.symm h5
  rw [e]
  constructor
  · unfold Rows.laid_chandlery_span_ops Maps.has
    simp only [List.any_cons, Lit.sameKey, List.any_nil, b0, b1, b2, b3, b4, b5]; rfl
  · unfold Rows.laid_chandlery_span_ops DataW.atKey
    simp only [List.find?_cons, Lit.sameKey, List.find?_nil]
    rw [b0, b1, b2, b3, b4, b5]
theorem zero_u8 (w : World) : (zeroValue 5).run Tryz.prog w = .ok (.int .u8 0) w := by kernel_rfl
set_option maxRecDepth 100000 in
set_option maxHeartbeats 2000000 in
theorem opParse_any (s : ByteArray) (hs : s.size ≤ maxLen) (w : World) (hO : OpsIn w) : Calls Tryz.prog 132 #[.string s] w fun e w' => e = .returned (.tuple #[.int .u8 (opOf s.toList).1, .bool (opOf s.toList).2]) ∧ w = w' := by
  obtain ⟨_, bm, n, hc, _, hl, hown⟩ := hO
  have hk : keyOf Tryz.prog 9 (.string s) = some (.string s.toList) := by
    rw [Lib.toList_data]; exact WideMaps.keyOf_string_mk Tryz.underlying9 hs
  obtain ⟨v, ps, hrun, hR⟩ := hown.look_ok keyLaw Tryz.underlying222 (zero_u8 w) (zd := .lit (.int .u8 0)) (zp := []) (plainElem_int Tryz.underlying5 (by decide)) hk
  rw [(ops_look s.toList).2] at hR
  rw [(ops_look s.toList).1] at hrun
  obtain ⟨c, rfl, hz, _⟩ := plainElem_int_inv Tryz.underlying5 hR
  simp only [Prod.mk.injEq, DataW.lit.injEq, Lit.int.injEq, true_and] at hz
  have H := Lib.hid hz.1
  clear hz hR hk hown
  generalize (opOf s.toList).1 = o1 at *
  generalize (opOf s.toList).2 = o2 at *
  go_enter Tryz.func132, Tryz.ntmps132
  go_wp2
  go_ret2
  exact ⟨by rw [H.out]; rfl, rfl⟩

/- the document's -/
set_option maxRecDepth 100000 in
set_option maxHeartbeats 2000000 in
theorem rtext_any (n : Int) (w : World) : Calls Tryz.prog 136 #[.int .u8 n] w fun e w' => e = .returned (.string (bs (opText n))) ∧ w = w' := by
  unfold opText
  by_cases h1 : n = 1
  · subst h1; go_enter Tryz.func136, Tryz.ntmps136; go_wp2; go_ret; exact ⟨rfl, rfl⟩
  by_cases h2 : n = 2
  · subst h2; go_enter Tryz.func136, Tryz.ntmps136; go_wp2; go_ret; exact ⟨rfl, rfl⟩
  by_cases h3 : n = 3
  · subst h3; go_enter Tryz.func136, Tryz.ntmps136; go_wp2; go_ret; exact ⟨rfl, rfl⟩
  by_cases h4 : n = 4
  · subst h4; go_enter Tryz.func136, Tryz.ntmps136; go_wp2; go_ret; exact ⟨rfl, rfl⟩
  by_cases h6 : n = 6
  · subst h6; go_enter Tryz.func136, Tryz.ntmps136; go_wp2; go_ret; exact ⟨rfl, rfl⟩
  have b1 : (n == 1) = false := by simpa using h1
  have b2 : (n == 2) = false := by simpa using h2
  have b3 : (n == 3) = false := by simpa using h3
  have b4 : (n == 4) = false := by simpa using h4
  have b6 : (n == 6) = false := by simpa using h6
  rw [if_neg h1, if_neg h2, if_neg h3, if_neg h4, if_neg h6]
  go_enter Tryz.func136, Tryz.ntmps136
  go_wp2
  go_ret
  exact ⟨rfl, rfl⟩
theorem opOf_hit {k : Nat} {s : Bytes} (hk : k ≤ 6) (hm : opMay k = true) (h : opText k = s) : opOf s = ((k : Int), true) := by
  subst h
  rcases (show k = 0 ∨ k = 1 ∨ k = 2 ∨ k = 3 ∨ k = 4 ∨ k = 5 ∨ k = 6 by omega) with rfl | rfl | rfl | rfl | rfl | rfl | rfl <;> first | rfl | (cases hm)
theorem opOf_miss {s : Bytes} (h : ∀ j : Nat, j < 7 → opMay j = true → ¬ opText j = s) : opOf s = (0, false) := by
  have h0 := h 0 (by omega) rfl
  have h1 := h 1 (by omega) rfl
  have h2 := h 2 (by omega) rfl
  have h3 := h 3 (by omega) rfl
  have h4 := h 4 (by omega) rfl
  have h6 := h 6 (by omega) rfl
  unfold opOf
  rw [if_neg (fun e => h0 (by rw [e]; rfl)), if_neg (fun e => h1 (by rw [e]; rfl)), if_neg (fun e => h3 (by rw [e]; rfl)), if_neg (fun e => h2 (by rw [e]; rfl)), if_neg (fun e => h4 (by rw [e]; rfl)), if_neg (fun e => h6 (by rw [e]; rfl))]
set_option maxRecDepth 100000 in
set_option maxHeartbeats 2000000 in
theorem ropParse_any (s : ByteArray) (w : World) : Calls Tryz.prog 91 #[.string s] w fun e w' => e = .returned (.tuple #[.int .u8 (opOf s.toList).1, .bool (opOf s.toList).2]) ∧ w = w' := by
  have TT := Lib.hid (fun n W => rtext_any n W)
  have MM := Lib.hid (fun n W => rmay_any n W)
  have HH := Lib.hid (fun (k : Nat) (a : k ≤ 6) (b : opMay (k : Int) = true) (c : opText (k : Int) = s.toList) => opOf_hit a b c)
  have HM := Lib.hid (fun h => @opOf_miss s.toList h)
  generalize hr : opOf s.toList = r at *
  clear hr
  obtain ⟨r1, r2⟩ := r
  dsimp only at *
  go_enter Tryz.func91, Tryz.ntmps91
  go_wp2
  go_loop [4] (fun i => ∃ k : Nat, k ≤ 7 ∧ i = .int .u8 (k : Int) ∧ RowKit.Hid (∀ j : Nat, j < k → opMay j = true → ¬ opText j = s.toList)) (fun i => 7 - (intOf i).toNat)
  case atStart => exact ⟨0, by omega, rfl, Lib.hid (fun j hj => absurd hj (by omega))⟩
  case round =>
    obtain ⟨k, hk, rfl, hJ⟩ := hrel
    by_cases h7 : k = 7
    · subst h7
      have H := Lib.hid (HM.out hJ.out)
      go_wp2
      go_ret2
      have h1 := congrArg Prod.fst H.out
      have h2 := congrArg Prod.snd H.out
      dsimp only at h1 h2
      exact ⟨by rw [h1, h2]; rfl, rfl⟩
    · have hk6 : k ≤ 6 := by omega
      cases hm : opMay k with
      | false =>
        have h5 : k = 5 := by
          rcases (show k = 0 ∨ k = 1 ∨ k = 2 ∨ k = 3 ∨ k = 4 ∨ k = 5 ∨ k = 6 by omega) with rfl | rfl | rfl | rfl | rfl | rfl | rfl <;> first | rfl | (cases hm)
        subst h5
        have H := Lib.hid (show ∀ j : Nat, j < 6 → opMay j = true → ¬ opText j = s.toList from fun j hj hmj => by
          by_cases e : j = 5
          · subst e; cases hmj
          · exact hJ.out j (by omega) hmj)
        clear hm
        go_wp2_with fail
        go_at_call 135
        refine (MM.out _ _).mono ?_
        rintro e w1 ⟨rfl, rfl⟩
        go_wp2
        go_round
        case rel => exact ⟨6, by omega, by go_num, H⟩
        case measure => simp [intOf]
      | true =>
        have hk7 : (k : Int) < 7 := by omega
        have MT : RowKit.Hid (∀ W, Calls Tryz.prog 135 #[.int .u8 (k : Int)] W fun e w' => e = .returned (.bool true) ∧ W = w') := Lib.hid (fun W => (MM.out k W).mono fun e w' h => ⟨h.1.trans (ret_bool hm), h.2⟩)
        by_cases ht : opText k = s.toList
        · have H := Lib.hid (HH.out k hk6 hm ht)
          have hs : s = bs (opText k) := by rw [ht, bs_of]
          have T2 : RowKit.Hid (∀ W, Calls Tryz.prog 136 #[.int .u8 (k : Int)] W fun e w' => e = .returned (.string s) ∧ W = w') := Lib.hid (fun W => (TT.out k W).mono fun e w' h => ⟨h.1.trans (ret_str hs.symm), h.2⟩)
          clear hs ht hm TT
          go_wp2_with fail
          go_at_call 135
          refine (MT.out _).mono ?_
          rintro e w1 ⟨rfl, rfl⟩
          go_wp2_with fail
          go_at_call 136
          refine (T2.out _).mono ?_
          rintro e w1 ⟨rfl, rfl⟩
          go_wp2
          go_ret2
          have h1 := congrArg Prod.fst H.out
          have h2 := congrArg Prod.snd H.out
          dsimp only at h1 h2
          exact ⟨by rw [h1, h2]; rfl, rfl⟩
        · have H := Lib.hid (show ∀ j : Nat, j < k + 1 → opMay j = true → ¬ opText j = s.toList from fun j hj hmj => by
            by_cases e : j = k
            · subst e; exact ht
            · exact hJ.out j (by omega) hmj)
          have T2 := Lib.hid (fun W => TT.out (k : Int) W)
          generalize opText k = t at *
          have f4 : ¬ (bs t).toList = s.toList := by rw [bs_toList]; exact ht
          have f2 : ((bs t).toList == s.toList) = false := by simpa using f4
          have f3 : ¬ bs t = s := fun e => f4 (by rw [e])
          clear hm TT ht
          go_wp2_with fail
          go_at_call 135
          refine (MT.out _).mono ?_
          rintro e w1 ⟨rfl, rfl⟩
          go_wp2_with fail
          go_at_call 136
          refine (T2.out _).mono ?_
          rintro e w1 ⟨rfl, rfl⟩
          go_wp2
          go_round
          case rel => exact ⟨k + 1, by omega, by go_num, H⟩
          case measure => simp [intOf]; omega
end Go.Proofs.YtnfagaccbkeikaaGreatDoor
