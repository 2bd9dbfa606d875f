/- RlWords -/
import Derived.Test.YtnfagaccbkeikaaGreatDoorRichReadsRowG13
/- Walks: lex.Words: the words of any text, or what is wrong where. -/

namespace Go.Proofs.YtnfagaccbkeikaaGreatDoor
open Go.RowKit Go.Shelf
attribute [local go_sem] Oper.semAt_some

def encTok (x : Tok) : List Value := [.string (bs x.2), .int .i64 (x.1 : Int)]
def WordsPostX (s : ByteArray) (w : World) (e : Ending) (w' : World) : Prop :=
  ∃ v, e = .returned (.tuple #[v, .int .i64 ((wordsS s.toList).2.1 : Int), .int .i64 (wordsS s.toList).2.2]) ∧ Own encTok 2 w.heap.size 95 v (wordsS s.toList).1 w' ∧ Below w.heap.size w w'

set_option maxHeartbeats 1000000 in
theorem all_in (n : Nat) (s : ByteArray) (w : World) :
    CallsIn Fence.wide n Tryz.prog 86 #[.string s] w fun e w' => e = .returned (.func (.func 128) #[] #[.pointer (some ⟨w.heap.size, 0, none⟩)]) ∧ w' = w.alloc (.cells #[.string s] 9) := by
  refine callsIn_of_wp Tryz.func86 rfl trivial ?_ rfl
  simp only [Tryz.ntmps86, List.size_toArray, List.length_cons, List.length_nil, Nat.reduceAdd, Nat.reduceSub, Array.replicate_succ, Array.replicate_zero, List.push_toArray, List.append_toArray, List.nil_append, List.cons_append]
  gi_wp2
  go_ret
  exact ⟨rfl, rfl⟩

def KBoxX (Bs : Nat) (W W' : World) : Prop := W'.cell? ⟨Bs, 0, none⟩ = W.cell? ⟨Bs, 0, none⟩
theorem kbox_tX {Bs : Nat} {A B C : World} (h : KBoxX Bs A B) (k : KBoxX Bs B C) : KBoxX Bs A C := Eq.trans k h
theorem kbox_bX {Bs : Nat} {w : World} (hn : Bs < w.heap.size) (W : World) (l : Nat) (o o' : Obj) (hl : w.heap.size ≤ l) (_ : W.heap[l]? = some o) (_ : o.isCells = false) (_ : o.isWalk = false) : KBoxX Bs W (W.putObj l o') :=
  World.cell?_of_block (World.putObj_heap_other (by simp; omega))

theorem all_stops (n : Nat) (Bs : Nat) (s : ByteArray) (hs : s.size ≤ 9223372036854775807) (w : World) (hB : Bs < w.heap.size) (hc : w.cell? ⟨Bs, 0, none⟩ = some (.string s)) :
    SeqStopsK Fence.wide n Tryz.prog 128 #[.pointer (some ⟨Bs, 0, none⟩)] tokArgs (KBoxX Bs) (fun ys => ys = toks 0 none s.toList) (fun pre => pre <+: toks 0 none s.toList) (toks 0 none s.toList).length w :=
  fun l J Jx W hW _ _ hY h0 => all1_in n l Bs s hs J Jx hY W ((hW.cell (p := ⟨Bs, 0, none⟩) hB).trans hc) h0

theorem infoWord : (Tryz.prog.info? 95).map (fun i => (i.zero, i.size, i.bytes)) = some (some (.agg #[.string ByteArray.empty, .int .i64 0]), 2, 24) := by kernel_rfl

set_option maxHeartbeats 400000 in
theorem words_long (s : ByteArray) (w : World) (hs : s.size ≤ maxLen) (hl : 4096 < s.size) : Calls Tryz.prog 45 #[.string s] w (WordsPostX s w) := by
  unfold maxLen at hs
  go_enter Tryz.func45, Tryz.ntmps45
  go_wp2
  have hw : wordsS s.toList = ([], 0, 40) := by unfold wordsS; rw [if_pos (by rw [size_toList]; exact hl)]
  refine bodyPost_ret (v := .tuple #[.slice none 0 0, .int .i64 0, .int .i64 40]) (by simp [results, Tryz.results45, go_sem]) rfl ?_
  exact ⟨.slice none 0 0, by rw [hw]; rfl, by rw [hw]; exact Own.nil_ _ _ _, (((Below.refl _ _).alloc (Nat.le_refl _) _).alloc (by simp) _).alloc (by simp; omega) _⟩

/-- what holds between two rounds of the loop in lex.Words -/
def WI (w : World) (pre : List Tok) (W : World) : Prop :=
  (∃ v, Boxed W w.heap.size 86 v ∧ W.ownsRow w.heap.size 95 2 v pre.length (pre.flatMap encTok) ∧ True) ∧ Boxed W (w.heap.size + 1) 3 (.int .i64 0) ∧ Boxed W (w.heap.size + 2) 30 (.int .i64 0)
def WIs (w : World) (s : ByteArray) (pre : List Tok) (W : World) : Prop := (∀ x ∈ pre, x.2 ≠ []) ∧ WI w pre W ∧ Boxed W (w.heap.size + 3) 9 (.string s) ∧ Below w.heap.size w W
/-- .. and behind the round at which something was wrong -/
def WX (w : World) (c : Code) (pre : List Tok) (W : World) : Prop :=
  (c = .ret ∧ ∃ ys p, pre = ys ++ [(p, [])] ∧ ∀ x ∈ ys, x.2 ≠ []) ∧ Boxed W w.heap.size 86 (.slice none 0 0) ∧ Boxed W (w.heap.size + 1) 3 (.int .i64 (((pre.getLast?.map (·.1)).getD 0 : Nat) : Int)) ∧ Boxed W (w.heap.size + 2) 30 (.int .i64 4) ∧ Below w.heap.size w W
theorem WIs_own (w : World) (s : ByteArray) {B : Nat} (hB : w.heap.size ≤ B) : OwnFrom B (WIs w s) :=
  OwnFrom.and (ownFrom_pure _ _) (OwnFrom.and (OwnFrom.and (Own.from (holdsRow_own _ _ _ _ _ _ _ _) _) (OwnFrom.and (Own.from (boxed_own _ _ _) _) (Own.from (boxed_own _ _ _) _)))
    (OwnFrom.and (Own.from (boxed_own _ _ _) _) (ownFrom_below (Nat.le_refl _) hB)))
theorem WX_own (w : World) (c : Code) {B : Nat} (hB : w.heap.size ≤ B) : OwnFrom B (WX w c) :=
  OwnFrom.and (ownFrom_pure _ _) (OwnFrom.and (Own.from (boxed_own _ _ _) _) (OwnFrom.and (Own.from (boxed_own _ _ _) _) (OwnFrom.and (Own.from (boxed_own _ _ _) _) (ownFrom_below (Nat.le_refl _) hB))))

set_option maxRecDepth 100000 in
set_option maxHeartbeats 2000000 in
theorem words_short (s : ByteArray) (w : World) (hl : s.size ≤ 4096) : CallsIn Fence.wide 6 Tryz.prog 45 #[.string s] w (WordsPostX s w) := by
  obtain ⟨i0, hi, hz0, hz1, hz2⟩ := info_parts infoWord
  refine callsIn_of_wp_marks Tryz.func45 rfl trivial ?_ rfl
  simp only [Tryz.ntmps45, List.size_toArray, List.length_cons, List.length_nil, Nat.reduceAdd, Nat.reduceSub, Array.replicate_succ, Array.replicate_zero, List.push_toArray, List.append_toArray, List.nil_append, List.cons_append]
  gi_wp2_with (refine ⟨trivial, ?_⟩; gi_at_call 86; refine (all_in _ _ _).mono ?_; rintro e w' ⟨rfl, rfl⟩)
  have b0 := Boxed.new w 86 (.slice none 0 0)
  have b1 := Boxed.new (w.alloc (.cells #[.slice none 0 0] 86)) 3 (.int .i64 0)
  have b2 := Boxed.new ((w.alloc (.cells #[.slice none 0 0] 86)).alloc (.cells #[.int .i64 0] 3)) 30 (.int .i64 0)
  have b3 := Boxed.new (((w.alloc (.cells #[.slice none 0 0] 86)).alloc (.cells #[.int .i64 0] 3)).alloc (.cells #[.int .i64 0] 30)) 9 (.string s)
  simp only [World.size_alloc, Nat.add_assoc, Nat.reduceAdd] at b1 b2 b3
  have hB0 : Below w.heap.size w ((((w.alloc (.cells #[.slice none 0 0] 86)).alloc (.cells #[.int .i64 0] 3)).alloc (.cells #[.int .i64 0] 30)).alloc (.cells #[.string s] 9)) :=
    ((((Below.refl _ _).alloc (Nat.le_refl _) _).alloc (by simp) _).alloc (by simp; omega) _).alloc (by simp; omega) _
  refine wpIn_rangeFunc_ownG rfl (by decide) (gf := 128) (lb := #[.pointer (some ⟨w.heap.size + 3, 0, none⟩)]) rfl trivial (enters_of Tryz.func128 (by kernel_rfl) rfl)
    (all_stops 5 (w.heap.size + 3) s (by omega) _ (by simp) b3.cell) kbox_tX (kbox_bX (by simp)) (Below.refl _ _) (fun _ => rfl)
    (WIs w s) (WX w) (WIs_own w s (by simp; omega)) (fun c => WX_own w c (by simp; omega))
    ⟨by simp, ⟨⟨_, ((b0.alloc _).alloc _).alloc _, World.ownsRow_nil _ _ _ _, trivial⟩, (b1.alloc _).alloc _, b2.alloc _⟩, b3, hB0⟩
    (fun x => { tmps := #[.string s, undef, .pointer (some ⟨w.heap.size, 0, none⟩), .pointer (some ⟨w.heap.size + 1, 0, none⟩), .pointer (some ⟨w.heap.size + 1 + 1, 0, none⟩), .int .i64 (x.1 : Int), .string (bs x.2), .string s, .int .i64 s.size, .bool (decide ((4096 : Int) < s.size)), .string s, .func (.func 128) #[] #[.pointer (some ⟨w.heap.size + 1 + 1 + 1, 0, none⟩)], .int .i64 (x.1 : Int), .string (bs x.2), undef, undef, undef, undef, undef, undef, undef, undef, undef, undef], defers := [] }) ?assign ?body ?done ?stop
  case assign =>
    intro l x W K hK
    unfold tokArgs
    gi_wp2
    exact hK
  case body =>
    rintro l pre x W ⟨hg, ⟨⟨v, hv, hrow, _⟩, hp1, hp2⟩, hp3, hB⟩ hlt
    have hN := toks_len s.toList 0 none
    rw [size_toList] at hN
    simp only [flushT, List.length_nil, Nat.add_zero] at hN
    have hc := hv.cell
    have hf := hv.frozen
    have hc1 := hp1.cell
    have hf1 := hp1.frozen
    have hc2 := hp2.cell
    have hf2 := hp2.frozen
    obtain ⟨p, t⟩ := x
    dsimp only
    cases t with
    | nil =>
      have ht : (bs []).toList = [] := bs_toList []
      gi_wp2
      have k1 : Boxed (W.setCell ⟨w.heap.size, 0, none⟩ (.slice none 0 0)) w.heap.size 86 (.slice none 0 0) := hv.set _
      have k2 := hp1.other (B' := w.heap.size) (by omega) (.slice none 0 0)
      have k3 := hp2.other (B' := w.heap.size) (by omega) (.slice none 0 0)
      refine ⟨((KeepsOthers.setCell _ _ _).trans ((KeepsOthers.setCell _ _ _).trans (KeepsOthers.setCell _ _ _))).from _, ⟨rfl, pre, p, rfl, hg⟩, (k1.other (by omega) _).other (by omega) _, ?_, (k3.other (by omega) _).set _, ((hB.setCell (p := ⟨w.heap.size, 0, none⟩) (Nat.le_refl _) _).setCell (p := ⟨w.heap.size + 1, 0, none⟩) (by simp) _).setCell (p := ⟨w.heap.size + 1 + 1, 0, none⟩) (by simp; omega) _⟩
      have k4 := ((k2.set (.int .i64 (p : Int))).other (B' := w.heap.size + 2) (by omega) (.int .i64 4))
      simpa using k4
    | cons c t =>
      have ht : (bs (c :: t)).toList.isEmpty = false := by rw [bs_toList]; rfl
      gi_wp2_with (gi_at_builtin; refine wpListIn_append_own _ rfl _ _ 86 rfl w.heap.size 95 i0 (.agg #[.string ByteArray.empty, .int .i64 0]) 2 24 Tryz.underlying86 hi hz0 hz1 hz2 rfl (by decide) _ _ _ rfl (hrow.alloc _) ⟨W.heap.size, 0, none⟩ 1 1 [.string (bs (c :: t)), .int .i64 (p : Int)] rfl rfl (cell_two_new _ _ _ _) (by simp [Value.oneCell']) (by simp only [maxLen]; omega) (by omega) (by have := hB.size; simp; omega) ?_; intro v' w1 hown' hgrow _; obtain ⟨g', cap', rfl⟩ := ownsRow_succ hown'; obtain ⟨hv1, hv2, hr2, hk2, hb2⟩ := hv.appended (by decide) hrow hB.size (Nat.le_refl _) hown' hgrow; have hc1 := hv1.cell; have hf1 := hv1.frozen)
      have h1 : Boxed (w1.setCell ⟨w.heap.size, 0, none⟩ (.slice (some ⟨g', 0, none⟩) (pre.length + 1) cap')) (w.heap.size + 1) 3 (.int .i64 0) := ((hp1.alloc _).kept hgrow (hp1.not_row (by decide) hrow)).other (by omega) _
      have h2 : Boxed (w1.setCell ⟨w.heap.size, 0, none⟩ (.slice (some ⟨g', 0, none⟩) (pre.length + 1) cap')) (w.heap.size + 2) 30 (.int .i64 0) := ((hp2.alloc _).kept hgrow (hp2.not_row (by decide) hrow)).other (by omega) _
      have h3 : Boxed (w1.setCell ⟨w.heap.size, 0, none⟩ (.slice (some ⟨g', 0, none⟩) (pre.length + 1) cap')) (w.heap.size + 3) 9 (.string s) := ((hp3.alloc _).kept hgrow (hp3.not_row (by decide) hrow)).other (by omega) _
      refine ⟨hk2.from _, h3.cell.trans hp3.cell.symm, ?_, ⟨⟨_, hv2, ?_, trivial⟩, h1, h2⟩, h3, hB.trans hb2⟩
      · intro x hx
        rcases List.mem_append.1 hx with hx | hx
        · exact hg x hx
        · simp at hx; subst hx; simp
      · simpa [encTok] using hr2
  case done =>
    rintro D ys W hD rfl ⟨hg, ⟨⟨v, hv, hrow, _⟩, hp1, hp2⟩, hp3, hB⟩ hK
    obtain ⟨A, c, rfl⟩ := own_shape hrow
    have hc := hv.cell
    have hf := hv.frozen
    have hc1 := hp1.cell
    have hf1 := hp1.frozen
    have hc2 := hp2.cell
    have hf2 := hp2.frozen
    gi_wp2
    have hno : badAt s.toList = none := by
      cases hb : badAt s.toList with
      | none => rfl
      | some i =>
        obtain ⟨ys, h1, _⟩ := toks_bad (p := 0) (cur := none) hb (by simp)
        exact absurd rfl (hg (0 + i, []) (by rw [h1]; simp))
    have hw : wordsS s.toList = (toks 0 none s.toList, 0, 0) := by
      unfold wordsS
      rw [if_neg (by rw [size_toList]; omega), hno]
    have k0 : Boxed (((W.setCell ⟨w.heap.size, 0, none⟩ (.slice A (toks 0 none s.toList).length c)).setCell ⟨w.heap.size + 1, 0, none⟩ (.int .i64 0)).setCell ⟨w.heap.size + 1 + 1, 0, none⟩ (.int .i64 0)) w.heap.size 86 (.slice A (toks 0 none s.toList).length c) := ((hv.set _).other (by omega) _).other (by omega) _
    have k1 : Boxed (((W.setCell ⟨w.heap.size, 0, none⟩ (.slice A (toks 0 none s.toList).length c)).setCell ⟨w.heap.size + 1, 0, none⟩ (.int .i64 0)).setCell ⟨w.heap.size + 1 + 1, 0, none⟩ (.int .i64 0)) (w.heap.size + 1) 3 (.int .i64 0) := ((hp1.other (by omega) _).set _).other (by omega) _
    have k2 : Boxed (((W.setCell ⟨w.heap.size, 0, none⟩ (.slice A (toks 0 none s.toList).length c)).setCell ⟨w.heap.size + 1, 0, none⟩ (.int .i64 0)).setCell ⟨w.heap.size + 1 + 1, 0, none⟩ (.int .i64 0)) (w.heap.size + 2) 30 (.int .i64 0) := ((hp2.other (by omega) _).other (by omega) _).set _
    have kr : (((W.setCell ⟨w.heap.size, 0, none⟩ (.slice A (toks 0 none s.toList).length c)).setCell ⟨w.heap.size + 1, 0, none⟩ (.int .i64 0)).setCell ⟨w.heap.size + 1 + 1, 0, none⟩ (.int .i64 0)).ownsRow w.heap.size 95 2 (.slice A (toks 0 none s.toList).length c) (toks 0 none s.toList).length ((toks 0 none s.toList).flatMap encTok) := by
      refine ((hrow.kept (grownBy_setCell' _ _ _) (.inr (fun e => hv.not_row (by decide) hrow e.symm))).kept (grownBy_setCell' _ _ _) (.inr (fun e => hp1.not_row (by decide) hrow e.symm))).kept (grownBy_setCell' _ _ _) (.inr (fun e => hp2.not_row (by decide) hrow e.symm))
    have kb := ((hB.setCell (p := ⟨w.heap.size, 0, none⟩) (Nat.le_refl _) (.slice A (toks 0 none s.toList).length c)).setCell (p := ⟨w.heap.size + 1, 0, none⟩) (by simp) (.int .i64 0)).setCell (p := ⟨w.heap.size + 1 + 1, 0, none⟩) (by simp; omega) (.int .i64 0)
    have hK3 := ((((KeepsOthers.setCell W ⟨w.heap.size, 0, none⟩ (.slice A (toks 0 none s.toList).length c)).trans (KeepsOthers.setCell _ ⟨w.heap.size + 1, 0, none⟩ (.int .i64 0))).trans (KeepsOthers.setCell _ ⟨w.heap.size + 1 + 1, 0, none⟩ (.int .i64 0)))).same D _ hK rfl
    generalize hW3 : ((W.setCell ⟨w.heap.size, 0, none⟩ (.slice A (toks 0 none s.toList).length c)).setCell ⟨w.heap.size + 1, 0, none⟩ (.int .i64 0)).setCell ⟨w.heap.size + 1 + 1, 0, none⟩ (.int .i64 0) = W3 at *
    have hDw : w.heap.size + 4 ≤ D := by simp at hD; omega
    have hg3 := grownBy_putObj' W3 D (.deferred none)
    have j0 := (k0.kept hg3 (by simp; omega)).cell
    have j1 := (k1.kept hg3 (by simp; omega)).cell
    have j2 := (k2.kept hg3 (by simp; omega)).cell
    refine ⟨by simp, .inl ⟨_, _, rfl, run_takeDeferred hK3, ?_⟩⟩
    refine ⟨.tuple #[.slice A (toks 0 none s.toList).length c, .int .i64 0, .int .i64 0], by simp [results, Tryz.results45, go_sem, j0, j1, j2], ?_⟩
    exact ⟨_, by rw [hw]; rfl, by rw [hw]; exact ownsRow_putObj kr _ hK3 rfl, kb.trans (belowK_b (w := w) (Nat.le_refl _) W3 D _ _ (by omega) hK3 rfl rfl)⟩
  case stop =>
    rintro D c pre W hD hpre ⟨⟨rfl, ys, p, rfl, hg⟩, hv, hp1, hp2, hB⟩ hK
    gi_wp2
    have hb : badAt s.toList = some p := by
      cases hb : badAt s.toList with
      | none =>
        have hgood : ∀ c ∈ s.toList, wrong c = false := by
          intro c hc
          have := List.findIdx?_eq_none_iff.1 hb c hc
          simpa using this
        obtain ⟨r, hr⟩ := hpre
        exact absurd rfl (toks_good (p := 0) (cur := none) hgood (by simp) (p, []) (by rw [← hr]; simp))
      | some i =>
        obtain ⟨zs, h1, h2⟩ := toks_bad (p := 0) (cur := none) hb (by simp)
        obtain ⟨r, hr⟩ := hpre
        rw [h1] at hr
        have hz := last_only hr h2
        rw [hz]; simp
    have hw : wordsS s.toList = ([], p, 4) := by
      unfold wordsS
      rw [if_neg (by rw [size_toList]; omega), hb]
    have hDw : w.heap.size + 4 ≤ D := by simp at hD; omega
    have hg3 := grownBy_putObj' W D (.deferred none)
    have j0 := (hv.kept hg3 (by simp; omega)).cell
    have j1 := (hp1.kept hg3 (by simp; omega)).cell
    have j2 := (hp2.kept hg3 (by simp; omega)).cell
    simp only [List.getLast?_append, List.getLast?_singleton, Option.some_or, Option.map_some, Option.getD_some] at j1
    refine ⟨by simp, .inl ⟨_, _, rfl, run_takeDeferred hK, ?_⟩⟩
    refine ⟨.tuple #[.slice none 0 0, .int .i64 p, .int .i64 4], by simp [results, Tryz.results45, go_sem, j0, j1, j2], ?_⟩
    exact ⟨_, by rw [hw], by rw [hw]; exact Own.nil_ _ _ _, hB.trans (belowK_b (w := w) (Nat.le_refl _) W D _ _ (by omega) hK rfl rfl)⟩

theorem words_any (s : ByteArray) (w : World) (hs : s.size ≤ maxLen) : Calls Tryz.prog 45 #[.string s] w (WordsPostX s w) := by
  by_cases hl : 4096 < s.size
  · exact words_long s w hs hl
  · exact callsIn_wide.1 (words_short s w (by omega))

end Go.Proofs.YtnfagaccbkeikaaGreatDoor
