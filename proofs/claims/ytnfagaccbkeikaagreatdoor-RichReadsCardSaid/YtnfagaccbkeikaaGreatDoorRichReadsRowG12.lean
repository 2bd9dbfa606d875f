/- RichPlain -/
import Derived.Test.YtnfagaccbkeikaaGreatDoorRichReadsRowG09
import Derived.Test.YtnfagaccbkeikaaGreatDoorRichReadsRowG11
/- Rich dependencies in plain terms: which are whole, their words, and what is read out of words. -/


namespace Go.Proofs.YtnfagaccbkeikaaGreatDoor
open Go.RowKit

inductive RT where
  | mk (k : Int) (d : Dp) (l : List RT)
def RT.kind : RT → Int | .mk k _ _ => k
def RT.dep : RT → Dp | .mk _ d _ => d
def RT.args : RT → List RT | .mk _ _ l => l
def zeroT : Dp := ⟨[], 0, zeroE⟩
def isZeroT (d : Dp) : Bool := d.name.isEmpty && (d.op == 0 && isZero d.evr)
theorem zeroT_iff {d : Dp} : isZeroT d = true ↔ d = zeroT := by
  obtain ⟨n, o, e⟩ := d
  unfold isZeroT zeroT
  simp [List.isEmpty_iff, zero_iff]
mutual
def RT.parts : RT → Nat | .mk _ _ l => 1 + partsL l
def partsL : List RT → Nat | [] => 0 | t :: l => t.parts + partsL l
end
mutual
def RT.deep : RT → Nat | .mk k _ l => if k = 1 then 0 else deepL l + 1
def deepL : List RT → Nat | [] => 0 | t :: l => max t.deep (deepL l)
end
def mostK (k : Int) : Nat := if k = 4 ∨ k = 5 then 3 else if k = 7 then 2 else 24
mutual
def RT.okB : RT → Bool | .mk k d l => if k = 1 then l.isEmpty && dmayB d else decide (2 ≤ k ∧ k ≤ 7) && (isZeroT d && (decide (2 ≤ l.length ∧ l.length ≤ mostK k) && okL l))
def okL : List RT → Bool | [] => true | t :: l => t.okB && okL l
end
def RT.whole (t : RT) : Bool := t.okB && decide (t.parts ≤ 24 ∧ t.deep ≤ 8)
def wAnd : Bytes := [97, 110, 100]
def wOr : Bytes := [111, 114]
def wIf : Bytes := [105, 102]
def wUnless : Bytes := [117, 110, 108, 101, 115, 115]
def wWith : Bytes := [119, 105, 116, 104]
def wWithout : Bytes := [119, 105, 116, 104, 111, 117, 116]
def wElse : Bytes := [101, 108, 115, 101]
def kwd (k : Int) : Bytes := if k = 2 then wAnd else if k = 3 then wOr else if k = 4 then wIf else if k = 5 then wUnless else if k = 6 then wWith else wWithout
def betweenK (k : Int) (i : Nat) : Bytes := if i = 2 ∧ mostK k = 3 then wElse else kwd k
def sepW (k : Int) (i : Nat) : List Bytes := if i = 0 then [] else [betweenK k i]
mutual
def RT.words : RT → List Bytes | .mk k d l => if k = 1 then dwords d else [40] :: (wordsR k 0 l ++ [[41]])
def wordsR (k : Int) : Nat → List RT → List Bytes | _, [] => [] | i, t :: l => sepW k i ++ (t.words ++ wordsR k (i + 1) l)
end
/- reading -/
inductive PR where
  | stop (p : Nat) (e : Int)
  | ok (t : RT) (ws : List Tok) (n : Nat)
def txt (ws : List Tok) : List Bytes := ws.map (·.2)
def atT (ws : List Tok) : Bytes := match ws with | [] => [] | x :: _ => x.2
def atPl (e : Nat) (ws : List Tok) : Nat := match ws with | [] => e | x :: _ => x.1
def isOp (s : Bytes) : Bool := (opOf s).2 && !((opOf s).1 == 0)
def plainN (ws : List Tok) : Nat := if isOp (atT ws.tail) then 3 else 1
def plainP (e : Nat) (ws : List Tok) (n : Nat) : PR :=
  match dpOf (txt (ws.take (plainN ws))) with
  | none => .stop (atPl e ws) 4
  | some d => .ok (.mk 1 d []) (ws.drop (plainN ws)) (n + 1)
def kindOf (w : Bytes) : Int := if w = wAnd then 2 else if w = wOr then 3 else if w = wIf then 4 else if w = wUnless then 5 else if w = wWith then 6 else if w = wWithout then 7 else 0
def moreP (e : Nat) (p : List Tok → Nat → PR) (k : Int) : Nat → List RT → List Tok → Nat → PR
  | 0, _, ws, _ => .stop (atPl e ws) 4
  | f + 1, l, ws, n =>
    match p ws.tail n with
    | .stop q x => .stop q x
    | .ok b ws n =>
      if atT ws = [41] then .ok (.mk k zeroT (l ++ [b])) ws.tail n
      else if mostK k ≤ l.length + 1 ∨ atT ws ≠ betweenK k (l.length + 1) then .stop (atPl e ws) 4
      else moreP e p k f (l ++ [b]) ws n
def bracketP (e : Nat) (p : List Tok → Nat → PR) (ws : List Tok) (n : Nat) : PR :=
  match p ws n with
  | .stop q x => .stop q x
  | .ok a ws n => if kindOf (atT ws) = 0 then .stop (atPl e ws) 4 else moreP e p (kindOf (atT ws)) 25 [a] ws n
def headP (e : Nat) (last : Bool) (ws : List Tok) (n : Nat) : Option PR :=
  if atT ws = [] ∨ atT ws = [41] then some (.stop (atPl e ws) 4)
  else if atT ws = [40] ∧ last = true then some (.stop (atPl e ws) 21)
  else if n = 24 then some (.stop (atPl e ws) 40)
  else none
def partP (e : Nat) : Nat → List Tok → Nat → PR
  | 0, ws, n => match headP e true ws n with | some r => r | none => plainP e ws n
  | d + 1, ws, n => match headP e false ws n with
    | some r => r
    | none => if atT ws = [40] then bracketP e (partP e d) ws.tail (n + 1) else plainP e ws n

/- what is read is whole, and its words stand there -/
theorem okL_app (l r : List RT) : okL (l ++ r) = (okL l && okL r) := by
  induction l with
  | nil => simp [okL]
  | cons a l ih => simp [okL, ih, Bool.and_assoc]
theorem partsL_app (l r : List RT) : partsL (l ++ r) = partsL l + partsL r := by
  induction l with
  | nil => simp [partsL]
  | cons a l ih => simp [partsL, ih, Nat.add_assoc]
theorem deepL_app (l r : List RT) : deepL (l ++ r) = max (deepL l) (deepL r) := by
  induction l with
  | nil => simp [deepL]
  | cons a l ih => simp [deepL, ih, Nat.max_assoc]
theorem deepL_le {l : List RT} {d : Nat} : deepL l ≤ d ↔ ∀ t ∈ l, t.deep ≤ d := by
  induction l with
  | nil => simp [deepL]
  | cons a l ih => simp [deepL, Nat.max_le, ih]
theorem okL_iff {l : List RT} : okL l = true ↔ ∀ t ∈ l, t.okB = true := by
  induction l with
  | nil => simp [okL]
  | cons a l ih => simp [okL, ih]
theorem wordsR_app (k : Int) : ∀ (l r : List RT) (i : Nat), wordsR k i (l ++ r) = wordsR k i l ++ wordsR k (i + l.length) r
  | [], r, i => by simp [wordsR]
  | a :: l, r, i => by simp only [List.cons_append, wordsR, wordsR_app k l r (i + 1), List.append_assoc, List.length_cons]; rw [show i + 1 + l.length = i + (l.length + 1) by omega]
theorem parts_pos (t : RT) : 1 ≤ t.parts := by obtain ⟨k, d, l⟩ := t; unfold RT.parts; omega
theorem partsL_len (l : List RT) : l.length ≤ partsL l := by
  induction l with
  | nil => simp
  | cons a l ih => have := parts_pos a; simp only [partsL, List.length_cons]; omega
theorem kindOf_kwd {w : Bytes} (h : kindOf w ≠ 0) : kwd (kindOf w) = w ∧ 2 ≤ kindOf w ∧ kindOf w ≤ 7 := by
  unfold kindOf at h ⊢
  repeat' split at h
  all_goals first | (exact absurd rfl h) | skip
  all_goals simp_all [kwd]
theorem mostK_two (k : Int) : 2 ≤ mostK k := by unfold mostK; repeat' split
                                                all_goals omega
theorem mostK_le (k : Int) : mostK k ≤ 24 := by unfold mostK; repeat' split
                                                all_goals omega
theorem kwd_ne (k : Int) : kwd k ≠ [] := by unfold kwd; repeat' split
                                            all_goals simp [wAnd, wOr, wIf, wUnless, wWith, wWithout]
theorem between_ne (k : Int) (i : Nat) : betweenK k i ≠ [] := by
  unfold betweenK; split
  · simp [wElse]
  · exact kwd_ne k
theorem txt_at {ws : List Tok} {w : Bytes} (h : atT ws = w) (hw : w ≠ []) : txt ws = w :: txt ws.tail := by
  cases ws with
  | nil => exact absurd h.symm hw
  | cons x l => simp only [atT] at h; simp [txt, h]
def ReadsOk (p : List Tok → Nat → PR) (d : Nat) : Prop := ∀ ws n t r m, n ≤ 24 → p ws n = .ok t r m → t.okB = true ∧ m = n + t.parts ∧ m ≤ 24 ∧ t.deep ≤ d ∧ txt ws = t.words ++ txt r ∧ r <:+ ws
theorem more_ok {e : Nat} {p : List Tok → Nat → PR} {d : Nat} (hp : ReadsOk p d) {k : Int} : ∀ (f : Nat) (l : List RT) (ws : List Tok) (n : Nat) (t : RT) (r : List Tok) (m : Nat), n ≤ 24 → l.length + 1 ≤ mostK k → atT ws = betweenK k l.length → moreP e p k f l ws n = .ok t r m →
    ∃ q, t = .mk k zeroT (l ++ q) ∧ 1 ≤ q.length ∧ (l ++ q).length ≤ mostK k ∧ okL q = true ∧ m = n + partsL q ∧ m ≤ 24 ∧ deepL q ≤ d ∧ (1 ≤ l.length → txt ws = wordsR k l.length q ++ [41] :: txt r) ∧ r <:+ ws
  | 0, l, ws, n, t, r, m, _, _, _, h => by cases h
  | f + 1, l, ws, n, t, r, m, hn, hl, ha, h => by
    unfold moreP at h
    cases hq : p ws.tail n with
    | stop q x => rw [hq] at h; cases h
    | ok b vs n' =>
      rw [hq] at h
      dsimp only at h
      obtain ⟨o1, o2, o3, o4, o5, o6⟩ := hp _ _ _ _ _ hn hq
      have hw := txt_at ha (between_ne k l.length)
      split at h
      · rename_i hc
        cases h
        refine ⟨[b], rfl, by simp, by simpa using hl, by simp [okL, o1], by simp [partsL, o2], o3, by simp [deepL, o4], fun h1 => ?_, (List.tail_suffix vs).trans (o6.trans (List.tail_suffix ws))⟩
        rw [hw, o5, txt_at hc (by simp)]
        simp [wordsR, sepW, show ¬ l.length = 0 by omega]
      · split at h
        · cases h
        · rename_i hc hm
          simp only [not_or, Decidable.not_not, Nat.not_le] at hm
          obtain ⟨q, rfl, q1, q2, q3, q4, q5, q6, q7, q8⟩ := more_ok hp f (l ++ [b]) vs n' t r m o3 (by simp; omega) (by simpa using hm.2) h
          refine ⟨b :: q, by simp, by simp, by simpa using q2, by simp [okL, o1, q3], by simp [partsL]; omega, q5, by simp only [deepL]; exact Nat.max_le.2 ⟨o4, q6⟩, fun h1 => ?_, q8.trans (o6.trans (List.tail_suffix ws))⟩
          rw [hw, o5, q7 (by simp)]
          simp [wordsR, sepW, show ¬ l.length = 0 by omega]
theorem plain_ok {e d : Nat} {ws : List Tok} {n : Nat} (hn : n ≠ 24) (hn2 : n ≤ 24) {t : RT} {r : List Tok} {m : Nat} (h : plainP e ws n = .ok t r m) : t.okB = true ∧ m = n + t.parts ∧ m ≤ 24 ∧ t.deep ≤ d ∧ txt ws = t.words ++ txt r ∧ r <:+ ws := by
  unfold plainP at h
  split at h
  · cases h
  · rename_i x hx
    cases h
    obtain ⟨h1, h2⟩ := words_dpOf hx
    refine ⟨by simp [RT.okB, h1], by simp [RT.parts, partsL], by omega, by simp [RT.deep], ?_, List.drop_suffix _ _⟩
    unfold RT.words
    rw [if_pos rfl, h2]
    unfold txt
    rw [← List.map_append, List.take_append_drop]
theorem head_none {e : Nat} {last : Bool} {ws : List Tok} {n : Nat} (h : headP e last ws n = none) : atT ws ≠ [] ∧ atT ws ≠ [41] ∧ ¬ (atT ws = [40] ∧ last = true) ∧ n ≠ 24 := by
  unfold headP at h
  split at h
  · cases h
  · rename_i h1
    split at h
    · cases h
    · rename_i h2
      split at h
      · cases h
      · rename_i h3
        exact ⟨fun e => h1 (.inl e), fun e => h1 (.inr e), h2, h3⟩
theorem head_some {e : Nat} {last : Bool} {ws : List Tok} {n : Nat} {r : PR} (h : headP e last ws n = some r) : ∃ x, r = .stop (atPl e ws) x ∧ (x = 4 ∨ x = 21 ∨ x = 40) := by
  unfold headP at h
  repeat' split at h
  all_goals cases h
  all_goals exact ⟨_, rfl, by simp⟩
theorem part_ok (e : Nat) : ∀ d, ReadsOk (partP e d) d
  | 0 => fun ws n t r m hn h => by
    unfold partP at h
    split at h
    · rename_i x hx; obtain ⟨y, rfl, _⟩ := head_some hx; cases h
    · rename_i hx; exact plain_ok (head_none hx).2.2.2 hn h
  | d + 1 => fun ws n t r m hn h => by
    unfold partP at h
    split at h
    · rename_i x hx; obtain ⟨y, rfl, _⟩ := head_some hx; cases h
    · rename_i hx
      obtain ⟨g1, g2, g3, g4⟩ := head_none hx
      split at h
      · rename_i hb
        have hw := txt_at hb (by simp)
        unfold bracketP at h
        cases hq : partP e d ws.tail (n + 1) with
        | stop q x => rw [hq] at h; cases h
        | ok a vs n' =>
          rw [hq] at h
          dsimp only at h
          obtain ⟨o1, o2, o3, o4, o5, o6⟩ := part_ok e d _ _ _ _ _ (by omega) hq
          split at h
          · cases h
          · rename_i hk
            obtain ⟨k1, k2, k3⟩ := kindOf_kwd hk
            obtain ⟨q, rfl, q1, q2, q3, q4, q5, q6, q7, q8⟩ := more_ok (part_ok e d) 25 [a] vs n' t r m o3 (by have := mostK_two (kindOf (atT vs)); simpa using this) (by rw [show betweenK (kindOf (atT vs)) [a].length = kwd (kindOf (atT vs)) by simp [betweenK], k1]) h
            have hk1 : ¬ kindOf (atT vs) = 1 := by omega
            refine ⟨?_, ?_, q5, ?_, ?_, q8.trans (o6.trans (List.tail_suffix ws))⟩
            · simp only [RT.okB, if_neg hk1, Bool.and_eq_true, decide_eq_true_eq]
              refine ⟨⟨k2, k3⟩, zeroT_iff.2 rfl, ⟨by simp; omega, q2⟩, ?_⟩
              rw [okL_app]; simp [okL, o1, q3]
            · simp only [RT.parts, partsL_app, partsL]; omega
            · simp only [RT.deep, if_neg hk1, deepL_app, deepL]; omega
            · rw [hw, o5, q7 (by simp)]
              simp only [RT.words, if_neg hk1, wordsR_app, wordsR, sepW, List.length_singleton]
              simp
      · exact plain_ok g4 hn h
/- what is refused, and where -/
theorem atPl_in (e : Nat) (ws : List Tok) : atPl e ws = e ∨ ∃ y ∈ ws, atPl e ws = y.1 := by
  cases ws with
  | nil => exact .inl rfl
  | cons x l => exact .inr ⟨x, by simp, rfl⟩
theorem plain_stop {e : Nat} {ws : List Tok} {n q : Nat} {x : Int} (h : plainP e ws n = .stop q x) : (q = e ∨ ∃ y ∈ ws, q = y.1) ∧ (x = 4 ∨ x = 21 ∨ x = 40) := by
  unfold plainP at h
  split at h
  · cases h; exact ⟨atPl_in e ws, .inl rfl⟩
  · cases h
theorem part_stop (e : Nat) : ∀ (d : Nat) (ws : List Tok) (n q : Nat) (x : Int), n ≤ 24 → partP e d ws n = .stop q x → (q = e ∨ ∃ y ∈ ws, q = y.1) ∧ (x = 4 ∨ x = 21 ∨ x = 40)
  | 0, ws, n, q, x, hn, h => by
    unfold partP at h
    split at h
    · rename_i x' hx; obtain ⟨y, rfl, hy⟩ := head_some hx; cases h; exact ⟨atPl_in e ws, hy⟩
    · exact plain_stop h
  | d + 1, ws, n, q, x, hn, h => by
    unfold partP at h
    split at h
    · rename_i x' hx; obtain ⟨y, rfl, hy⟩ := head_some hx; cases h; exact ⟨atPl_in e ws, hy⟩
    · rename_i hx
      obtain ⟨g1, g2, g3, g4⟩ := head_none hx
      split at h
      · unfold bracketP at h
        cases hq : partP e d ws.tail (n + 1) with
        | stop q' x' =>
          rw [hq] at h
          cases h
          obtain ⟨h1, h2⟩ := part_stop e d _ _ _ _ (by omega) hq
          exact ⟨h1.imp id fun ⟨y, hy, e⟩ => ⟨y, List.mem_of_mem_tail hy, e⟩, h2⟩
        | ok a vs n' =>
          rw [hq] at h
          dsimp only at h
          obtain ⟨o1, o2, o3, o4, o5, o6⟩ := part_ok e d _ _ _ _ _ (by omega) hq
          have hsub := o6.trans (List.tail_suffix ws)
          split at h
          · cases h
            exact ⟨(atPl_in e vs).imp id fun ⟨y, hy, e⟩ => ⟨y, hsub.subset hy, e⟩, .inl rfl⟩
          · obtain ⟨h1, h2⟩ := more_stop_le e d (kindOf (atT vs)) 25 [a] vs n' q x o3 h
            exact ⟨h1.imp id fun ⟨y, hy, e⟩ => ⟨y, hsub.subset hy, e⟩, h2⟩
      · exact plain_stop h
where
  more_stop_le (e d : Nat) (k : Int) : ∀ (f : Nat) (l : List RT) (ws : List Tok) (n : Nat) (q : Nat) (x : Int), n ≤ 24 → moreP e (partP e d) k f l ws n = .stop q x → (q = e ∨ ∃ y ∈ ws, q = y.1) ∧ (x = 4 ∨ x = 21 ∨ x = 40)
  | 0, l, ws, n, q, x, _, h => by cases h; exact ⟨atPl_in e ws, .inl rfl⟩
  | f + 1, l, ws, n, q, x, hn, h => by
    unfold moreP at h
    cases hq : partP e d ws.tail n with
    | stop q' x' =>
      rw [hq] at h
      cases h
      obtain ⟨h1, h2⟩ := part_stop e d _ _ _ _ hn hq
      exact ⟨h1.imp id fun ⟨y, hy, e⟩ => ⟨y, List.mem_of_mem_tail hy, e⟩, h2⟩
    | ok b vs n' =>
      rw [hq] at h
      dsimp only at h
      obtain ⟨o1, o2, o3, o4, o5, o6⟩ := part_ok e d _ _ _ _ _ hn hq
      have hsub := o6.trans (List.tail_suffix ws)
      split at h
      · cases h
      · split at h
        · cases h
          exact ⟨(atPl_in e vs).imp id fun ⟨y, hy, e⟩ => ⟨y, hsub.subset hy, e⟩, .inl rfl⟩
        · obtain ⟨h1, h2⟩ := more_stop_le e d k f _ vs n' q x o3 h
          exact ⟨h1.imp id fun ⟨y, hy, e⟩ => ⟨y, hsub.subset hy, e⟩, h2⟩
/- words that are whole are read -/
theorem txt_tail {ws : List Tok} {a : Bytes} {l : List Bytes} (h : txt ws = a :: l) : atT ws = a ∧ txt ws.tail = l ∧ ws ≠ [] := by
  cases ws with
  | nil => cases h
  | cons x r => simp only [txt, List.map_cons, List.cons.injEq] at h; exact ⟨h.1, h.2, by simp⟩
theorem txt_nil {ws : List Tok} (h : txt ws = []) : ws = [] := by simpa [txt] using h
theorem atT_eq (ws : List Tok) : atT ws = (txt ws).headD [] := by cases ws <;> rfl
theorem isOp_kwd (k : Int) : isOp (kwd k) = false := by
  unfold kwd; repeat' split
  all_goals decide
theorem isOp_between (k : Int) (i : Nat) : isOp (betweenK k i) = false := by
  unfold betweenK; split
  · decide
  · exact isOp_kwd k
theorem isOp_opText {n : Int} (h : opMay n = true) (h0 : n ≠ 0) : isOp (opText n) = true := by
  unfold isOp; rw [opOf_text h h0]; simpa using h0
theorem kindOf_word {k : Int} (h1 : 2 ≤ k) (h2 : k ≤ 7) : kindOf (kwd k) = k := by
  obtain rfl | rfl | rfl | rfl | rfl | rfl : k = 2 ∨ k = 3 ∨ k = 4 ∨ k = 5 ∨ k = 6 ∨ k = 7 := by omega
  all_goals decide
theorem between_close (k : Int) (i : Nat) : betweenK k i ≠ [41] := by
  unfold betweenK kwd; repeat' split
  all_goals decide
def Finds (p : List Tok → Nat → PR) (t : RT) : Prop := ∀ ws n rest, txt ws = t.words ++ rest → isOp (rest.headD []) = false → n + t.parts ≤ 24 → ∃ r, txt r = rest ∧ p ws n = .ok t r (n + t.parts)
theorem more_find {e : Nat} {p : List Tok → Nat → PR} {k : Int} : ∀ (q : List RT) (b : RT) (f : Nat) (l : List RT) (ws : List Tok) (n : Nat) (rest : List Bytes), (∀ t ∈ b :: q, Finds p t) → txt ws.tail = b.words ++ (wordsR k (l.length + 1) q ++ [41] :: rest) → l.length + 1 + q.length ≤ mostK k → q.length < f → n + partsL (b :: q) ≤ 24 →
    ∃ r, txt r = rest ∧ moreP e p k f l ws n = .ok (.mk k zeroT (l ++ b :: q)) r (n + partsL (b :: q))
  | q, b, 0, l, ws, n, rest, _, _, _, hf, _ => absurd hf (by omega)
  | [], b, f + 1, l, ws, n, rest, hp, hw, hl, hf, hn => by
    simp only [partsL] at hn
    obtain ⟨r, hr, hq⟩ := hp b (by simp) ws.tail n ([41] :: rest) (by simpa [wordsR] using hw) (show isOp [41] = false from by decide) (by omega)
    obtain ⟨a1, a2, a3⟩ := txt_tail hr
    refine ⟨r.tail, a2, ?_⟩
    unfold moreP
    rw [hq]
    dsimp only
    rw [if_pos a1]
    simp [partsL]
  | c :: q, b, f + 1, l, ws, n, rest, hp, hw, hl, hf, hn => by
    simp only [partsL] at hn
    have hc := parts_pos c
    simp only [wordsR, sepW, show ¬ l.length + 1 = 0 by omega, if_false, List.cons_append, List.append_assoc] at hw
    obtain ⟨r, hr, hq⟩ := hp b (by simp) ws.tail n _ hw (isOp_between k _) (by omega)
    obtain ⟨a1, a2, a3⟩ := txt_tail hr
    obtain ⟨r2, h1, h2⟩ := more_find q c f (l ++ [b]) r (n + b.parts) rest (fun t ht => hp t (by simp [List.mem_cons.1 ht])) (by simpa using a2) (by simp at hl ⊢; omega) (by simp at hf; omega) (by simp only [partsL]; omega)
    refine ⟨r2, h1, ?_⟩
    unfold moreP
    rw [hq]
    dsimp only
    rw [if_neg (by rw [a1]; exact between_close k _), if_neg (by rw [a1]; simp at hl ⊢; omega), h2]
    simp [partsL, Nat.add_assoc]
theorem name_head {d : Dp} (h : dmayB d = true) : d.name ≠ [] ∧ d.name ≠ [41] ∧ d.name ≠ [40] := by
  have hn := (dmay_iff.1 h).1
  refine ⟨fun e => ?_, fun e => ?_, fun e => ?_⟩
  all_goals rw [e] at hn; revert hn; decide
theorem dwords_cons (d : Dp) : ∃ l, dwords d = d.name :: l := by unfold dwords; split <;> exact ⟨_, rfl⟩
theorem plain_find {e : Nat} {d : Dp} (h : dmayB d = true) : Finds (plainP e) (.mk 1 d []) := fun ws n rest hw hr hn => by
  have hwd : (RT.mk 1 d []).words = dwords d := by simp [RT.words]
  rw [hwd] at hw
  have hpp : (RT.mk 1 d []).parts = 1 := by simp [RT.parts, partsL]
  have hN : plainN ws = (dwords d).length ∧ txt (ws.take (dwords d).length) = dwords d ∧ txt (ws.drop (dwords d).length) = rest := by
    refine ⟨?_, by unfold txt at hw ⊢; rw [List.map_take, hw, List.take_left], by unfold txt at hw ⊢; rw [List.map_drop, hw, List.drop_left]⟩
    unfold plainN
    by_cases h0 : d.op = 0
    · have hd : dwords d = [d.name] := by unfold dwords; rw [if_pos h0]
      rw [hd] at hw ⊢
      simp only [List.cons_append, List.nil_append] at hw
      obtain ⟨a1, a2, a3⟩ := txt_tail hw
      rw [atT_eq, a2, hr]
      rfl
    · have hd : dwords d = [d.name, opText d.op, showL d.evr] := by unfold dwords; rw [if_neg h0]
      rw [hd] at hw ⊢
      simp only [List.cons_append, List.nil_append] at hw
      obtain ⟨a1, a2, a3⟩ := txt_tail hw
      rw [atT_eq, a2]
      exact if_pos (isOp_opText (dmay_iff.1 h).2.1 h0)
  refine ⟨_, hN.2.2, ?_⟩
  unfold plainP
  rw [hN.1, hN.2.1, dpOf_words h, hpp]
theorem part_find (e : Nat) : ∀ (d : Nat) (t : RT), t.okB = true → t.deep ≤ d → Finds (partP e d) t
  | 0, .mk k dp l, ho, hd => fun ws n rest hw hr hn => by
    have hk : k = 1 := by
      by_cases hk : k = 1
      · exact hk
      · simp [RT.deep, hk] at hd
    subst hk
    simp only [RT.okB, if_true, Bool.and_eq_true, List.isEmpty_iff] at ho
    obtain ⟨rfl, hm⟩ := ho
    obtain ⟨r, h1, h2⟩ := plain_find (e := e) hm ws n rest hw hr hn
    refine ⟨r, h1, ?_⟩
    obtain ⟨l0, hl0⟩ := dwords_cons dp
    have hat : atT ws = dp.name := by rw [atT_eq, hw]; simp [RT.words, hl0]
    obtain ⟨n1, n2, n3⟩ := name_head hm
    have hp1 := parts_pos (.mk 1 dp [])
    unfold partP
    have hh : headP e true ws n = none := by
      unfold headP
      rw [hat, if_neg (by simp [n1, n2]), if_neg (by simp [n3]), if_neg (by omega)]
    rw [hh]
    exact h2
  | d + 1, .mk k dp l, ho, hd => fun ws n rest hw hr hn => by
    have hp1 := parts_pos (.mk k dp l)
    by_cases hk : k = 1
    · subst hk
      simp only [RT.okB, if_true, Bool.and_eq_true, List.isEmpty_iff] at ho
      obtain ⟨rfl, hm⟩ := ho
      obtain ⟨r, h1, h2⟩ := plain_find (e := e) hm ws n rest hw hr hn
      refine ⟨r, h1, ?_⟩
      obtain ⟨l0, hl0⟩ := dwords_cons dp
      have hat : atT ws = dp.name := by rw [atT_eq, hw]; simp [RT.words, hl0]
      obtain ⟨n1, n2, n3⟩ := name_head hm
      unfold partP
      have hh : headP e false ws n = none := by
        unfold headP
        rw [hat, if_neg (by simp [n1, n2]), if_neg (by simp [n3]), if_neg (by omega)]
      rw [hh]
      dsimp only
      rw [if_neg (by rw [hat]; exact n3)]
      exact h2
    · simp only [RT.okB, if_neg hk, Bool.and_eq_true, decide_eq_true_eq] at ho
      obtain ⟨⟨k2, k7⟩, hz, ⟨l2, lm⟩, hl⟩ := ho
      obtain rfl := zeroT_iff.1 hz
      obtain ⟨a, b, q, rfl⟩ : ∃ a b q, l = a :: b :: q := by
        cases l with
        | nil => simp at l2
        | cons a l => cases l with
          | nil => simp at l2
          | cons b q => exact ⟨a, b, q, rfl⟩
      simp only [RT.deep, if_neg hk] at hd
      have hdl := deepL_le.1 (show deepL (a :: b :: q) ≤ d by omega)
      have hol := okL_iff.1 hl
      have IH : ∀ t ∈ a :: b :: q, Finds (partP e d) t := fun t ht => part_find e d t (hol t ht) (hdl t ht)
      simp only [RT.parts, partsL] at hn
      have c1 := parts_pos a
      have c2 := parts_pos b
      simp only [RT.words, if_neg hk, wordsR, sepW, if_true, List.nil_append, List.cons_append, List.append_assoc, show ¬ 0 + 1 = 0 by omega, if_false] at hw
      obtain ⟨w1, w2, w3⟩ := txt_tail hw
      have hb1 : betweenK k (0 + 1) = kwd k := by simp [betweenK]
      obtain ⟨r1, hr1, hq1⟩ := IH a (by simp) ws.tail (n + 1) _ w2 (isOp_between k _) (by omega)
      obtain ⟨u1, u2, u3⟩ := txt_tail hr1
      rw [hb1] at u1
      obtain ⟨r2, hr2, hq2⟩ := more_find (e := e) (p := partP e d) (k := k) q b 25 [a] r1 (n + 1 + a.parts) rest (fun t ht => IH t (by simp [List.mem_cons.1 ht])) (by simpa using u2) (by simp at lm ⊢; omega) (by have := partsL_len q; omega) (by simp only [partsL]; omega)
      refine ⟨r2, hr2, ?_⟩
      unfold partP
      have hh : headP e false ws n = none := by
        unfold headP
        rw [w1, if_neg (by decide), if_neg (by simp), if_neg (by omega)]
      rw [hh]
      dsimp only
      rw [if_pos w1]
      unfold bracketP
      rw [hq1]
      dsimp only
      rw [u1, kindOf_word k2 k7, if_neg (by omega), hq2]
      simp only [RT.parts, partsL, List.singleton_append]
      congr 1
      omega
/- the rich dependency of a text -/
def parseT (e : Nat) (ws : List Tok) : Option RT × Nat × Int :=
  match partP e 8 ws 0 with
  | .stop q x => (none, q, x)
  | .ok t r _ => match r with | [] => (some t, 0, 0) | y :: _ => (none, y.1, 4)
theorem parse_iff {e : Nat} {ws : List Tok} {t : RT} : (parseT e ws).1 = some t ↔ t.whole = true ∧ txt ws = t.words := by
  unfold RT.whole
  rw [Bool.and_eq_true, decide_eq_true_eq]
  constructor
  · intro h
    unfold parseT at h
    split at h
    · cases h
    · rename_i t' r m hq
      split at h
      · cases h
        obtain ⟨o1, o2, o3, o4, o5, o6⟩ := part_ok e 8 _ _ _ _ _ (by omega) hq
        exact ⟨⟨o1, by omega, o4⟩, by simpa [txt] using o5⟩
      · cases h
  · rintro ⟨⟨h1, h2, h3⟩, hw⟩
    obtain ⟨r, hr, hq⟩ := part_find e 8 t h1 h3 ws 0 [] (by simpa using hw) (by decide) (by omega)
    obtain rfl := txt_nil hr
    unfold parseT
    rw [hq]
theorem parse_some {e : Nat} {ws : List Tok} {t : RT} (h : (parseT e ws).1 = some t) : parseT e ws = (some t, 0, 0) := by
  unfold parseT at h ⊢
  split at h
  · cases h
  · split at h
    · cases h; rfl
    · cases h
end Go.Proofs.YtnfagaccbkeikaaGreatDoor
