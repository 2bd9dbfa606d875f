/- RlPlain, RichPlain, RlIter, RlWords -/
import Derived.Test.YtibeipmcggbbgaaGreatDoorStepsThereRowG01
import Derived.Test.YtibeipmcggbbgaaGreatDoorStepsThereRowG06
import Derived.RangeFuncNested
import Derived.RangeFuncBound
import Derived.RangeFuncCalls
import Derived.RangeFuncLeaves
import Derived.RangeFuncBox
import Derived.Shelf.Abstract
import Derived.Shelf.RegionOpen
import Derived.OwnWalkIn
import Derived.TacticsInMore
import Derived.LoopNIn
import Derived.LoopIn
set_option linter.unusedSimpArgs false
set_option linter.unusedVariables false
namespace Go.Proofs.YtibeipmcggbbgaaGreatDoor
section
/- The words of a text, in plain terms: brackets by themselves, longest runs of other bytes, spaces between. Nothing of the program here. -/


open Go.RowKit

def brB (n : Int) : Bool := n == 40 || n == 41
def innB (n : Int) : Bool := decide (32 < n) && (decide (n ≤ 126) && !brB n)
def inn (c : UInt8) : Bool := innB c.toNat
def brk (c : UInt8) : Bool := brB c.toNat
def spc (c : UInt8) : Bool := c == 32
/-- a byte that may not stand in a text -/
def wrong (c : UInt8) : Bool := !(inn c || brk c || spc c)
abbrev Tok := Nat × Bytes

def flushT : Option Tok → List Tok
  | none => []
  | some t => [t]
/-- The words from the place p on, a word being begun or not; at a wrong byte a word without text ends the row. -/
def toks : Nat → Option Tok → Bytes → List Tok
  | _, cur, [] => flushT cur
  | p, none, c :: r => if inn c then toks (p + 1) (some (p, [c])) r
      else if spc c then toks (p + 1) none r else if brk c then (p, [c]) :: toks (p + 1) none r else [(p, [])]
  | p, some (q, t), c :: r => if inn c then toks (p + 1) (some (q, t ++ [c])) r
      else (q, t) :: (if spc c then toks (p + 1) none r else if brk c then (p, [c]) :: toks (p + 1) none r else [(p, [])])

theorem toks_some (p q : Nat) (t l : Bytes) : toks p (some (q, t)) l = (q, t ++ l.takeWhile inn) :: toks (p + (l.takeWhile inn).length) none (l.dropWhile inn) := by
  induction l generalizing p t with
  | nil => simp [toks, flushT]
  | cons c r ih =>
    by_cases h : inn c = true
    · simp only [toks, h, if_true, List.takeWhile_cons, List.dropWhile_cons, List.length_cons]
      rw [ih]
      simp [List.append_assoc, Nat.add_assoc, Nat.add_comm 1]
    · simp only [Bool.not_eq_true] at h
      simp [toks, h]
theorem toks_spc {p : Nat} {c : UInt8} {r : Bytes} (h : spc c = true) : toks p none (c :: r) = toks (p + 1) none r := by
  have hi : inn c = false := by
    simp only [spc, beq_iff_eq] at h
    subst h; decide
  rw [toks, if_neg (by simp [hi]), if_pos h]
theorem spc_brk {c : UInt8} (h : brk c = true) : spc c = false := by
  cases hc : spc c with
  | false => rfl
  | true =>
    simp only [spc, beq_iff_eq] at hc
    subst hc
    revert h; decide
theorem spc_inn {c : UInt8} (h : inn c = true) : spc c = false := by
  cases hc : spc c with
  | false => rfl
  | true =>
    simp only [spc, beq_iff_eq] at hc
    subst hc
    revert h; decide
theorem brk_inn {c : UInt8} (h : inn c = true) : brk c = false := by
  unfold inn innB at h; unfold brk
  simp only [Bool.and_eq_true, Bool.not_eq_true'] at h
  exact h.2.2
theorem toks_brk {p : Nat} {c : UInt8} {r : Bytes} (h : brk c = true) : toks p none (c :: r) = (p, [c]) :: toks (p + 1) none r := by
  have hi : inn c = false := by
    unfold inn innB; unfold brk at h; simp [h]
  have hs : spc c = false := spc_brk h
  rw [toks, if_neg (by simp [hi]), if_neg (by simp [hs]), if_pos h]
/-- the first wrong byte's place -/
def badAt (l : Bytes) : Option Nat := l.findIdx? wrong
theorem toks_len (l : Bytes) : ∀ (p : Nat) (cur : Option Tok), (toks p cur l).length ≤ l.length + (flushT cur).length := by
  induction l with
  | nil => intro p cur; simp [toks]
  | cons c r ih =>
    intro p cur
    have h0 := ih (p + 1) none
    cases cur with
    | none =>
      have h1 := ih (p + 1) (some (p, [c]))
      simp only [toks, flushT, List.length_nil, List.length_cons] at *
      split
      · omega
      · split
        · omega
        · split <;> simp only [List.length_cons, List.length_nil] <;> omega
    | some t =>
      obtain ⟨q, t⟩ := t
      have h1 := ih (p + 1) (some (q, t ++ [c]))
      simp only [toks, flushT, List.length_nil, List.length_cons] at *
      split
      · omega
      · simp only [List.length_cons]
        split
        · omega
        · split <;> simp only [List.length_cons, List.length_nil] <;> omega
/-- What lex.Words hands back: words, a place, an error's number. -/
def wordsS (l : Bytes) : List Tok × Nat × Int :=
  if 4096 < l.length then ([], 0, 40)
  else match badAt l with
    | some i => ([], i, 4)
    | none => (toks 0 none l, 0, 0)
end
section
/- Rich dependencies in plain terms: which are whole, their words, and what is read out of words. -/



open Go.RowKit

inductive RT where
  | mk (k : Int) (d : Dp) (l : List RT)
def RT.kind : RT → Int | .mk k _ _ => k
def RT.dep : RT → Dp | .mk _ d _ => d
def RT.args : RT → List RT | .mk _ _ l => l
def zeroT : Dp := ⟨[], 0, zeroE⟩
def isZeroT (d : Dp) : Bool := d.name.isEmpty && (d.op == 0 && isZero d.evr)
mutual
def RT.parts : RT → Nat | .mk _ _ l => 1 + partsL l
def partsL : List RT → Nat | [] => 0 | t :: l => t.parts + partsL l
end
mutual
def RT.deep : RT → Nat | .mk k _ l => if k = 1 then 0 else deepL l + 1
def deepL : List RT → Nat | [] => 0 | t :: l => max t.deep (deepL l)
end
def mostK (k : Int) : Nat := if k = 4 ∨ k = 5 then 3 else if k = 7 then 2 else 24
mutual
def RT.okB : RT → Bool | .mk k d l => if k = 1 then l.isEmpty && dmayB d else decide (2 ≤ k ∧ k ≤ 7) && (isZeroT d && (decide (2 ≤ l.length ∧ l.length ≤ mostK k) && okL l))
def okL : List RT → Bool | [] => true | t :: l => t.okB && okL l
end
def RT.whole (t : RT) : Bool := t.okB && decide (t.parts ≤ 24 ∧ t.deep ≤ 8)
def wAnd : Bytes := [97, 110, 100]
def wOr : Bytes := [111, 114]
def wIf : Bytes := [105, 102]
def wUnless : Bytes := [117, 110, 108, 101, 115, 115]
def wWith : Bytes := [119, 105, 116, 104]
def wWithout : Bytes := [119, 105, 116, 104, 111, 117, 116]
def wElse : Bytes := [101, 108, 115, 101]
def kwd (k : Int) : Bytes := if k = 2 then wAnd else if k = 3 then wOr else if k = 4 then wIf else if k = 5 then wUnless else if k = 6 then wWith else wWithout
def betweenK (k : Int) (i : Nat) : Bytes := if i = 2 ∧ mostK k = 3 then wElse else kwd k
def sepW (k : Int) (i : Nat) : List Bytes := if i = 0 then [] else [betweenK k i]
mutual
def RT.words : RT → List Bytes | .mk k d l => if k = 1 then dwords d else [40] :: (wordsR k 0 l ++ [[41]])
def wordsR (k : Int) : Nat → List RT → List Bytes | _, [] => [] | i, t :: l => sepW k i ++ (t.words ++ wordsR k (i + 1) l)
end
/- reading -/
inductive PR where
  | stop (p : Nat) (e : Int)
  | ok (t : RT) (ws : List Tok) (n : Nat)
def txt (ws : List Tok) : List Bytes := ws.map (·.2)
def atT (ws : List Tok) : Bytes := match ws with | [] => [] | x :: _ => x.2
def atPl (e : Nat) (ws : List Tok) : Nat := match ws with | [] => e | x :: _ => x.1
def isOp (s : Bytes) : Bool := (opOf s).2 && !((opOf s).1 == 0)
def plainN (ws : List Tok) : Nat := if isOp (atT ws.tail) then 3 else 1
def plainP (e : Nat) (ws : List Tok) (n : Nat) : PR :=
  match dpOf (txt (ws.take (plainN ws))) with
  | none => .stop (atPl e ws) 4
  | some d => .ok (.mk 1 d []) (ws.drop (plainN ws)) (n + 1)
def kindOf (w : Bytes) : Int := if w = wAnd then 2 else if w = wOr then 3 else if w = wIf then 4 else if w = wUnless then 5 else if w = wWith then 6 else if w = wWithout then 7 else 0
def moreP (e : Nat) (p : List Tok → Nat → PR) (k : Int) : Nat → List RT → List Tok → Nat → PR
  | 0, _, ws, _ => .stop (atPl e ws) 4
  | f + 1, l, ws, n =>
    match p ws.tail n with
    | .stop q x => .stop q x
    | .ok b ws n =>
      if atT ws = [41] then .ok (.mk k zeroT (l ++ [b])) ws.tail n
      else if mostK k ≤ l.length + 1 ∨ atT ws ≠ betweenK k (l.length + 1) then .stop (atPl e ws) 4
      else moreP e p k f (l ++ [b]) ws n
def bracketP (e : Nat) (p : List Tok → Nat → PR) (ws : List Tok) (n : Nat) : PR :=
  match p ws n with
  | .stop q x => .stop q x
  | .ok a ws n => if kindOf (atT ws) = 0 then .stop (atPl e ws) 4 else moreP e p (kindOf (atT ws)) 25 [a] ws n
def headP (e : Nat) (last : Bool) (ws : List Tok) (n : Nat) : Option PR :=
  if atT ws = [] ∨ atT ws = [41] then some (.stop (atPl e ws) 4)
  else if atT ws = [40] ∧ last = true then some (.stop (atPl e ws) 21)
  else if n = 24 then some (.stop (atPl e ws) 40)
  else none
def partP (e : Nat) : Nat → List Tok → Nat → PR
  | 0, ws, n => match headP e true ws n with | some r => r | none => plainP e ws n
  | d + 1, ws, n => match headP e false ws n with
    | some r => r
    | none => if atT ws = [40] then bracketP e (partP e d) ws.tail (n + 1) else plainP e ws n

/- what is read is whole, and its words stand there -/
theorem partsL_app (l r : List RT) : partsL (l ++ r) = partsL l + partsL r := by
  induction l with
  | nil => simp [partsL]
  | cons a l ih => simp [partsL, ih, Nat.add_assoc]
theorem deepL_app (l r : List RT) : deepL (l ++ r) = max (deepL l) (deepL r) := by
  induction l with
  | nil => simp [deepL]
  | cons a l ih => simp [deepL, ih, Nat.max_assoc]
theorem parts_pos (t : RT) : 1 ≤ t.parts := by obtain ⟨k, d, l⟩ := t; unfold RT.parts; omega
theorem partsL_len (l : List RT) : l.length ≤ partsL l := by
  induction l with
  | nil => simp
  | cons a l ih => have := parts_pos a; simp only [partsL, List.length_cons]; omega
/- what is refused, and where -/
/- words that are whole are read -/
/- the rich dependency of a text -/
def parseT (e : Nat) (ws : List Tok) : Option RT × Nat × Int :=
  match partP e 8 ws 0 with
  | .stop q x => (none, q, x)
  | .ok t r _ => match r with | [] => (some t, 0, 0) | y :: _ => (none, y.1, 4)
end
section
/- Walks: the iterator of lex: what it tells its loop, one behind the other. -/













open Go.RowKit Go.Shelf
attribute [local go_sem] Oper.semAt_some


/-- behind the word's first byte at k the next m bytes are of it, and what is of it behind these is of it all -/
def UptoX (s : ByteArray) (k m : Nat) : Prop := (s.toList.drop (k + 1)).takeWhile inn = (s.toList.drop (k + 1)).take m ++ (s.toList.drop (k + 1 + m)).takeWhile inn
def DoneX (s : ByteArray) (k m : Nat) : Prop := (s.toList.drop (k + 1)).takeWhile inn = (s.toList.drop (k + 1)).take m
theorem UptoX.next {s : ByteArray} {k m : Nat} (h : UptoX s k m) (hlt : k + 1 + m < s.size) : (innB s[k + 1 + m].toNat = true → UptoX s k (m + 1)) ∧ (innB s[k + 1 + m].toNat = false → DoneX s k m) := by
  unfold UptoX at h
  rw [toList_drop s (k + 1 + m) hlt] at h
  constructor
  · intro g
    have g2 : inn s[k + 1 + m] = true := g
    unfold UptoX
    rw [List.takeWhile_cons_of_pos g2] at h
    rw [h, take_snoc _ m (by rw [List.length_drop, size_toList]; omega)]
    rw [List.getElem_drop, toList_get s (k + 1 + m) hlt, List.append_assoc, List.singleton_append]; rfl
  · intro g
    have g2 : ¬ inn s[k + 1 + m] = true := by unfold inn; simp [g]
    rw [List.takeWhile_cons_of_neg g2, List.append_nil] at h
    exact h
theorem UptoX.last {s : ByteArray} {k m : Nat} (h : UptoX s k m) (hm : k + 1 + m = s.size) : DoneX s k m := by
  unfold UptoX at h
  rw [List.drop_of_length_le (i := k + 1 + m) (by rw [size_toList]; omega)] at h
  simpa [DoneX] using h
theorem DoneX.cut {s : ByteArray} {k m : Nat} (h : DoneX s k m) (hlt : k < s.size) : s.extract k (k + 1 + m) = bs (s[k] :: (s.toList.drop (k + 1)).takeWhile inn) := by
  rw [bs_extract, h, toList_drop s k hlt]
  rw [show k + 1 + m - k = m + 1 from by omega, List.take_succ_cons]
theorem DoneX.len {s : ByteArray} {k m : Nat} (h : DoneX s k m) (hm : k + 1 + m ≤ s.size) : ((s.toList.drop (k + 1)).takeWhile inn).length = m := by
  rw [h, List.length_take, List.length_drop, size_toList]; omega
theorem DoneX.rest {s : ByteArray} {k m : Nat} (h : DoneX s k m) (hm : k + 1 + m ≤ s.size) : (s.toList.drop (k + 1)).dropWhile inn = s.toList.drop (k + 1 + m) := by
  have h1 := List.takeWhile_append_dropWhile (p := inn) (l := s.toList.drop (k + 1))
  have h2 : (s.toList.drop (k + 1)).dropWhile inn = (s.toList.drop (k + 1)).drop ((s.toList.drop (k + 1)).takeWhile inn).length := by
    have h3 : ∀ (a b c : Bytes), a ++ b = c → b = c.drop a.length := by
      intro a b c e
      rw [← e, List.drop_left]
    exact h3 _ _ _ h1
  rw [h2, h.len hm, List.drop_drop]
end
section
/- Walks: lex.Words: the words of any text, or what is wrong where. -/


open Go.RowKit Go.Shelf
attribute [local go_sem] Oper.semAt_some

def encTok (x : Tok) : List Value := [.string (bs x.2), .int .i64 (x.1 : Int)]
end
end Go.Proofs.YtibeipmcggbbgaaGreatDoor
