/- DepPlain -/
import Derived.Test.YtnfagaccbkeikaaGreatDoorRichReadsRowG07
import Derived.Test.YtnfagaccbkeikaaGreatDoorRichReadsRowG08
import Derived.Lib.Split
import Derived.Lib.SplitLaws
import Derived.Lib.Join
/- Plain dependencies as texts, in plain terms: names, words, what stands between spaces; the dependency of words, of a text. -/





namespace Go.Proofs.YtnfagaccbkeikaaGreatDoor
open Go.RowKit

def sgnI (n : Int) : Bool := decide ((97 ≤ n ∧ n ≤ 122) ∨ (65 ≤ n ∧ n ≤ 90) ∨ (48 ≤ n ∧ n ≤ 57) ∨ n = 46 ∨ n = 95 ∨ n = 43 ∨ n = 45 ∨ n = 47 ∨ n = 58 ∨ n = 64 ∨ n = 126 ∨ n = 94)
def sgn (c : UInt8) : Bool := sgnI (c.toNat : Int)
def noNames : List Bytes := [[97, 110, 100], [111, 114], [105, 102], [101, 108, 115, 101], [117, 110, 108, 101, 115, 115], [119, 105, 116, 104], [119, 105, 116, 104, 111, 117, 116]]
def nameB (l : Bytes) : Bool := decide (1 ≤ l.length) && (decide (l.length ≤ 64) && (l.all sgn && !noNames.contains l))
def fileB (l : Bytes) : Bool := nameB l && (l.head? == some 47)
def isZero (e : Evr) : Bool := e.epoch == 0 && (e.ver.isEmpty && e.rel.isEmpty)
def dmayB (d : Dp) : Bool := nameB d.name && (opMay d.op && (if d.op = 0 then isZero d.evr else !fileB d.name && mayB d.evr true))
def dwords (d : Dp) : List Bytes := if d.op = 0 then [d.name] else [d.name, opText d.op, showL d.evr]
def dpOf (l : List Bytes) : Option Dp :=
  match l with
  | [n] => if dmayB ⟨n, 0, zeroE⟩ = true then some ⟨n, 0, zeroE⟩ else none
  | [n, o, v] => match evOf v with
    | some e => if (opOf o).2 = true ∧ (opOf o).1 ≠ 0 ∧ dmayB ⟨n, (opOf o).1, e⟩ = true then some ⟨n, (opOf o).1, e⟩ else none
    | none => none
  | _ => none

theorem name_iff {l : Bytes} : nameB l = true ↔ 1 ≤ l.length ∧ l.length ≤ 64 ∧ (∀ c ∈ l, sgn c = true) ∧ l ∉ noNames := by
  unfold nameB; simp [List.all_eq_true]
theorem zero_iff {e : Evr} : isZero e = true ↔ e = zeroE := by
  obtain ⟨p, v, l⟩ := e
  unfold isZero zeroE
  simp [List.isEmpty_iff]
theorem dmay_iff {d : Dp} : dmayB d = true ↔ nameB d.name = true ∧ opMay d.op = true ∧ ((d.op = 0 ∧ d.evr = zeroE) ∨ (d.op ≠ 0 ∧ fileB d.name = false ∧ mayB d.evr true = true)) := by
  unfold dmayB
  by_cases h : d.op = 0
  · simp [h, zero_iff]
  · simp [h]
theorem opMay_cases {n : Int} (h : opMay n = true) : n = 0 ∨ n = 1 ∨ n = 2 ∨ n = 3 ∨ n = 4 ∨ n = 6 := by
  unfold opMay at h; simpa [or_assoc] using h
theorem opOf_text {n : Int} (h : opMay n = true) (h0 : n ≠ 0) : opOf (opText n) = (n, true) := by
  rcases opMay_cases h with rfl | rfl | rfl | rfl | rfl | rfl
  · exact absurd rfl h0
  all_goals decide
theorem opText_of {s : Bytes} (h : (opOf s).2 = true) (h0 : (opOf s).1 ≠ 0) : opText (opOf s).1 = s ∧ opMay (opOf s).1 = true := by
  unfold opOf at h h0 ⊢
  split at h
  · rename_i e; rw [if_pos e] at h0; exact absurd rfl h0
  · rename_i e0
    rw [if_neg e0] at h0 ⊢
    split at h
    · rename_i e; rw [if_pos e]; subst e; exact ⟨rfl, rfl⟩
    · rename_i e1
      rw [if_neg e1] at h0 ⊢
      split at h
      · rename_i e; rw [if_pos e]; subst e; exact ⟨rfl, rfl⟩
      · rename_i e2
        rw [if_neg e2] at h0 ⊢
        split at h
        · rename_i e; rw [if_pos e]; subst e; exact ⟨rfl, rfl⟩
        · rename_i e3
          rw [if_neg e3] at h0 ⊢
          split at h
          · rename_i e; rw [if_pos e]; subst e; exact ⟨rfl, rfl⟩
          · rename_i e4
            rw [if_neg e4] at h0 ⊢
            split at h
            · rename_i e; rw [if_pos e]; subst e; exact ⟨rfl, rfl⟩
            · cases h
/-- the dependency of a dependency's words -/
theorem dpOf_words {d : Dp} (h : dmayB d = true) : dpOf (dwords d) = some d := by
  obtain ⟨h1, h2, h3⟩ := dmay_iff.1 h
  obtain ⟨n, o, e⟩ := d
  dsimp only at h1 h2 h3
  rcases h3 with ⟨rfl, rfl⟩ | ⟨h0, hf, hm⟩
  · unfold dwords
    rw [if_pos rfl]
    unfold dpOf
    dsimp only
    rw [if_pos h]
  · unfold dwords
    dsimp only
    rw [if_neg h0]
    unfold dpOf
    dsimp only
    rw [evOf_iff.2 ⟨hm, rfl⟩]
    dsimp only
    rw [opOf_text h2 h0, if_pos ⟨rfl, h0, h⟩]
theorem words_dpOf {l : List Bytes} {d : Dp} (h : dpOf l = some d) : dmayB d = true ∧ dwords d = l := by
  unfold dpOf at h
  split at h
  · split at h
    · rename_i hm
      cases h
      exact ⟨hm, by unfold dwords; rw [if_pos rfl]⟩
    · cases h
  · split at h
    · rename_i e he
      split at h
      · rename_i hm
        cases h
        refine ⟨hm.2.2, ?_⟩
        unfold dwords
        dsimp only
        rw [if_neg hm.2.1, (opText_of hm.1 hm.2.1).1, (evOf_iff.1 he).2]
      · cases h
    · cases h
  · cases h

/- what stands between spaces -/
/- bytes that stand in words -/
theorem dwords_len (d : Dp) : (dwords d).length = 1 ∨ (dwords d).length = 3 := by unfold dwords; split <;> simp
/- the library's words for it -/
end Go.Proofs.YtnfagaccbkeikaaGreatDoor
