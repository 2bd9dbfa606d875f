/- RlRef, RlLaw0, RichPlain3 -/
import Derived.Test.YtoglbogfoolkaaaGreatDoorRichTellsRowG17
import Derived.Test.YtoglbogfoolkaaaGreatDoorRichTellsRowG14
import Derived.Test.YtoglbogfoolkaaaGreatDoorRichTellsRowG25
import Derived.RegionTactic
import Derived.ChangeAlike
import Derived.Deep.RegionHeld3
import Derived.Deep.QuietTactic
import Derived.BigQuiet
namespace Go.Proofs.YtoglbogfoolkaaaGreatDoor
section
/- Walks: the document's answer for lex: its words, and words put together. -/






open Go.RowKit Go.Shelf
set_option linter.unusedVariables false

set_option maxHeartbeats 1000000 in
theorem refJoin_any (l : List ByteArray) (A : Option Addr) (cap cap2 : Nat) (w : World) (h : Rd encStr 1 w.heap.size A cap l w) (hw : weigh (texts l) ≤ 140737488355328) :
    Calls Tryz.prog 103 #[.slice A l.length cap2] w fun e w' => e = .returned (.string (bs (joinS none (texts l)))) ∧ w = w' := by
  have hlen := h.len
  go_enter Tryz.func103, Tryz.ntmps103
  go_wp2
  go_loop [3, 4] (fun s i => ∃ k : Nat, k ≤ l.length ∧ i = .int .i64 k ∧ s = .string (bs (joinS none ((texts l).take k))))
    (fun _ i => l.length - (intOf i).toNat)
  case atStart => exact ⟨0, Nat.zero_le _, rfl, rfl⟩
  case round =>
    obtain ⟨k, hk, rfl, rfl⟩ := hrel
    by_cases hlt : k < l.length
    · obtain ⟨b, off, rfl, hb, hc⟩ := h.at1 (f := fun s => .string s) (fun _ => rfl) hlt
      have hstep := Lib.hid (join_step l k hlt)
      have hroom := join_room l k hlt
      have hsz : (bs (joinS none ((texts l).take k))).size = (joinS none ((texts l).take k)).length := by rw [← size_toList, bs_toList]
      by_cases h0 : k ≤ 0
      · have hs := Lib.hid (hstep.out [] (by rw [if_pos (by omega)]; rfl))
        clear hstep
        go_wp2
        go_round
        case rel => exact ⟨k + 1, by omega, by go_num, val_str (toList_inj (by rw [toList_append, bs_toList, bs_toList, hs.out, List.append_nil]))⟩
        case measure => simp [intOf]; omega
      · obtain ⟨_, _, ⟨rfl, rfl⟩, _, hc2⟩ := h.at1 (f := fun s => .string s) (fun _ => rfl) (show k - 1 < l.length by omega)
        have hk1 : ((k : Int) - 1).toNat = k - 1 := by omega
        have hprev : (if k = 0 then none else (texts l)[k - 1]?) = some l[k - 1].toList := by
          rw [if_neg (by omega), List.getElem?_eq_getElem (by simp [texts]; omega), texts_get l (k - 1) (by omega)]
        have hcase : (l[k].toList = [41] ∨ l[k - 1].toList = [40]) ∨ (l[k].toList ≠ [41] ∧ l[k - 1].toList ≠ [40]) := by
          by_cases g1 : l[k].toList = [41]
          · exact .inl (.inl g1)
          · by_cases g2 : l[k - 1].toList = [40]
            · exact .inl (.inr g2)
            · exact .inr ⟨g1, g2⟩
        rcases hcase with g | ⟨g1, g2⟩
        · have hs := Lib.hid (hstep.out [] (by rw [hprev]; unfold sepOf; rcases g with g | g <;> simp [g]))
          clear hstep hprev
          by_cases g1 : (l[k].toList == [41]) = true
          · clear g
            go_wp2
            go_round
            case rel => exact ⟨k + 1, by omega, by go_num, val_str (toList_inj (by rw [toList_append, bs_toList, bs_toList, hs.out, List.append_nil]))⟩
            case measure => simp [intOf]; omega
          · have g3 : (l[k].toList == [41]) = false := by simpa using g1
            have g4 : (l[k - 1].toList == [40]) = true := by rcases g with g | g <;> simp_all
            clear g g1
            go_wp2
            go_round
            case rel => exact ⟨k + 1, by omega, by go_num, val_str (toList_inj (by rw [toList_append, bs_toList, bs_toList, hs.out, List.append_nil]))⟩
            case measure => simp [intOf]; omega
        · have hs := Lib.hid (hstep.out [32] (by rw [hprev]; unfold sepOf; simp [g1, g2]))
          clear hstep hprev
          have g3 : (l[k].toList == [41]) = false := by simpa using g1
          have g4 : (l[k - 1].toList == [40]) = false := by simpa using g2
          clear g1 g2
          go_wp2
          go_round
          case rel => exact ⟨k + 1, by omega, by go_num, val_str (toList_inj (by rw [toList_append, toList_append, bs_toList, bs_toList, hs.out, show (ByteArray.mk #[32]).toList = [32] from bs_toList [32]]))⟩
          case measure => simp [intOf]; omega
    · go_wp2
      go_ret
      exact ⟨by rw [List.take_of_length_le (by simp [texts]; omega)]; rfl, rfl⟩

/-- How far the document's loop has come: k bytes are read, the words ys are whole, cur is begun. -/
def Far (L : Bytes) (k : Nat) (ys : List Tok) (cur : Option Tok) : Prop :=
  toks 0 none L = ys ++ toks k cur (L.drop k) ∧ (cur = none ↔ k = 0 ∨ ∃ c, L[k - 1]? = some c ∧ inn c = false)
theorem Far.last {L : Bytes} {k : Nat} {c : UInt8} {r : Bytes} (hd : L.drop k = c :: r) : L[k + 1 - 1]? = some c := by
  have : L[k]? = (L.drop k)[0]? := by rw [List.getElem?_drop]; rfl
  rw [Nat.add_sub_cancel, this, hd]; rfl
theorem Far.spc {L : Bytes} {k : Nat} {ys : List Tok} {cur : Option Tok} {c : UInt8} (h : Far L k ys cur) (hd : L.drop k = c :: L.drop (k + 1)) (g : spc c = true) : Far L (k + 1) (ys ++ flushT cur) none := by
  have hi : inn c = false := by cases hc : inn c with | false => rfl | true => rw [spc_inn hc] at g; cases g
  refine ⟨?_, by simp only [true_iff]; exact .inr ⟨c, Far.last hd, hi⟩⟩
  rw [h.1, hd]
  cases cur with
  | none => rw [toks_spc g]; simp [flushT]
  | some t => obtain ⟨q, t⟩ := t; rw [toks, if_neg (by simp [hi]), if_pos g]; simp [flushT]
theorem Far.brk {L : Bytes} {k : Nat} {ys : List Tok} {cur : Option Tok} {c : UInt8} (h : Far L k ys cur) (hd : L.drop k = c :: L.drop (k + 1)) (g : brk c = true) : Far L (k + 1) (ys ++ flushT cur ++ [(k, [c])]) none := by
  have hi : inn c = false := by cases hc : inn c with | false => rfl | true => rw [brk_inn hc] at g; cases g
  refine ⟨?_, by simp only [true_iff]; exact .inr ⟨c, Far.last hd, hi⟩⟩
  rw [h.1, hd]
  cases cur with
  | none => rw [toks_brk g]; simp [flushT]
  | some t => obtain ⟨q, t⟩ := t; rw [toks, if_neg (by simp [hi]), if_neg (by simp [spc_brk g]), if_pos g]; simp [flushT]
theorem Far.more {L : Bytes} {k q : Nat} {t : Bytes} {ys : List Tok} {c : UInt8} (h : Far L k ys (some (q, t))) (hd : L.drop k = c :: L.drop (k + 1)) (g : inn c = true) : Far L (k + 1) ys (some (q, t ++ [c])) := by
  refine ⟨?_, by rw [Far.last hd]; simp [g]⟩
  rw [h.1, hd, toks, if_pos g]
/-- none of the first k bytes is wrong -/
def Clean (s : ByteArray) (k : Nat) : Prop := ∀ c ∈ s.toList.take k, wrong c = false
theorem Clean.next {s : ByteArray} {k : Nat} (h : Clean s k) (hlt : k < s.size) : (wrong s[k] = false → Clean s (k + 1)) ∧ (wrong s[k] = true → badAt s.toList = some k) := by
  constructor
  · intro g c hc
    rw [toList_take_succ s k hlt] at hc
    rcases List.mem_append.1 hc with hc | hc
    · exact h c hc
    · simp at hc; subst hc; exact g
  · intro g
    unfold badAt
    rw [List.findIdx?_eq_some_iff_getElem]
    refine ⟨by rw [size_toList]; exact hlt, by rw [toList_get s k hlt]; exact g, fun j hj => ?_⟩
    have hm : s.toList[j]'(by rw [size_toList]; omega) ∈ s.toList.take k := by
      rw [List.mem_take_iff_getElem]
      exact ⟨j, by rw [size_toList]; omega, rfl⟩
    simpa using h _ hm
theorem Clean.all {s : ByteArray} {k : Nat} (h : Clean s k) (hk : s.size ≤ k) : badAt s.toList = none := by
  unfold badAt
  rw [List.findIdx?_eq_none_iff]
  intro c hc
  have := h c (by rw [List.take_of_length_le (by rw [size_toList]; exact hk)]; exact hc)
  simpa using this
end
section
/- Walks: what the statements of lex ask first: are these a text's words; are the examples as they are told; is it too long. -/




open Go.RowKit Go.Shelf

theorem Rd.of_block {α : Type} {enc : α → List Value} {size cap g : Nat} {l : List α} {w : World} {cs : Array Value} {t : TypeId} {fz : Nat × Nat} (he : ∀ x, (enc x).length = size)
    (h : w.heap[g]? = some (.cells cs t fz)) (hcs : cs.toList = l.flatMap enc) (hc : l.length ≤ cap) (hm : cap ≤ maxLen) : Rd enc size w.heap.size (some ⟨g, 0, none⟩) cap l w := by
  refine ⟨hc, hm, fun k hk => ⟨g, 0, rfl, (Array.getElem?_eq_some_iff.1 h).1, fun j u hu => ?_⟩⟩
  have hj : j < size := by have := (List.getElem?_eq_some_iff.1 hu).1; rw [he] at this; exact this
  rw [cell_of_row w g _ cs t fz h, ← Array.getElem?_toList, hcs, Nat.zero_add, flatMap_at enc size he l k hk j hj]
  exact hu

def AllInn (s : ByteArray) (k : Nat) : Prop := (s.toList.take k).all inn = true
theorem AllInn.next {s : ByteArray} {k : Nat} (h : AllInn s k) (hlt : k < s.size) : (inn s[k] = true → AllInn s (k + 1)) ∧ (inn s[k] = false → s.toList.all inn = false) := by
  constructor
  · intro g
    unfold AllInn at *
    rw [toList_take_succ s k hlt, List.all_append, h]
    simp [g]
  · intro g
    rw [List.all_eq_false]
    exact ⟨s[k], by rw [← toList_get s k hlt]; exact List.getElem_mem _, by simp [g]⟩
end
section
/- Rich dependencies in plain terms: their text; unlike ones have unlike texts. -/



open Go.RowKit

def showR (t : RT) : Bytes × Int := if t.whole = true then (if 4096 < (joinS none t.words).length then ([], 40) else (joinS none t.words, 0)) else ([], 4)
theorem dwords_short {d : Dp} (h : dmayB d = true) : ∀ w ∈ dwords d, w.length ≤ 150 := by
  intro w hw
  have hn := name_iff.1 (dmay_iff.1 h).1
  unfold dwords at hw
  split at hw
  · simp at hw; subst hw; omega
  · rename_i h0
    simp only [List.mem_cons, List.not_mem_nil, or_false] at hw
    have hm : mayB d.evr true = true := by
      rcases (dmay_iff.1 h).2.2 with ⟨e, _⟩ | ⟨_, _, e⟩
      · exact absurd e h0
      · exact e
    rcases hw with rfl | rfl | rfl
    · omega
    · rcases opMay_cases (dmay_iff.1 h).2.1 with e | e | e | e | e | e
      all_goals rw [e]; decide
    · have := showL_len hm; omega
theorem between_short (k : Int) (i : Nat) : (betweenK k i).length ≤ 150 := by
  unfold betweenK kwd; repeat' split
  all_goals decide
theorem sepW_mem {k : Int} {i : Nat} {w : Bytes} (h : w ∈ sepW k i) : w = betweenK k i := by
  unfold sepW at h; split at h <;> simp at h; exact h
/-- whatever a word of a plain dependency and the words of brackets have, all words have -/
theorem words_each (P : Bytes → Prop) (hd : ∀ d, dmayB d = true → ∀ w ∈ dwords d, P w) (hb : ∀ k i, P (betweenK k i)) (h40 : P [40]) (h41 : P [41]) : (∀ t : RT, t.okB = true → ∀ w ∈ t.words, P w) :=
  go
where
  go : ∀ t : RT, t.okB = true → ∀ w ∈ t.words, P w
  | .mk k d l, h, w, hw => by
    by_cases hk : k = 1
    · simp only [RT.okB, if_pos hk, Bool.and_eq_true] at h
      simp only [RT.words, if_pos hk] at hw
      exact hd d h.2 w hw
    · simp only [RT.okB, if_neg hk, Bool.and_eq_true] at h
      simp only [RT.words, if_neg hk, List.mem_cons, List.mem_append, List.not_mem_nil, or_false] at hw
      rcases hw with rfl | hw | rfl
      · exact h40
      · exact goL k l h.2.2.2 0 w hw
      · exact h41
  goL (k : Int) : ∀ l : List RT, okL l = true → ∀ (i : Nat), ∀ w ∈ wordsR k i l, P w
  | [], _, i, w, hw => by simp [wordsR] at hw
  | a :: l, h, i, w, hw => by
    simp only [okL, Bool.and_eq_true] at h
    simp only [wordsR, List.mem_append] at hw
    rcases hw with hw | hw | hw
    · rw [sepW_mem hw]; exact hb k i
    · exact go a h.1 w hw
    · exact goL k l h.2 (i + 1) w hw
theorem words_short' {t : RT} (h : t.okB = true) : ∀ w ∈ t.words, w.length ≤ 150 := words_each _ (fun _ h => dwords_short h) between_short (by decide) (by decide) t h
mutual
theorem words_many : ∀ t : RT, t.words.length ≤ 5 * t.parts - 1
  | .mk k d l => by
    have hp := parts_pos (.mk k d l)
    simp only [RT.words, RT.parts] at *
    split
    · rcases dwords_len d with e | e <;> omega
    · have := wordsR_many k 0 l
      simp only [List.length_cons, List.length_append, List.length_nil]
      omega
theorem wordsR_many (k : Int) : ∀ (i : Nat) (l : List RT), (wordsR k i l).length ≤ 5 * partsL l
  | i, [] => by simp [wordsR]
  | i, a :: l => by
    have h1 := words_many a
    have h2 := wordsR_many k (i + 1) l
    have h3 := parts_pos a
    have h4 : (sepW k i).length ≤ 1 := by unfold sepW; split <;> simp
    simp only [wordsR, partsL, List.length_append]
    omega
end
theorem weigh_le {n : Nat} : ∀ l : List Bytes, (∀ w ∈ l, w.length ≤ n) → weigh l ≤ l.length * (n + 1)
  | [], _ => by simp [weigh]
  | a :: l, h => by
    have h1 := weigh_le l fun w hw => h w (by simp [hw])
    have h2 := h a (by simp)
    simp only [weigh, List.map_cons, List.sum_cons, List.length_cons, Nat.add_mul] at *
    omega
theorem weigh_words {t : RT} (h : t.okB = true) (hp : t.parts ≤ 1000000) : weigh t.words ≤ 1000000000 := by
  have h1 := weigh_le t.words (words_short' h)
  have h2 := words_many t
  have := Nat.mul_le_mul_right 151 (show t.words.length ≤ 5000000 by omega)
  omega
end
end Go.Proofs.YtoglbogfoolkaaaGreatDoor
