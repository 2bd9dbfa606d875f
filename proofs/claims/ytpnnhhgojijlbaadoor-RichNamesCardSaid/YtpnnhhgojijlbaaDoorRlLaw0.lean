/- Walks: what the statements of lex ask first: are these a text's words; are the examples as they are told; is it too long. -/
import Derived.Test.YtpnnhhgojijlbaaDoorRlRef
import Derived.Deep.QuietTactic
import Derived.BigQuiet
namespace Go.Proofs.YtpnnhhgojijlbaaDoor
open Go.RowKit Go.Shelf

theorem Rd.of_block {α : Type} {enc : α → List Value} {size cap g : Nat} {l : List α} {w : World} {cs : Array Value} {t : TypeId} {fz : Nat × Nat} (he : ∀ x, (enc x).length = size)
    (h : w.heap[g]? = some (.cells cs t fz)) (hcs : cs.toList = l.flatMap enc) (hc : l.length ≤ cap) (hm : cap ≤ maxLen) : Rd enc size w.heap.size (some ⟨g, 0, none⟩) cap l w := by
  refine ⟨hc, hm, fun k hk => ⟨g, 0, rfl, (Array.getElem?_eq_some_iff.1 h).1, fun j u hu => ?_⟩⟩
  have hj : j < size := by have := (List.getElem?_eq_some_iff.1 hu).1; rw [he] at this; exact this
  rw [cell_of_row w g _ cs t fz h, ← Array.getElem?_toList, hcs, Nat.zero_add, flatMap_at enc size he l k hk j hj]
  exact hu

def longB (l : List ByteArray) : Bool := decide (3000 ≤ weigh (texts l))
theorem weigh_succ (l : List ByteArray) (k : Nat) (h : k < l.length) : weigh ((texts l).take (k + 1)) = weigh ((texts l).take k) + 1 + l[k].size := by
  rw [take_snoc _ _ (by simpa [texts] using h), texts_get l k h]
  simp only [weigh, List.map_append, List.sum_append, List.map_cons, List.map_nil, List.sum_cons, List.sum_nil, size_toList]
  omega
def plainB (l : Bytes) : Bool := (l == [40] || l == [41]) || (l.all inn && l != [])
def AllInn (s : ByteArray) (k : Nat) : Prop := (s.toList.take k).all inn = true
theorem AllInn.next {s : ByteArray} {k : Nat} (h : AllInn s k) (hlt : k < s.size) : (inn s[k] = true → AllInn s (k + 1)) ∧ (inn s[k] = false → s.toList.all inn = false) := by
  constructor
  · intro g
    unfold AllInn at *
    rw [toList_take_succ s k hlt, List.all_append, h]
    simp [g]
  · intro g
    rw [List.all_eq_false]
    exact ⟨s[k], by rw [← toList_get s k hlt]; exact List.getElem_mem _, by simp [g]⟩
theorem innB_iff {c : UInt8} : inn c = true ↔ (33 ≤ (c.toNat : Int) ∧ (c.toNat : Int) ≤ 126 ∧ ((c.toNat : Int) == 40) = false ∧ ((c.toNat : Int) == 41) = false) := by
  unfold inn innB brB
  simp only [Bool.and_eq_true, decide_eq_true_eq, Bool.not_eq_true', Bool.or_eq_false_iff]
  constructor
  · rintro ⟨a, b, c, d⟩; exact ⟨by omega, b, c, d⟩
  · rintro ⟨a, b, c, d⟩; exact ⟨by omega, b, c, d⟩
end Go.Proofs.YtpnnhhgojijlbaaDoor
