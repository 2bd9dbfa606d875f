/- A slice of texts, wherever it lies. -/
import Derived.Test.YtpnnhhgojijlbaaDoorBase
import Derived.Lib.SplitLaws
import Derived.RegionTactic
import Derived.ChangeAlike
namespace Go.Proofs.YtpnnhhgojijlbaaDoor
open Go.RowKit

/-- a slice at A reads as these texts -/
def TR (W : World) (A : Option Addr) (D : List ByteArray) : Prop := ∀ (k : Nat) (hk : k < D.length), ∃ b o, A = some ⟨b, o, none⟩ ∧ b < W.heap.size ∧ W.cell? ⟨b, o + k, none⟩ = some (.string D[k])
theorem TR.calls {W W' : World} {A : Option Addr} {D : List ByteArray} (h : TR W A D) (hb : Below W.heap.size W W') : TR W' A D := fun k hk => by
  obtain ⟨b, o, e, hl, hc⟩ := h k hk
  exact ⟨b, o, e, Nat.lt_of_lt_of_le hl hb.size, (hb.cell (p := ⟨b, o + k, none⟩) hl).trans hc⟩
theorem TR.below {w W : World} {A : Option Addr} {D : List ByteArray} (h : TR w A D) (hb : Below w.heap.size w W) : TR W A D := h.calls hb
theorem TR.nil (W : World) (A : Option Addr) : TR W A [] := fun k hk => absurd hk (by simp)
theorem TR.of_rd {W : World} {A : Option Addr} {cap : Nat} {D : List ByteArray} (h : Rd (fun s => [Value.string s]) 1 W.heap.size A cap D W) : TR W A D := fun k hk => by
  obtain ⟨b, o, e, hl, hc⟩ := h.at1 (f := fun s => Value.string s) (fun _ => rfl) hk
  exact ⟨b, o, e, hl, hc⟩
theorem TR.of_own {W : World} {base : Nat} {e : TypeId} {v : Value} {D : List ByteArray} (h : Own (fun s => [Value.string s]) 1 base e v D W) : ∃ A c, v = .slice A D.length c ∧ TR W A D := by
  obtain ⟨A, cap, ev, hr⟩ := Own.rd h (fun _ => rfl)
  exact ⟨A, cap, ev, TR.of_rd hr⟩
theorem TR.new (w : World) (D : List ByteArray) (e : TypeId) : TR (w.alloc (.cells (D.map Value.string).toArray e)) (some ⟨w.heap.size, 0, none⟩) D := fun k hk =>
  ⟨w.heap.size, 0, rfl, by simp, (World.cell?_alloc_at _ _ _ _ rfl).trans (by simp [List.getElem?_eq_getElem hk])⟩
theorem TR.one {W : World} {A : Option Addr} {x : ByteArray} (h : TR W A [x]) : ∃ b o, A = some ⟨b, o, none⟩ ∧ b < W.heap.size ∧ W.cell? ⟨b, o, none⟩ = some (.string x) := by
  obtain ⟨b, o, e, hl, hc⟩ := h 0 (by simp)
  exact ⟨b, o, e, hl, hc⟩
theorem TR.three {W : World} {A : Option Addr} {x y z : ByteArray} (h : TR W A [x, y, z]) : ∃ b o, A = some ⟨b, o, none⟩ ∧ b < W.heap.size ∧ W.cell? ⟨b, o, none⟩ = some (.string x) ∧ W.cell? ⟨b, o + 1, none⟩ = some (.string y) ∧ W.cell? ⟨b, o + 2, none⟩ = some (.string z) := by
  obtain ⟨b, o, e, hl, hc⟩ := h 0 (by simp)
  obtain ⟨b1, o1, e1, _, hc1⟩ := h 1 (by simp)
  obtain ⟨b2, o2, e2, _, hc2⟩ := h 2 (by simp)
  rw [e] at e1 e2
  simp only [Option.some.injEq, Addr.mk.injEq, and_true] at e1 e2
  obtain ⟨rfl, rfl⟩ := e1
  obtain ⟨rfl, rfl⟩ := e2
  exact ⟨b, o, e, hl, hc, hc1, hc2⟩
end Go.Proofs.YtpnnhhgojijlbaaDoor
