/- How the arguments of a statement are opened: strings, integers, slices of strings, as the form's reading gives them. -/
import Derived.Test.YtpnnhhgojijlbaaDoorRows
import Derived.Test.YtpnnhhgojijlbaaDoorBase
import Derived.ProofKit
import Derived.OpenShut
import Derived.ShutString
import Derived.ChangeOld
import Derived.SizedLaws
import Derived.SliceStrings
namespace Go.Proofs.YtpnnhhgojijlbaaDoor
open Go.ChangeShapes Go.WideShapes Go.ChangeAt Go.RowKit

theorem own : ownKnob Tryd.prog.godebug = none := by kernel_rfl
theorem laidOut : laidOutB Tryd.prog = true := by kernel_rfl

section
variable {H : Type} {enc : TypeId × Value → H} {P : Program} {W : World} {held : Bool} {t e : TypeId} {d : DataW H} {p : List MemPlace}

theorem arg_string {r : Reach} {b0 : Nat} {v : Value} {sp : Nat → Bool} (ht : P.underlying t = some .string) (hval : Value.okWide P W r b0 t v) (h : DataW.Trod enc P W 0 sp held t v d p) :
    ∃ s : ByteArray, v = .string s ∧ d = .lit (.string s.data.toList) ∧ s.size ≤ maxLen := by
  obtain ⟨s, h1, h2, _, h4⟩ := Go.ChangeMaps.open_string ht hval h
  exact ⟨s, h1, h2, h4⟩
theorem arg_int {r : Reach} {b0 : Nat} {v : Value} {sp : Nat → Bool} {k : IntKind} (ht : P.underlying t = some (.int k)) (hval : Value.okWide P W r b0 t v) (h : DataW.Trod enc P W 0 sp held t v d p) :
    ∃ n : Int, v = .int k n ∧ (Lit.int k n).wf = true := by
  obtain ⟨n, h1, _, _, h4⟩ := open_int ht hval h
  exact ⟨n, h1, h4⟩
theorem arg_strs {r : Reach} {b0 : Nat} {v : Value} (ht : P.underlying t = some (.slice e)) (he : P.underlying e = some .string) (hc : P.cellsOf e = 1) (hval : Value.okWide P W r b0 t v)
    (h : DataW.Trod enc P W 0 (fun _ => true) held t v d p) :
    ∃ (A : Option Addr) (cap : Nat) (l : List ByteArray), v = .slice A l.length cap ∧ Rd (fun s => [Value.string s]) 1 W.heap.size A cap l W ∧ (∀ s ∈ l, s.size ≤ maxLen) ∧ (l ≠ [] → ∃ spr, d = .slice (strs l) spr) := by
  obtain ⟨a0, len, cap, rfl⟩ := okWide_slice ht hval
  obtain ⟨fuel, hf⟩ := h
  rcases open_strings ht he hc hf with ⟨hcs, _⟩ | ⟨x, l, c, ss, hcs, _, hl, hm, hz, hx, hcell, hws⟩
  · simp [Value.cells] at hcs
    obtain ⟨rfl, rfl, rfl⟩ := hcs
    exact ⟨none, 0, [], rfl, Rd.nil_ (Nat.zero_le _), by simp, fun h => absurd rfl h⟩
  · simp [Value.cells] at hcs
    obtain ⟨rfl, rfl, rfl⟩ := hcs
    simp only [if_true] at hz
    have hlen : (ss.take len).length = len := by rw [List.length_take]; omega
    refine ⟨some x, cap, ss.take len, by rw [hlen], ⟨by rw [hlen]; exact hl, hm, fun k hk => ?_⟩, fun s hs => hws s (List.mem_of_mem_take hs), fun _ => ⟨_, (Prod.mk.inj hx).1⟩⟩
    rw [hlen] at hk
    have h1 := hcell k (by omega)
    obtain ⟨b, off, spot⟩ := x
    have hspot : spot = none := by
      exact World.cell?_spot (hcell 0 (by omega))
    subst hspot
    have hadd : (⟨b, off, none⟩ : Addr).add k = ⟨b, off + k, none⟩ := by unfold Addr.add; split <;> simp_all
    rw [hadd] at h1
    refine ⟨b, off, rfl, World.block_lt_of_cell? W _ h1, fun j u hu => ?_⟩
    match j, hu with
    | 0, hu =>
      simp at hu
      subst hu
      simp only [Nat.mul_one, Nat.add_zero]
      rw [h1]
      simp [List.getD, List.getElem?_eq_getElem (show k < ss.length by omega)]
    | j + 1, hu => simp at hu
theorem weight_strs {ts : List TypeId} {ds : List (DataW H)} (h : (DataW.weightsEach P ts ds).all (· ≤ reachBytes) = true) {j : Nat} {l : List ByteArray} (ht : ts[j]? = some t) (hu : P.underlying t = some (.slice e)) (hd : l ≠ [] → ∃ spr, ds[j]? = some (.slice (strs l) spr)) :
    ∀ s ∈ l, s.size ≤ reachBytes := by
  intro s hs
  obtain ⟨spr, hd⟩ := hd (fun h => by rw [h] at hs; simp at hs)
  have hw : ∀ (l : List ByteArray), s ∈ l → s.size ∈ DataW.weightsAll (H := H) P e (strs l) := by
    intro l
    induction l with
    | nil => simp
    | cons x r ih =>
      intro hs
      simp only [strs, List.map_cons, DataW.weightsAll, List.mem_append]
      rcases List.mem_cons.1 hs with rfl | hs
      · exact .inl (by simp [DataW.weights])
      · exact .inr (ih hs)
  have := List.all_eq_true.1 h _ (DataW.weights_mem_each ht hd s.size (by simp only [DataW.weights, hu]; exact List.mem_cons_of_mem _ (List.mem_append_left _ (hw l hs))))
  simpa using this
end
theorem reach_small : reachBytes ≤ 9223372036854770000 := by decide
end Go.Proofs.YtpnnhhgojijlbaaDoor
