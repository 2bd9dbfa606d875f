/- Walks: what the statements of evr ask first. -/
import Derived.Test.YtinidiiachedbaaDoorEvParse
namespace Go.Proofs.YtinidiiachedbaaDoor
open Go.RowKit Go.Shelf

def ofE (s : Bytes) : Evr := match evOf s with | some e => e | none => zeroE
def largeB (e : Evr) : Bool := decide (300 < e.ver.length) || decide (300 < e.rel.length)
theorem large_small {e : Evr} (h : largeB e = false) : e.ok := by
  unfold largeB at h
  simp only [Bool.or_eq_false_iff, decide_eq_false_iff_not] at h
  exact ⟨by omega, by omega⟩
theorem of_some {s : Bytes} {e : Evr} (h : IsEvr s e) : ofE s = e := by unfold ofE; rw [evOf_iff.2 h]
theorem none_pc {s : Bytes} (h : pcand s = none) : evOf s = none := by unfold evOf; rw [h]
theorem none_may {s : Bytes} {e : Evr} (h : pcand s = some e) (hm : mayB e true = false) : evOf s = none := by unfold evOf; rw [h]; dsimp only; rw [if_neg (fun g => by rw [hm] at g; cases g.1)]
theorem none_show {s : Bytes} {e : Evr} (h : pcand s = some e) (hm : showL e ≠ s) : evOf s = none := by unfold evOf; rw [h]; dsimp only; rw [if_neg (fun g => hm g.2)]
theorem show_one (v l : Bytes) : showL ⟨1, v, l⟩ = [49, 58] ++ (v ++ relL l) := by
  unfold showL
  dsimp only
  rw [if_pos (by decide)]
  unfold Lib.itoa
  rw [if_neg (by decide), show (1 : Int).toNat = 1 from rfl, Lib.decDigits_one (by decide)]
  rfl
theorem show_zero (v l : Bytes) : showL ⟨0, v, l⟩ = v ++ relL l := by
  unfold showL
  dsimp only
  rw [if_neg (by decide)]; rfl
theorem evr_lit (p q : Int) (v l x y : ByteArray) (r : Int) (w : World) (hs : (decide (v.size ≤ 1000000) && (decide (l.size ≤ 1000000) && (decide (x.size ≤ 1000000) && decide (y.size ≤ 1000000)))) = true) (h : ecmp ⟨p, v.toList, l.toList⟩ ⟨q, x.toList, y.toList⟩ = r) :
    Calls Tryd.prog 131 #[.agg #[.int .i64 p, .string v, .string l], .agg #[.int .i64 q, .string x, .string y]] w fun e w' => e = .returned (.int .i64 r) ∧ Below w.heap.size w w' := by
  simp only [Bool.and_eq_true, decide_eq_true_eq] at hs
  have h2 := evr_any ⟨p, v.toList, l.toList⟩ ⟨q, x.toList, y.toList⟩ w (by rw [size_toList]; exact hs.1) (by rw [size_toList]; exact hs.2.2.1) (by rw [size_toList]; exact hs.2.1) (by rw [size_toList]; exact hs.2.2.2)
  rw [h] at h2
  unfold Evr.val at h2
  dsimp only at h2
  rw [bs_of, bs_of, bs_of, bs_of] at h2
  exact h2
end Go.Proofs.YtinidiiachedbaaDoor
