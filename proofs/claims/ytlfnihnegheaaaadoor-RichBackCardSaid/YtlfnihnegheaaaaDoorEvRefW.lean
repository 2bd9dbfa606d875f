/- Walks: EVRs by the document: which may be, their texts. -/
import Derived.Test.YtlfnihnegheaaaaDoorEvParse
import Derived.Laws.IdiomStrings
import Derived.RegionTactic
import Derived.Deep.QuietTactic
import Derived.BigQuiet
import Derived.ChangeAlike
namespace Go.Proofs.YtlfnihnegheaaaaDoor
open Go.RowKit Go.Shelf

theorem below_drewN {B : Nat} {w W : World} {n : Nat} (h : Below B w W) : Below B w (W.drewN n) := ⟨h.os, h.tape, h.output, h.size, h.block⟩
theorem itoa_of {p : Int} {u : Nat} (h : p = (u : Int)) : Lib.itoa p = Lib.decDigits u := by
  rw [h]
  unfold Lib.itoa
  rw [if_neg (by omega), Int.toNat_natCast]
theorem conv1r (W : World) (c : UInt8) : (convert 72 9 (.slice (some ⟨W.heap.size, 0, none⟩) 1 1)).run Tryd.prog (W.alloc (.cells #[.int .u8 (c.toNat : Int)] 5)) = .ok (.string (bs [c])) (W.alloc (.cells #[.int .u8 (c.toNat : Int)] 5)) :=
  run_convert_bytes_back _ _ _ 5 _ _ [c] Tryd.underlying72 Tryd.underlying5 Tryd.underlying9 (fun j hj => by
    match j, hj with
    | 0, _ => simp [Addr.add])
set_option maxRecDepth 100000 in
set_option maxHeartbeats 8000000 in
theorem dig_conv {d : Nat} {c : UInt8} (h : (c.toNat : Int) = 48 + (d : Int)) (W : World) : (convert 72 9 (.slice (some ⟨W.heap.size, 0, none⟩) 1 1)).run Tryd.prog (W.alloc (.cells #[.int .u8 (48 + (d : Int))] 5)) = .ok (.string (bs [c])) (W.alloc (.cells #[.int .u8 (48 + (d : Int))] 5)) := by
  have h1 := conv1r W c
  rw [h] at h1
  exact h1
theorem dig_conv2 {d : Nat} {c : UInt8} (h : (c.toNat : Int) = 48 + (d : Int)) (W W' : World) (hb : Below (W.alloc (.cells #[.int .u8 (48 + (d : Int))] 5)).drew.heap.size (W.alloc (.cells #[.int .u8 (48 + (d : Int))] 5)).drew W') : (convert 72 9 (.slice (some ⟨W.heap.size, 0, none⟩) 1 1)).run Tryd.prog W' = .ok (.string (bs [c])) W' :=
  run_convert_bytes_back _ _ _ 5 _ _ [c] Tryd.underlying72 Tryd.underlying5 Tryd.underlying9 (fun j hj => by
    match j, hj with
    | 0, _ =>
      have h1 := hb.cell (p := ⟨W.heap.size, 0, none⟩) (by show W.heap.size < (W.alloc _).heap.size; simp)
      rw [show (W.alloc (.cells #[.int .u8 (48 + (d : Int))] 5)).drew.cell? ⟨W.heap.size, 0, none⟩ = some (.int .u8 (48 + (d : Int))) from World.cell?_alloc_at _ _ _ _ rfl] at h1
      simp only [Addr.add]
      rw [if_pos trivial] <;> first | (rw [h1]; simp [h]) | (simp [h1, h]))
theorem dig_conv3 {d : Nat} {c : UInt8} (h : (c.toNat : Int) = 48 + (d : Int)) (W : World) : (convert 72 9 (.slice (some ⟨W.heap.size, 0, none⟩) 1 1)).run Tryd.prog (W.alloc (.cells #[.int .u8 (48 + (d : Int))] 5)).drew = .ok (.string (bs [c])) (W.alloc (.cells #[.int .u8 (48 + (d : Int))] 5)).drew := dig_conv2 h W _ (Below.refl _ _)
theorem dig_toInt {d : Nat} (h : d < 10) : ((UInt8.ofNat (48 + d)).toNat : Int) = 48 + (d : Int) := by rw [dig_toNat h]; omega
end Go.Proofs.YtlfnihnegheaaaaDoor
