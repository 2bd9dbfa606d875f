/- Walks: names of dependencies, by the document. -/
import Derived.Test.YtpnnhhgojijlbaaDoorDepName
namespace Go.Proofs.YtpnnhhgojijlbaaDoor
open Go.RowKit Go.Shelf

theorem head_at {s : ByteArray} (h : 0 < s.size) : (s.toList.head? == some 47) = ((s[0].toNat : Int) == 47) := by
  have e : s.toList.head? = some s[0] := by
    rw [List.head?_eq_getElem?, List.getElem?_eq_getElem (by rw [size_toList]; exact h), toList_get s 0 h]
  rw [e, Bool.eq_iff_iff, beq_iff_eq, beq_iff_eq]
  constructor
  · intro h2; rw [Option.some.inj h2]; rfl
  · intro h2
    congr 1
    apply UInt8.toNat_inj.1
    have : (47 : UInt8).toNat = 47 := rfl
    omega
end Go.Proofs.YtpnnhhgojijlbaaDoor

