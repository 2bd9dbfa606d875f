/- VercmpRow, VercmpBehind, VercmpAhead, walked. -/
import Derived.Test.YtinidiiachedbaaDoorVmAwake
import Derived.Test.YtinidiiachedbaaDoorVmLaw2
import Derived.Test.YtinidiiachedbaaDoorRowLaid
namespace Go.Proofs.YtinidiiachedbaaDoor
open Go.RowKit Go.Shelf

theorem cmp_cat (W : World) (p q : ByteArray) (r : Int) (h : comp p.toList q.toList = r) (hp : p.size ≤ 1000000) (hq : q.size ≤ 1000000) :
    Calls Tryd.prog 15 #[.string p, .string q] W fun e w' => e = .returned (.int .i64 r) ∧ Below W.heap.size W w' := by
  subst h
  exact comp_any p q W hp hq
theorem lt1 : (⟨#[46, 126]⟩ : ByteArray).toList = [46, 126] := bs_toList _
theorem lt2 : (⟨#[46, 94]⟩ : ByteArray).toList = [46, 94] := bs_toList _
theorem lt3 : (⟨#[46, 122]⟩ : ByteArray).toList = [46, 122] := bs_toList _
theorem lt4 : (⟨#[46, 122, 122, 122]⟩ : ByteArray).toList = [46, 122, 122, 122] := bs_toList _
theorem lt5 : (⟨#[46, 48]⟩ : ByteArray).toList = [46, 48] := bs_toList _
theorem lt6 : (⟨#[126]⟩ : ByteArray).toList = [126] := bs_toList _
theorem lt7 : (⟨#[94]⟩ : ByteArray).toList = [94] := bs_toList _
theorem lt8 : (⟨#[46]⟩ : ByteArray).toList = [46] := bs_toList _
theorem cat_size (a b : ByteArray) : (a ++ b).size = a.size + b.size := ByteArray.size_append
end Go.Proofs.YtinidiiachedbaaDoor
