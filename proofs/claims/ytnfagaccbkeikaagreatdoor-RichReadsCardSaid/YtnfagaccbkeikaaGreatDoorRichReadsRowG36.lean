/- RtWords, Held -/
import Derived.Test.YtnfagaccbkeikaaGreatDoorRichReadsRowG34
import Derived.Test.YtnfagaccbkeikaaGreatDoorRichReadsRowG33
import Derived.Deep.RegionHeld3
namespace Go.Proofs.YtnfagaccbkeikaaGreatDoor
section
/- Walks: the word of a kind, and the words of a rich dependency that is whole, as the reference has them (chandleryref08.word, words). -/



open Go.RowKit Go.Shelf
set_option linter.unusedVariables false

set_option maxRecDepth 100000 in
set_option maxHeartbeats 4000000 in
theorem rtword_any (q : Nat) (h2 : 2 ≤ q) (h8 : q < 8) (w : World) : Calls Tryz.prog 93 #[.int .u8 (q : Int)] w fun e w' => e = .returned (.string (bs (kwd (q : Int)))) ∧ Below w.heap.size w w' := by
  obtain rfl | rfl | rfl | rfl | rfl | rfl : q = 2 ∨ q = 3 ∨ q = 4 ∨ q = 5 ∨ q = 6 ∨ q = 7 := by omega
  all_goals
    simp only [Int.cast_ofNat_Int]
    go_enter Tryz.func93, Tryz.ntmps93
    go_wp2_with fail
    go_ret
    exact ⟨rfl, Below.refl _ _⟩
end
section
/- A drawn region walked by hand, where a guard is false: what is not wanted is taken first too. -/


section
variable {P : Program} {ops : Array Oper} {Q : Exit → Act → World → Prop} {md : Region.Mode} {S : World → Prop}
theorem held_take (i : Nat) (d : Option Tmp) (v : Value) {oi : Oper} {fuel : Nat} {listed : Array Bool} {a : Act} {w : World} (hi : ops[i]? = some oi) (hd : oi.dst = d)
    (hs : Region.noSelect ops = true) (hf : Region.free md ops listed i = true) (hr : (Region.ready md ops listed).contains i = true)
    (hQ : ∀ c a w, Q (.panic c) (a.put d v) w → Q (.panic c) a w) (hS : S w) (hw : Region.wanted oi (yielded ops a.tmps) = true) (hy : ∀ w, S w → (execOp a.eval oi).run P w = .ok (.value v) w)
    (h : wpAnyH P md ops Q S fuel (listed.setIfInBounds i true) (a.put d v) w) : wpAnyH P md ops Q S (fuel + 1) listed a w := by
  subst hd
  exact wpAnyH_take hi hs hf hr hQ (.inl ⟨hw, hy⟩) hS h
end
end
end Go.Proofs.YtnfagaccbkeikaaGreatDoor
