/- RichAw0, RichAtomW -/
import Derived.Test.YtoglbogfoolkaaaGreatDoorRichTellsRowG28
import Derived.Test.YtoglbogfoolkaaaGreatDoorRichTellsRowG15
namespace Go.Proofs.YtoglbogfoolkaaaGreatDoor
section
/- Rich dependencies in plain terms: the examples; trees that the call itself lays. -/




open Go.RowKit
set_option linter.unusedVariables false

def atomT (x : Bytes) : RT := .mk 1 ⟨x, 0, zeroE⟩ []
def awB : Dp := ⟨[98], 6, ⟨0, [49], []⟩⟩
def awT1 : RT := .mk 2 zeroT [atomT [97], .mk 1 awB []]
def awT2 : RT := .mk 4 zeroT [atomT [97], atomT [98], .mk 3 zeroT [atomT [99], atomT [100]]]
def awL1 : Bytes := [40, 97, 32, 97, 110, 100, 32, 98, 32, 62, 61, 32, 49, 41]
def awL2 : Bytes := [97, 32, 105, 102, 32, 98, 32, 101, 108, 115, 101, 32, 40, 99, 32, 111, 114, 32, 100, 41]
theorem aw1 : parseL awL1 = (some awT1, 0, 0) := parseL_some (parseL_iff.2 ⟨by decide +kernel, by decide +kernel, by decide +kernel⟩)
theorem aw2 : showR awT2 = (40 :: (awL2 ++ [41]), 0) := by decide +kernel
theorem aw3 : parseL [40, 40, 97, 41, 41] = (none, 3, 4) := by rfl
theorem aw4 : parseL [40, 97, 32, 97, 110, 100, 32, 98, 32, 111, 114, 32, 99, 41] = (none, 9, 4) := by rfl
theorem aw5 : parseL [97, 32, 98] = (none, 2, 4) := by rfl
theorem atom_wf (x : Bytes) (h : x.length ≤ maxLen) : Dp.wf ⟨x, 0, zeroE⟩ := ⟨h, rfl, rfl, Nat.zero_le _, Nat.zero_le _⟩
def atomR (x : Bytes) : RV := .node 1 ⟨x, 0, zeroE⟩ none 0 []
theorem atomR_rtree (B : Nat) (W : World) (x : Bytes) (h : x.length ≤ maxLen) : RTree B W (atomR x) := .mk (atom_wf x h) (Rd.nil_ (Nat.zero_le _)) (fun a ha => by simp [atomR, RV.args] at ha)
/-- a row that the call itself lays -/
theorem lit_rd {w : World} {l : List RV} {cs : Array Value} {e : TypeId} {n : Nat} (hn : l.length = n) (hcs : cs.toList = l.flatMap encR) (hm : n ≤ maxLen) : Rd encR 7 (w.heap.size + 1) (some ⟨w.heap.size, 0, none⟩) n l (w.alloc (.cells cs e)) := by
  subst hn
  have := Rd.of_block (enc := encR) (size := 7) (cap := l.length) (g := w.heap.size) (l := l) (w := w.alloc (.cells cs e)) (cs := cs) (t := e) (fz := (0, 0)) (fun _ => rfl) (World.alloc_heap_new w _) hcs (Nat.le_refl _) hm
  simpa using this
theorem lit_tree {w : World} {l : List RV} {cs : Array Value} {e : TypeId} {k : Int} {n : Nat} (hn : l.length = n) (hcs : cs.toList = l.flatMap encR) (hm : n ≤ maxLen) (hl : ∀ t ∈ l, RTree w.heap.size w t) : RTree (w.alloc (.cells cs e)).heap.size (w.alloc (.cells cs e)) (.node k zeroT (some ⟨w.heap.size, 0, none⟩) n l) := by
  refine .mk ⟨Nat.zero_le _, rfl, rfl, Nat.zero_le _, Nat.zero_le _⟩ ?_ (fun a ha => ((hl a ha).keeps ((Below.refl _ _).alloc (Nat.le_refl _) _)).more (by simp))
  have := lit_rd (w := w) (e := e) hn hcs hm
  rw [show (w.alloc (.cells cs e)).heap.size = w.heap.size + 1 by simp]
  exact this
end
section
/- Walks: an atom of a name (chandlerylaw08.atom). -/


open Go.RowKit Go.Shelf
set_option linter.unusedVariables false
set_option maxRecDepth 100000 in
set_option maxHeartbeats 1000000 in
theorem ratom_any (x : ByteArray) (w : World) : Calls Tryz.prog 99 #[.string x] w fun e w' => e = .returned (.agg #[.int .u8 1, .string x, .int .u8 0, .int .i64 0, .string ⟨#[]⟩, .string ⟨#[]⟩, .slice none 0 0]) ∧ Below w.heap.size w w' := by
  go_enter Tryz.func99, Tryz.ntmps99
  go_wp2_with fail
  exact bodyPost_ret (v := .agg #[.int .u8 1, .string x, .int .u8 0, .int .i64 0, .string ⟨#[]⟩, .string ⟨#[]⟩, .slice none 0 0]) (by simp [results, Tryz.results99, go_sem]) rfl ⟨rfl, (Below.refl _ _).alloc (Nat.le_refl _) _⟩
end
end Go.Proofs.YtoglbogfoolkaaaGreatDoor
