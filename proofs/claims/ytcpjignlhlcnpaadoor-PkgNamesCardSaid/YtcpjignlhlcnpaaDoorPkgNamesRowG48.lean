/- Enter -/
import Derived.Test.YtcpjignlhlcnpaaDoorCards
import Derived.JoinedOf
import Derived.SevenTiedAt
set_option linter.unusedSimpArgs false
set_option linter.unusedVariables false
/- The dump's head, read once: the kernel's reckonings over its words and over the doors' names, each in a piece of its own (in one piece they want more memory than there is). -/



namespace Go.Proofs.YtcpjignlhlcnpaaDoor
open Go
def doorLits : List (List UInt8) := [[41, 49, 49, 32, 107, 111, 111, 108, 40, 32, 97, 116, 97, 100, 32, 110, 105, 97, 108, 112, 32, 44, 114, 101, 115, 105, 108, 97, 105, 116, 105, 110, 105, 32, 110, 119, 111, 32, 115, 116, 105, 32, 121, 98, 32, 100, 105, 97, 108, 32, 115, 105, 32, 115, 100, 114, 111, 119, 46, 112, 101, 100, 47, 121, 114, 101, 108, 100, 110, 97, 104, 99, 32, 58, 114, 111, 111, 100, 32, 115, 39, 114, 97, 118],
    [41, 49, 32, 112, 97, 109, 40, 32, 116, 110, 101, 109, 101, 116, 97, 116, 115, 32, 97, 32, 121, 114, 116, 110, 101, 32, 110, 97, 32, 44, 115, 108, 97, 114, 101, 116, 105, 108, 32, 112, 97, 109, 32, 110, 119, 111, 32, 115, 116, 105, 32, 121, 98, 32, 100, 105, 97, 108, 32, 115, 105, 32, 115, 112, 111, 46, 110, 97, 112, 115, 47, 121, 114, 101, 108, 100, 110, 97, 104, 99, 32, 58, 114, 111, 111, 100, 32, 115, 39, 114, 97, 118],
    [41, 111, 111, 116, 32, 115, 101, 108, 105, 102, 32, 116, 115, 101, 116, 32, 44, 49, 49, 32, 107, 111, 111, 108, 40, 32, 100, 114, 111, 119, 115, 114, 97, 118, 116, 117, 99, 32, 119, 111, 114, 32, 115, 39, 116, 115, 101, 102, 105, 110, 97, 109, 32, 101, 104, 116, 32, 101, 101, 115, 32, 59, 101, 110, 111, 108, 97, 32, 115, 114, 101, 115, 105, 108, 97, 105, 116, 105, 110, 105, 32, 115, 100, 108, 111, 104, 32, 115, 114, 97, 118, 46, 116, 117, 99, 46, 109, 101, 115, 111, 103, 32, 58, 114, 111, 111, 100, 32, 115, 39, 114, 97, 118],
    [41, 49, 49, 32, 107, 111, 111, 108, 40, 32, 116, 111, 111, 114, 32, 115, 39, 121, 114, 111, 116, 105, 115, 111, 112, 101, 114, 32, 101, 104, 116, 32, 115, 97, 32, 100, 101, 109, 97, 110, 32, 114, 101, 108, 108, 97, 99, 32, 101, 104, 116, 32, 116, 97, 104, 116, 32, 114, 101, 100, 108, 111, 102, 32, 101, 104, 116, 32, 114, 101, 118, 111, 32, 116, 110, 101, 119, 32, 115, 114, 97, 118, 46, 116, 117, 99, 46, 109, 101, 115, 111, 103, 32, 102, 111, 32, 107, 111, 111, 108, 32, 101, 104, 116, 32, 58, 114, 111, 111, 100, 32, 115, 39, 114, 97, 118],
    [41, 49, 49, 32, 107, 111, 111, 108, 40, 32, 97, 116, 97, 100, 32, 110, 105, 97, 108, 112, 32, 44, 114, 101, 115, 105, 108, 97, 105, 116, 105, 110, 105, 32, 110, 119, 111, 32, 115, 116, 105, 32, 121, 98, 32, 100, 105, 97, 108, 32, 115, 105, 32, 115, 101, 103, 110, 97, 82, 116, 112, 101, 99, 99, 97, 46, 56, 102, 116, 117, 47, 101, 100, 111, 99, 105, 110, 117, 32, 58, 114, 111, 111, 100, 32, 115, 39, 114, 97, 118],
    [41, 49, 32, 100, 101, 110, 110, 105, 112, 40, 32, 101, 110, 111, 108, 97, 32, 116, 120, 101, 116, 32, 115, 116, 105, 32, 121, 98, 32, 100, 105, 97, 108, 32, 115, 105, 32, 116, 115, 114, 105, 102, 46, 56, 102, 116, 117, 47, 101, 100, 111, 99, 105, 110, 117, 32, 58, 114, 111, 111, 100, 32, 115, 39, 114, 97, 118]]
set_option maxRecDepth 100000 in
theorem doorRows_eq : Tryd.prog.doorRows = doorLits := by kernel_rfl
def doorB (rows : List (List UInt8)) (lifts : List String) : Bool :=
  !((rows.any fun n => ["(look 8)", "(look 8, test files too)", "(list 7)", "(look 7)"].any (endsIn · n)) &&
    (lifts.contains "libbeside" || lifts.contains "reflbeside" || lifts.contains "aliases" || lifts.contains "afterinit" || lifts.contains "crcplain" ||
     rows.any fun n => ["(look 11)", "(look 11, test files too)", "(list 10)", "(look 11-elder)", "(handle 1)", "(map 1)", "(funcs 1)", "(called 1)", "(data 2)", "(zero 1)", "(deep 1)", "(pinned 1)"].any (endsIn · n))) &&
  (rows.isEmpty || !(lifts.contains "ownunsafe" || lifts.contains "roadunsafe") || lifts.contains "libbeside") &&
  (lifts.contains "ownunsafe" || !lifts.contains "libbeside") && (lifts.contains "libbeside" || !lifts.contains "ownbeside")
theorem doorFits_lit (lifts : List String) : Tryd.prog.doorFits lifts = doorB doorLits lifts := by
  unfold Program.doorFits
  rw [doorRows_eq]
  rfl
def headNs : List Nat := [104, 97, 114, 110, 101, 115, 115, 32, 98, 57, 50, 99, 52, 100, 54, 54, 48, 50, 55, 53, 99, 102, 97, 101, 53, 48, 52, 102, 98, 101, 99, 99, 53, 48, 98, 50, 49, 49, 49, 98, 51, 54, 56, 98, 48, 55, 57, 99, 52, 55, 101, 48, 55, 53, 53, 50, 51, 52, 54, 98, 51, 102, 98, 51, 54, 99, 50, 53, 55, 101, 57, 57, 32, 99, 117, 116, 32, 97, 116, 32, 99, 104, 97, 110, 100, 108, 101, 114, 121, 47, 99, 104, 97, 110, 100, 108, 101, 114, 121, 108, 97, 119, 49, 48, 46, 80, 107, 103, 78, 97, 109, 101, 115]
def sumS : String := Rows.pkgNamesCard.stood.harness.2
set_option maxRecDepth 100000 in
theorem initOrder_eq : Tryd.prog.initOrder = String.ofList (headNs.map Char.ofNat) := by kernel_rfl
theorem chars_eq : Tryd.prog.initOrder.toList = headNs.map Char.ofNat := by rw [initOrder_eq, String.toList_ofList]
set_option maxRecDepth 100000 in
theorem words3 : (wordsSigns (headNs.map Char.ofNat)).take 3 = ["harness".toList, sumS.toList, "cut".toList] := by kernel_rfl
theorem words_all : ∃ rest, wordsSigns Tryd.prog.initOrder.toList = "harness".toList :: sumS.toList :: "cut".toList :: rest := by
  have h := words3
  rw [← chars_eq] at h
  generalize wordsSigns Tryd.prog.initOrder.toList = ws at h
  match ws, h with
  | a :: b :: c :: r, h =>
    simp only [List.take_succ_cons, List.take_zero, List.cons.injEq, and_true] at h
    exact ⟨r, by rw [h.1, h.2.1, h.2.2]⟩
theorem sum_signs : isSumSigns sumS.toList = true := by kernel_rfl
theorem behind_all (rest : List (List Char)) : behindMainWord ("harness".toList :: sumS.toList :: "cut".toList :: rest) = "cut".toList :: rest := by
  simp only [behindMainWord]
  rw [sum_signs]
  simp
theorem words_cut : ∃ rest, behindMainWord (wordsSigns Tryd.prog.initOrder.toList) = "cut".toList :: rest := by
  obtain ⟨rest, h⟩ := words_all
  exact ⟨rest, by rw [h]; exact behind_all rest⟩
def mainB : List (List Char) → Option (Bool × List Char)
  | h :: s :: _ => if !isSumSigns s then none else if h == "harness".toList then some (true, s) else if h == "ownmain".toList then some (false, s) else none
  | _ => none
theorem mainIs_eq (P : Program) : P.mainIs = mainB (wordsSigns P.initOrder.toList) := by
  unfold Program.mainIs mainB
  rfl
theorem mainB_all (rest : List (List Char)) : mainB ("harness".toList :: sumS.toList :: "cut".toList :: rest) = some (true, sumS.toList) := by
  simp only [mainB]
  rw [sum_signs]
  simp
theorem mainIs_sum : Tryd.prog.mainIs = some (true, sumS.toList) := by
  obtain ⟨rest, h⟩ := words_all
  rw [mainIs_eq, h]
  exact mainB_all rest
def headB (ws : List (List Char)) : List String := let r := stripLifts liftWords ws; if r.2.head? == some "cut".toList then r.1 else []
theorem headLifts_eq (P : Program) : P.headLifts = headB (behindMainWord (wordsSigns P.initOrder.toList)) := rfl
theorem headB_cut (rest : List (List Char)) : headB ("cut".toList :: rest) = [] := by kernel_rfl
theorem headLifts_nil : Tryd.prog.headLifts = [] := by
  obtain ⟨rest, h⟩ := words_cut
  rw [headLifts_eq, h]
  exact headB_cut rest
set_option maxRecDepth 100000 in
theorem laysLater_no : Tryd.prog.laysLater = false := by kernel_rfl
set_option maxRecDepth 100000 in
theorem bearsReflect_no : Tryd.prog.bearsReflect = false := by kernel_rfl
def enterB (later refl : Bool) (door : List String → Bool) : List (List Char) → Bool
  | c :: rest =>
    ((c == "gc".toList || c == "spec".toList) && (rest.isEmpty || rest.head? == some "stop".toList)) ||
    (c == "carried".toList && rest.take 2 == ["gc".toList, "cut".toList] && !later && !refl) ||
    ((stripLifts liftWords (c :: rest)).2.head? == some "cut".toList &&
      ((stripLifts liftWords (c :: rest)).1.contains "finals" || !later) && ((stripLifts liftWords (c :: rest)).1.contains "reflectrows" || !refl) &&
      ((stripLifts liftWords (c :: rest)).1.contains "reflectrows" || !(stripLifts liftWords (c :: rest)).1.contains "leanrows") &&
      door (stripLifts liftWords (c :: rest)).1)
  | [] => false
theorem mayEnter_eq (P : Program) : P.mayEnter = enterB P.laysLater P.bearsReflect P.doorFits (behindMainWord (wordsSigns P.initOrder.toList)) := by
  unfold Program.mayEnter enterB
  cases behindMainWord (wordsSigns P.initOrder.toList) <;> rfl
theorem enterB_cut (rest : List (List Char)) : enterB false false (doorB doorLits) ("cut".toList :: rest) = true := by kernel_rfl
theorem mayEnter_true : Tryd.prog.mayEnter = true := by
  obtain ⟨rest, h⟩ := words_cut
  have hd : Tryd.prog.doorFits = doorB doorLits := funext doorFits_lit
  rw [mayEnter_eq, h, laysLater_no, bearsReflect_no, hd]
  exact enterB_cut rest
def finalB (l : List String) (ws : List (List Char)) : Bool := (ws.head? == some "carried".toList && ws.take 3 != ["carried".toList, "gc".toList, "cut".toList]) || l.contains "finals"
theorem liftsFinal_eq (P : Program) : P.liftsFinal = finalB P.headLifts (behindMainWord (wordsSigns P.initOrder.toList)) := rfl
theorem finalB_cut (rest : List (List Char)) : finalB [] ("cut".toList :: rest) = false := by kernel_rfl
theorem liftsFinal_no : Tryd.prog.liftsFinal = false := by
  obtain ⟨rest, h⟩ := words_cut
  rw [liftsFinal_eq, h, headLifts_nil]
  exact finalB_cut rest
def makeB (l : List String) : List (List Char) → Option Make
  | c :: rest => if c == "gc".toList || c == "spec".toList then some .whole else if c == "cut".toList || (c == "finals".toList && rest.head? == some "cut".toList) then some .cut else if c == "carried".toList then some .carried else if l.isEmpty then none else some (.lifted l)
  | [] => none
theorem make_eq (P : Program) : P.make = makeB P.headLifts (behindMainWord (wordsSigns P.initOrder.toList)) := by
  unfold Program.make makeB
  cases behindMainWord (wordsSigns P.initOrder.toList) <;> rfl
theorem makeB_cut (l : List String) (rest : List (List Char)) : makeB l ("cut".toList :: rest) = some .cut := by kernel_rfl
theorem make_cut : Tryd.prog.make = some .cut := by
  obtain ⟨rest, h⟩ := words_cut
  rw [make_eq, h]
  exact makeB_cut _ rest
theorem and_true_of {a b : Bool} (h1 : a = true) (h2 : b = true) : (a && b) = true := by rw [h1, h2]; rfl
end Go.Proofs.YtcpjignlhlcnpaaDoor
