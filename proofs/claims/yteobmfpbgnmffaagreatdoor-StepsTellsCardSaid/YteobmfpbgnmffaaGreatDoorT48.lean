/- PkLaid, StArgS, Enter -/
import Derived.Test.YteobmfpbgnmffaaGreatDoorT45
import Derived.Test.YteobmfpbgnmffaaGreatDoorT33
import Derived.Lay
import Derived.LaidMore
import Derived.Lib.LaidU8
import Derived.Test.YteobmfpbgnmffaaGreatDoorCards
import Derived.SevenTiedAt
set_option linter.unusedVariables false
set_option maxRecDepth 100000
set_option linter.unusedSimpArgs false
namespace Go.Proofs.YteobmfpbgnmffaaGreatDoor
section
open Go.ChangeShapes Go.WideShapes Go.ChangeAt Go.RowKit Go.WideMaps Go.WideElems
def qKN : List (String × DataW Unit) := [("unicode/utf8.acceptRanges", Rows.laid_unicode_utf8_acceptRanges), ("chandlery/span.ops", Rows.laid_chandlery_span_ops), ("chandlery/dep.words", Rows.laid_chandlery_dep_words), ("unicode/utf8.first", Rows.laid_unicode_utf8_first)]
def qTQ : List String := ["unicode/utf8.acceptRanges", "chandlery/dep.words", "unicode/utf8.first"]
noncomputable def qG0 (os : Os) : World := (World.doorLaid Tryz.prog 240 os).layVars Tryz.prog (qKN.filter fun x => qTQ.contains x.1)
theorem qIW (os : Os) : (qG0 os).os = os := World.layVars_os _ _ _
theorem qHS (os : Os) (args : Array Value) : laidMetH Tryz.prog qKN ((qG0 os).forCall (fun _ _ => 0) ⟨#[], args, []⟩).memory := by
  rw [MakeChecks.laidMetH_plain _ _ _ (by kernel_rfl)];exact laidMet_layVars qTQ [2, 11] rfl (by kernel_rfl) (by kernel_rfl) (LaidIn.of_run [2, 11] 8 (by kernel_rfl) (by kernel_rfl) (by kernel_rfl) (by kernel_rfl))
theorem gOps : Tryz.prog.globalNamed "chandlery/span.ops" = some 2 := by kernel_rfl
theorem tOps : (Tryz.prog.globals[2]?).map (·.type) = some 227 := by kernel_rfl
theorem gWds : Tryz.prog.globalNamed "chandlery/dep.words" = some 1 := by kernel_rfl
theorem tWds : (Tryz.prog.globals[1]?).map (·.type) = some 196 := by kernel_rfl
theorem qSX {W : World} (h : laidMet Tryz.prog qKN W) : qL9 W := by
  obtain ⟨g, t, cs, f, p, hg, ht, hv, hd⟩ := Lib.laidMet.reads h (n := "chandlery/span.ops") (d := Rows.laid_chandlery_span_ops) (by simp only [qKN, List.mem_cons]; right; left; trivial);obtain rfl := Option.some.inj (gOps.symm.trans hg);obtain rfl := Option.some.inj (tOps.symm.trans ht);rcases open_map Tryz.underlying227 hd with ⟨_, hx⟩ | ⟨bm, es, clock, m, rfl, hcs, hb, _, F, hx⟩
  · simp [Rows.laid_chandlery_span_ops] at hx
  simp only [Prod.mk.injEq] at hx;have hcell : W.cell? ⟨2, 0, none⟩ = some (.map (some bm)) := by
    have := World.var?_cell hg hv 0;rw [Array.eq_one_of_toList hcs] at this
    simpa using this
  have h0 := World.block_lt_of_cell? W _ hcell;have hbl : bm < W.heap.size := (Array.getElem?_eq_some_iff.1 hb).1;have hown := World.ownsMap_of_fit (R := plainElem Tryz.prog 5) hb F (fun x _ z hz => elemAt_plainElem_int Tryz.underlying5 hz);rw [<- hx.1] at hown;exact ⟨Nat.lt_of_le_of_lt (Nat.zero_le _) h0, bm, _, hcell, h0, hbl, hown⟩
theorem qHQ {P : Program} {w : World} {base : Nat} {sp : Nat -> Bool} {held : Bool} {fuel : Nat} {t e : TypeId} {n : Nat} {cs : List Value} {zs : List qAK} {p : List MemPlace} {H : Type} {enc : TypeId × Value -> H}
    (ht : P.underlying t = some (.array n e)) (he : P.underlying e = some .string) (hce : P.cellsOf e = 1) (hct : P.cellsOf t = n)
    (h : DataW.trod enc P w base sp held fuel t cs = some (.agg (zs.map fun z => .lit (.string z)), p)) : cs = zs.map fun z => Value.string (bs z) := by
  cases fuel with
  | zero => simp [DataW.trod] at h
  | succ fuel =>
    simp only [DataW.trod, ht, hce, hct, Nat.mul_one] at h;split at h
    · rename_i hl
      obtain ⟨xs, hm, hx⟩ := Option.map_eq_some_iff.1 h;have hxs : xs.map (·.1) = zs.map fun z => (DataW.lit (.string z) : DataW H) := by
        have := congrArg Prod.fst hx
        simpa using this
      have hxl : xs.length = n := by simpa using Lib.mapM_length hm
      have hzl : zs.length = n := by
        have := congrArg List.length hxs;simp at this;omega
      apply List.ext_getElem?;intro i;by_cases hi : i < n
      · obtain ⟨b, hb, hf⟩ := Lib.mapM_at hm i i (by simp [hi]);obtain ⟨s, hc, hd, _⟩ := DataW.trod_string he hf;have h1 : cs[i]? = some (.string s) := by
          have := congrArg (·[0]?) hc
          simpa [List.getElem?_take, List.getElem?_drop] using this
        have h2 : (xs.map (·.1))[i]? = some b.1 := by simp [hb]
        rw [hxs, hd] at h2;simp only [List.getElem?_map, Option.map_eq_some_iff, DataW.lit.injEq, Lit.string.injEq] at h2;obtain ⟨z', hz', e2⟩ := h2;rw [h1, List.getElem?_map, hz', Option.map_some, e2];rfl
      · rw [List.getElem?_eq_none (by omega), List.getElem?_eq_none (by simp; omega)]
    · cases h
theorem qNY {W : World} (h : laidMet Tryz.prog qKN W) : qGH W := by
  obtain ⟨g, t, cs, f, p, hg, ht, hv, hd⟩ := Lib.laidMet.reads h (n := "chandlery/dep.words") (d := Rows.laid_chandlery_dep_words) (by simp only [qKN, List.mem_cons]; right; right; left; trivial);obtain rfl := Option.some.inj (gWds.symm.trans hg);obtain rfl := Option.some.inj (tWds.symm.trans ht);have hcs : cs.toList = qDI.map fun z => Value.string (bs z) := qHQ Tryz.underlying196 Tryz.underlying9 (by kernel_rfl) (by kernel_rfl) hd;have hc : ∀ k, W.cell? ⟨1, k, none⟩ = (qDI.map fun z => Value.string (bs z))[k]? := fun k => by
    have := World.var?_cell hg hv k;rw [<- Array.getElem?_toList, hcs] at this
    simpa using this
  have h0 := World.block_lt_of_cell? W _ ((hc 0).trans rfl);exact ⟨h0, (hc 0).trans rfl, (hc 1).trans rfl, (hc 2).trans rfl, (hc 3).trans rfl, (hc 4).trans rfl, (hc 5).trans rfl, (hc 6).trans rfl⟩
theorem qU4 {W : World} (h : laidMetH Tryz.prog qKN W) : PkIn W := by
  rw [MakeChecks.laidMetH_plain _ _ _ (by kernel_rfl)] at h;exact ⟨qSX h, qNY h⟩
end
section
open Go.ChangeShapes Go.WideShapes Go.ChangeAt Go.RowKit
section
variable {H : Type} {enc : TypeId × Value -> H} {P : Program} {W : World} {held : Bool} {ti tu tS tT : TypeId} {a0 a1 : Field} {sp : Nat -> Bool}
theorem qOF {n : Nat} {cs : List Value} {x : DataW H × List MemPlace} (hs : P.underlying tS = some (.struct #[a0, a1])) (hA : (a0.type, a0.offset, a1.type, a1.offset) = (tu, 0, ti, 1)) (hi : P.underlying ti = some (.int .i64)) (hu : P.underlying tu = some (.int .u8)) (hC : (P.cellsOf tu == 1 && P.cellsOf ti == 1 && P.cellsOf tS == 2) = true)
    (h : DataW.trod enc P W 0 sp held n tS cs = some x) : ∃ d : Int × Int, cs = qBG d := by
  simp only [Bool.and_eq_true, beq_iff_eq] at hC;obtain ⟨⟨c1, c2⟩, c3⟩ := hC;obtain ⟨xs, m, _, hx, hl, hlen, hg⟩ := DataW.trod_struct hs h;have q0 := hg 0 a0 rfl;have q1 := hg 1 a1 rfl;simp only [Prod.mk.injEq] at hA
  match xs, hlen with
  | [y0, y1], _ =>
    rw [c3] at hl
    match cs, hl with
    | [v0, v1], _ =>
      simp only [hA, c1, c2, List.drop_zero, List.drop_succ_cons, List.take_succ_cons, List.take_zero] at q0 q1;obtain ⟨k0, e0, _, w0⟩ := DataW.trod_int hu (show DataW.trod enc P W 0 sp held m tu [v0] = some y0 from q0);obtain ⟨k1, e1, _, w1⟩ := DataW.trod_int hi (show DataW.trod enc P W 0 sp held m ti [v1] = some y1 from q1);cases e0; cases e1
      exact ⟨(k0, k1), rfl⟩
theorem qOV {r : Reach} {b0 : Nat} {v : Value} {d : DataW H} {p : List MemPlace} (hT : P.underlying tT = some (.slice tS)) (hs : P.underlying tS = some (.struct #[a0, a1])) (hA : (a0.type, a0.offset, a1.type, a1.offset) = (tu, 0, ti, 1)) (hi : P.underlying ti = some (.int .i64)) (hu : P.underlying tu = some (.int .u8)) (hC : (P.cellsOf tu == 1 && P.cellsOf ti == 1 && P.cellsOf tS == 2) = true) (hB : P.bytesOf tS ≠ 0)
    (hsz : ∀ m ∈ d.weights P tT, m <= reachBytes) (hval : Value.okWide P W r b0 tT v) (h : DataW.Trod enc P W 0 sp held tT v d p) : ∃ A cap, ∃ l : List (Int × Int), v = .slice A l.length cap /\ Rd qBG 2 W.heap.size A cap l W /\ l.length <= 1000000000000000 := by
  obtain ⟨a0, len, cap, rfl⟩ := okWide_slice hT hval;obtain ⟨fuel, hf⟩ := h;have hc : P.cellsOf tS = 2 := by
    simp only [Bool.and_eq_true, beq_iff_eq] at hC;exact hC.2
  obtain ⟨A, c, l, e, hr, hq, hw⟩ := qEE (encT := qBG) (Q := fun _ _ => True) hT hc (by decide) (fun m cs x _ h => by
    obtain ⟨k, e⟩ := qOF hs hA hi hu hC h;exact ⟨k, e, trivial⟩) hf
  simp [Value.cells] at e;obtain ⟨rfl, rfl, rfl⟩ := e;refine ⟨_, _, l, rfl, hr, ?_⟩;rcases Classical.em (l = []) with e | hne
  · rw [e]; simp
  · obtain ⟨m, hm, hle⟩ := hw hne;have h3 := hsz m hm;have h4 : l.length * 1 <= l.length * P.bytesOf tS := Nat.mul_le_mul_left _ (Nat.pos_of_ne_zero hB);unfold reachBytes at h3;omega
end
end
section
open Go
def qFK : List (List UInt8) := [[41, 49, 49, 32, 107, 111, 111, 108, 40, 32, 97, 116, 97, 100, 32, 110, 105, 97, 108, 112, 32, 44, 114, 101, 115, 105, 108, 97, 105, 116, 105, 110, 105, 32, 110, 119, 111, 32, 115, 116, 105, 32, 121, 98, 32, 100, 105, 97, 108, 32, 115, 105, 32, 115, 100, 114, 111, 119, 46, 112, 101, 100, 47, 121, 114, 101, 108, 100, 110, 97, 104, 99, 32, 58, 114, 111, 111, 100, 32, 115, 39, 114, 97, 118],
    [41, 49, 49, 32, 107, 111, 111, 108, 40, 32, 97, 116, 97, 100, 32, 110, 105, 97, 108, 112, 32, 44, 114, 101, 115, 105, 108, 97, 105, 116, 105, 110, 105, 32, 110, 119, 111, 32, 115, 116, 105, 32, 121, 98, 32, 100, 105, 97, 108, 32, 115, 105, 32, 115, 100, 110, 105, 107, 46, 104, 99, 105, 114, 47, 121, 114, 101, 108, 100, 110, 97, 104, 99, 32, 58, 114, 111, 111, 100, 32, 115, 39, 114, 97, 118],
    [41, 49, 32, 112, 97, 109, 40, 32, 116, 110, 101, 109, 101, 116, 97, 116, 115, 32, 97, 32, 121, 114, 116, 110, 101, 32, 110, 97, 32, 44, 115, 108, 97, 114, 101, 116, 105, 108, 32, 112, 97, 109, 32, 110, 119, 111, 32, 115, 116, 105, 32, 121, 98, 32, 100, 105, 97, 108, 32, 115, 105, 32, 115, 112, 111, 46, 110, 97, 112, 115, 47, 121, 114, 101, 108, 100, 110, 97, 104, 99, 32, 58, 114, 111, 111, 100, 32, 115, 39, 114, 97, 118],
    [41, 111, 111, 116, 32, 115, 101, 108, 105, 102, 32, 116, 115, 101, 116, 32, 44, 49, 49, 32, 107, 111, 111, 108, 40, 32, 100, 114, 111, 119, 115, 114, 97, 118, 116, 117, 99, 32, 119, 111, 114, 32, 115, 39, 116, 115, 101, 102, 105, 110, 97, 109, 32, 101, 104, 116, 32, 101, 101, 115, 32, 59, 101, 110, 111, 108, 97, 32, 115, 114, 101, 115, 105, 108, 97, 105, 116, 105, 110, 105, 32, 115, 100, 108, 111, 104, 32, 115, 114, 97, 118, 46, 116, 117, 99, 46, 109, 101, 115, 111, 103, 32, 58, 114, 111, 111, 100, 32, 115, 39, 114, 97, 118],
    [41, 49, 49, 32, 107, 111, 111, 108, 40, 32, 116, 111, 111, 114, 32, 115, 39, 121, 114, 111, 116, 105, 115, 111, 112, 101, 114, 32, 101, 104, 116, 32, 115, 97, 32, 100, 101, 109, 97, 110, 32, 114, 101, 108, 108, 97, 99, 32, 101, 104, 116, 32, 116, 97, 104, 116, 32, 114, 101, 100, 108, 111, 102, 32, 101, 104, 116, 32, 114, 101, 118, 111, 32, 116, 110, 101, 119, 32, 115, 114, 97, 118, 46, 116, 117, 99, 46, 109, 101, 115, 111, 103, 32, 102, 111, 32, 107, 111, 111, 108, 32, 101, 104, 116, 32, 58, 114, 111, 111, 100, 32, 115, 39, 114, 97, 118],
    [41, 49, 49, 32, 107, 111, 111, 108, 40, 32, 97, 116, 97, 100, 32, 110, 105, 97, 108, 112, 32, 44, 114, 101, 115, 105, 108, 97, 105, 116, 105, 110, 105, 32, 110, 119, 111, 32, 115, 116, 105, 32, 121, 98, 32, 100, 105, 97, 108, 32, 115, 105, 32, 115, 101, 103, 110, 97, 82, 116, 112, 101, 99, 99, 97, 46, 56, 102, 116, 117, 47, 101, 100, 111, 99, 105, 110, 117, 32, 58, 114, 111, 111, 100, 32, 115, 39, 114, 97, 118],
    [41, 49, 32, 100, 101, 110, 110, 105, 112, 40, 32, 101, 110, 111, 108, 97, 32, 116, 120, 101, 116, 32, 115, 116, 105, 32, 121, 98, 32, 100, 105, 97, 108, 32, 115, 105, 32, 116, 115, 114, 105, 102, 46, 56, 102, 116, 117, 47, 101, 100, 111, 99, 105, 110, 117, 32, 58, 114, 111, 111, 100, 32, 115, 39, 114, 97, 118]]
theorem qKU : Tryz.prog.doorRows = qFK := by kernel_rfl
def qUR (rows : List (List UInt8)) (lifts : List String) : Bool :=
  !((rows.any fun n => ["(look 8)", "(look 8, test files too)", "(list 7)", "(look 7)"].any (endsIn · n)) &&
    (lifts.contains "libbeside" || lifts.contains "reflbeside" || lifts.contains "aliases" || lifts.contains "afterinit" || lifts.contains "crcplain" ||
     rows.any fun n => ["(look 11)", "(look 11, test files too)", "(list 10)", "(look 11-elder)", "(handle 1)", "(map 1)", "(funcs 1)", "(called 1)", "(data 2)", "(zero 1)", "(deep 1)", "(pinned 1)"].any (endsIn · n))) &&
  (rows.isEmpty || !(lifts.contains "ownunsafe" || lifts.contains "roadunsafe") || lifts.contains "libbeside") &&
  (lifts.contains "ownunsafe" || !lifts.contains "libbeside") && (lifts.contains "libbeside" || !lifts.contains "ownbeside")
theorem qJL (lifts : List String) : Tryz.prog.doorFits lifts = qUR qFK lifts := by
  unfold Program.doorFits;rw [qKU];rfl
def qQ1 : List Nat := [104, 97, 114, 110, 101, 115, 115, 32, 53, 50, 57, 50, 55, 101, 102, 56, 98, 102, 55, 51, 55, 53, 99, 57, 56, 54, 49, 56, 55, 52, 51, 102, 48, 99, 98, 51, 54, 102, 50, 48, 53, 99, 53, 56, 54, 54, 101, 48, 101, 100, 100, 53, 98, 97, 48, 100, 48, 51, 52, 53, 56, 51, 53, 55, 54, 53, 99, 48, 48, 101, 102, 100, 32, 99, 117, 116, 32, 97, 116, 32, 99, 104, 97, 110, 100, 108, 101, 114, 121, 47, 99, 104, 97, 110, 100, 108, 101, 114, 121, 108, 97, 119, 49, 48, 46, 80, 107, 103, 67, 111, 112, 105, 101, 115, 32, 99, 104, 97, 110, 100, 108, 101, 114, 121, 47, 99, 104, 97, 110, 100, 108, 101, 114, 121, 108, 97, 119, 51, 48, 46, 83, 116, 101, 112, 115, 84, 101, 108, 108, 115, 32, 99, 104, 97, 110, 100, 108, 101, 114, 121, 47, 99, 104, 97, 110, 100, 108, 101, 114, 121, 108, 97, 119, 51, 48, 46, 83, 116, 101, 112, 115, 78, 97, 109, 101, 115, 32, 99, 104, 97, 110, 100, 108, 101, 114, 121, 47, 99, 104, 97, 110, 100, 108, 101, 114, 121, 108, 97, 119, 49, 52, 46, 84, 114, 117, 116, 104, 77, 111, 114, 101, 32, 99, 104, 97, 110, 100, 108, 101, 114, 121, 47, 99, 104, 97, 110, 100, 108, 101, 114, 121, 108, 97, 119, 49, 52, 46, 84, 114, 117, 116, 104, 84, 117, 114, 110, 101, 100, 32, 99, 104, 97, 110, 100, 108, 101, 114, 121, 47, 99, 104, 97, 110, 100, 108, 101, 114, 121, 108, 97, 119, 49, 52, 46, 84, 114, 117, 116, 104, 80, 114, 111, 118, 105, 100, 101, 114, 115, 32, 99, 104, 97, 110, 100, 108, 101, 114, 121, 47, 99, 104, 97, 110, 100, 108, 101, 114, 121, 108, 97, 119, 49, 52, 46, 84, 114, 117, 116, 104, 84, 101, 108, 108, 115, 32, 99, 104, 97, 110, 100, 108, 101, 114, 121, 47, 99, 104, 97, 110, 100, 108, 101, 114, 121, 108, 97, 119, 49, 52, 46, 84, 114, 117, 116, 104, 78, 97, 109, 101, 115, 32, 99, 104, 97, 110, 100, 108, 101, 114, 121, 47, 99, 104, 97, 110, 100, 108, 101, 114, 121, 108, 97, 119, 49, 52, 46, 84, 114, 117, 116, 104, 79, 110, 101]
def sumS : String := Rows.pkgCopiesCard.stood.harness.2
theorem qJH : Tryz.prog.initOrder = String.ofList (qQ1.map Char.ofNat) := by kernel_rfl
theorem qSV : Tryz.prog.initOrder.toList = qQ1.map Char.ofNat := by rw [qJH, String.toList_ofList]
theorem qV7 : (wordsSigns (qQ1.map Char.ofNat)).take 3 = ["harness".toList, sumS.toList, "cut".toList] := by kernel_rfl
theorem qIP : ∃ rest, wordsSigns Tryz.prog.initOrder.toList = "harness".toList :: sumS.toList :: "cut".toList :: rest := by
  have h := qV7;rw [<- qSV] at h;generalize wordsSigns Tryz.prog.initOrder.toList = ws at h
  match ws, h with
  | a :: b :: c :: r, h =>
    simp only [List.take_succ_cons, List.take_zero, List.cons.injEq, and_true] at h;exact ⟨r, by rw [h.1, h.2.1, h.2.2]⟩
theorem qIO : isSumSigns sumS.toList = true := by kernel_rfl
theorem qNH (rest : List (List Char)) : behindMainWord ("harness".toList :: sumS.toList :: "cut".toList :: rest) = "cut".toList :: rest := by
  simp only [behindMainWord];rw [qIO];simp
theorem qEJ : ∃ rest, behindMainWord (wordsSigns Tryz.prog.initOrder.toList) = "cut".toList :: rest := by
  obtain ⟨rest, h⟩ := qIP;exact ⟨rest, by rw [h]; exact qNH rest⟩
def qRI : List (List Char) -> Option (Bool × List Char)
  | h :: s :: _ => if !isSumSigns s then none else if h == "harness".toList then some (true, s) else if h == "ownmain".toList then some (false, s) else none
  | _ => none
theorem qPS (P : Program) : P.mainIs = qRI (wordsSigns P.initOrder.toList) := by
  unfold Program.mainIs qRI;rfl
theorem qQK (rest : List (List Char)) : qRI ("harness".toList :: sumS.toList :: "cut".toList :: rest) = some (true, sumS.toList) := by
  simp only [qRI];rw [qIO];simp
theorem qMY : Tryz.prog.mainIs = some (true, sumS.toList) := by
  obtain ⟨rest, h⟩ := qIP;rw [qPS, h];exact qQK rest
def qW0 (ws : List (List Char)) : List String := let r := stripLifts liftWords ws; if r.2.head? == some "cut".toList then r.1 else []
theorem qJ7 (P : Program) : P.headLifts = qW0 (behindMainWord (wordsSigns P.initOrder.toList)) := rfl
theorem qOY (rest : List (List Char)) : qW0 ("cut".toList :: rest) = [] := by kernel_rfl
theorem qHT : Tryz.prog.headLifts = [] := by
  obtain ⟨rest, h⟩ := qEJ;rw [qJ7, h];exact qOY rest
theorem qK4 : Tryz.prog.laysLater = false := by kernel_rfl
theorem qGV : Tryz.prog.bearsReflect = false := by kernel_rfl
def qQW (later refl : Bool) (door : List String -> Bool) : List (List Char) -> Bool
  | c :: rest =>
    ((c == "gc".toList || c == "spec".toList) && (rest.isEmpty || rest.head? == some "stop".toList)) ||
    (c == "carried".toList && rest.take 2 == ["gc".toList, "cut".toList] && !later && !refl) ||
    ((stripLifts liftWords (c :: rest)).2.head? == some "cut".toList &&
      ((stripLifts liftWords (c :: rest)).1.contains "finals" || !later) && ((stripLifts liftWords (c :: rest)).1.contains "reflectrows" || !refl) &&
      ((stripLifts liftWords (c :: rest)).1.contains "reflectrows" || !(stripLifts liftWords (c :: rest)).1.contains "leanrows") &&
      door (stripLifts liftWords (c :: rest)).1)
  | [] => false
theorem qKX (P : Program) : P.mayEnter = qQW P.laysLater P.bearsReflect P.doorFits (behindMainWord (wordsSigns P.initOrder.toList)) := by
  unfold Program.mayEnter qQW;cases behindMainWord (wordsSigns P.initOrder.toList) <;> rfl
theorem qMS (rest : List (List Char)) : qQW false false (qUR qFK) ("cut".toList :: rest) = true := by kernel_rfl
theorem qIA : Tryz.prog.mayEnter = true := by
  obtain ⟨rest, h⟩ := qEJ;have hd : Tryz.prog.doorFits = qUR qFK := funext qJL;rw [qKX, h, qK4, qGV, hd];exact qMS rest
def qTX (l : List String) (ws : List (List Char)) : Bool := (ws.head? == some "carried".toList && ws.take 3 != ["carried".toList, "gc".toList, "cut".toList]) || l.contains "finals"
theorem qHU (P : Program) : P.liftsFinal = qTX P.headLifts (behindMainWord (wordsSigns P.initOrder.toList)) := rfl
theorem qN3 (rest : List (List Char)) : qTX [] ("cut".toList :: rest) = false := by kernel_rfl
theorem qIC : Tryz.prog.liftsFinal = false := by
  obtain ⟨rest, h⟩ := qEJ;rw [qHU, h, qHT];exact qN3 rest
def qUD (l : List String) : List (List Char) -> Option Make
  | c :: rest => if c == "gc".toList || c == "spec".toList then some .whole else if c == "cut".toList || (c == "finals".toList && rest.head? == some "cut".toList) then some .cut else if c == "carried".toList then some .carried else if l.isEmpty then none else some (.lifted l)
  | [] => none
theorem qUO (P : Program) : P.make = qUD P.headLifts (behindMainWord (wordsSigns P.initOrder.toList)) := by
  unfold Program.make qUD;cases behindMainWord (wordsSigns P.initOrder.toList) <;> rfl
theorem qR2 (l : List String) (rest : List (List Char)) : qUD l ("cut".toList :: rest) = some .cut := by kernel_rfl
theorem qSS : Tryz.prog.make = some .cut := by
  obtain ⟨rest, h⟩ := qEJ;rw [qUO, h];exact qR2 _ rest
theorem qL6 {a b : Bool} (h1 : a = true) (h2 : b = true) : (a && b) = true := by rw [h1, h2]; rfl
