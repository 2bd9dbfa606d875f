/- BRows, TrMem, TrNew, TrLit -/
import Derived.Test.YteobmfpbgnmffaaGreatDoorTruthMoreRowG10
import Derived.Test.YteobmfpbgnmffaaGreatDoorTruthMoreRowG25
import Derived.Test.YteobmfpbgnmffaaGreatDoorTruthMoreRowG29
import Derived.Test.YteobmfpbgnmffaaGreatDoorTruthMoreRowG32
import Derived.Test.YteobmfpbgnmffaaGreatDoorTruthMoreRowG31
import Derived.Laws.MakeOwn
set_option linter.unusedSimpArgs false
set_option linter.unusedVariables false
namespace Go.Proofs.YteobmfpbgnmffaaGreatDoor
section
/- A row of bools that a call has made. -/



open Go.RowKit Go.Shelf
set_option linter.unusedVariables false

theorem run_make_rowN {P : Program} (t e : TypeId) (i : TypeInfo) (z : Value) (ht : P.underlying t = some (.slice e)) (hi : P.info? e = some i) (hz : i.zero = some z)
    (kl kc : IntKind) (n : Nat) (hbytes : i.bytes * n ≤ 281474976710656) (h63 : n ≤ 9223372036854775807) (w : World) :
    (Instr.makeSlice t (.int kl (n : Int)) (.int kc (n : Int))).run P w = .ok (.slice (some ⟨w.heap.size, 0, none⟩) n n) (w.alloc (.cells (madeCells z.cells (n * i.size)) e)) := by
  have hb : (i.bytes : Int) * (n : Int) ≤ 281474976710656 := by
    have h : ((i.bytes * n : Nat) : Int) ≤ 281474976710656 := by omega
    rwa [Int.natCast_mul] at h
  have hr := run_make (P := P) w t e i z ht hi hz kl kc n n (by omega) (by omega) hb (by omega)
  simp only [Int.toNat_natCast] at hr
  exact hr
theorem infoBool : (Tryz.prog.info? 4).map (fun i => (i.zero, i.size, i.bytes)) = some (some (.bool false), 1, 1) := by kernel_rfl
theorem make_bools (n : Nat) (hn : n ≤ 1000000) (w : World) : (Instr.makeSlice 131 (.int .i64 (n : Int)) (.int .i64 (n : Int))).run Tryz.prog w = .ok (.slice (some ⟨w.heap.size, 0, none⟩) n n) (w.alloc (.cells (madeCells #[.bool false] n) 4)) := by
  obtain ⟨i0, hi, hz0, hz1, hz2⟩ := info_parts infoBool
  have h := run_make_rowN (P := Tryz.prog) 131 4 i0 (.bool false) Tryz.underlying131 hi hz0 .i64 .i64 n (by rw [hz2]; omega) (by omega) w
  rw [hz1, Nat.mul_one] at h
  exact h
/-- a row of bools -/
def BRow (rb n : Nat) (f : Nat → Bool) (W : World) : Prop := ∀ i, i < n → W.cell? ⟨rb, i, none⟩ = some (.bool (f i)) ∧ W.frozen? ⟨rb, i, none⟩ = false
theorem BRow.then {rb n : Nat} {f : Nat → Bool} {W W' : World} (h : BRow rb n f W) (hb : Below W.heap.size W W') : BRow rb n f W' := fun i hi => by
  obtain ⟨h1, h2⟩ := h i hi
  have hl := World.block_lt_of_cell? W _ h1
  exact ⟨(hb.cell hl).trans h1, (hb.frozen hl).trans h2⟩
theorem BRow.made (n : Nat) (W : World) (t : TypeId) : BRow W.heap.size n (fun _ => false) (W.alloc (.cells (madeCells #[.bool false] n) t)) := fun i hi =>
  ⟨(World.cell?_alloc_at _ _ _ _ rfl).trans (by simp [madeCells, hi, Nat.mod_one]), by simp [go_sem]⟩
theorem BRow.set {rb n : Nat} {f : Nat → Bool} {W : World} (h : BRow rb n f W) {k : Nat} (hk : k < n) (b : Bool) : BRow rb n (fun i => if i = k then b else f i) (W.setCell ⟨rb, k, none⟩ (.bool b)) := fun i hi => by
  refine ⟨?_, (World.frozen?_setCell _ _ _ _).trans (h i hi).2⟩
  show _ = some (Value.bool (if i = k then b else f i))
  by_cases e : i = k
  · subst e; rw [if_pos rfl]; exact sc_same (h i hi).1
  · rw [if_neg e]
    exact (sc_other (fun h2 => e (by simp only [Addr.mk.injEq] at h2; exact h2.2.1.symm))).trans (h i hi).1
theorem BRow.congr {rb n : Nat} {f f' : Nat → Bool} {W : World} (h : BRow rb n f W) (hf : ∀ i, i < n → f i = f' i) : BRow rb n f' W := fun i hi => by rw [← hf i hi]; exact h i hi
end
section
/- The truth of a pool as it lies; what is asked of a state (truth.state). -/





open Go.RowKit Go.Shelf
set_option linter.unusedVariables false

/-- the truth of a pool: its index, and how many packages there are -/
structure TruthAt (T X N : Nat) (L : List Pk) (W : World) : Prop where
  lt : T < W.heap.size
  c0 : W.cell? ⟨T, 0, none⟩ = some (.pointer (some ⟨X, 0, none⟩))
  c1 : W.cell? ⟨T, 1, none⟩ = some (.int .i64 (N : Int))
  ix : IndexAt X L (idxF L) W
  len : L.length = N
  may : ∀ q ∈ L, mayP q = true
  hN : N ≤ 1000
theorem TruthAt.then {T X N : Nat} {L : List Pk} {W W' : World} (h : TruthAt T X N L W) (hb : Below W.heap.size W W') : TruthAt T X N L W' :=
  { h with lt := Nat.lt_of_lt_of_le h.lt hb.size, c0 := (hb.cell (p := ⟨T, 0, none⟩) h.lt).trans h.c0, c1 := (hb.cell (p := ⟨T, 1, none⟩) h.lt).trans h.c1, ix := h.ix.then hb }
def askW (T rb N : Nat) : Value := .agg #[.pointer (some ⟨T, 0, none⟩), .slice (some ⟨rb, 0, none⟩) N N]
/-- what is asked of a state, as it lies -/
structure AskT (T X N rb : Nat) (L : List Pk) (f : Nat → Bool) (W : World) : Prop where
  tr : TruthAt T X N L W
  hr : rb < W.heap.size
  row : BRow rb N f W
theorem AskT.then {T X N rb : Nat} {L : List Pk} {f : Nat → Bool} {W W' : World} (h : AskT T X N rb L f W) (hb : Below W.heap.size W W') : AskT T X N rb L f W' := ⟨h.tr.then hb, Nat.lt_of_lt_of_le h.hr hb.size, h.row.then hb⟩
structure StA (w : World) (T N : Nat) (f : Nat → Bool) (W : World) : Prop where
  old : Below w.heap.size w W
  r0 : W.cell? ⟨w.heap.size, 0, none⟩ = some (.pointer none)
  r1 : W.cell? ⟨w.heap.size, 1, none⟩ = some (.slice none 0 0)
  q0 : W.frozen? ⟨w.heap.size, 0, none⟩ = false
  q1 : W.frozen? ⟨w.heap.size, 1, none⟩ = false
  b0 : W.cell? ⟨w.heap.size + 1 + 1, 0, none⟩ = some (.pointer (some ⟨T, 0, none⟩))
  b1 : W.cell? ⟨w.heap.size + 1 + 1, 1, none⟩ = some (.slice (some ⟨w.heap.size + 1, 0, none⟩) N N)
  row : BRow (w.heap.size + 1) N f W
  sz : w.heap.size + 1 + 1 < W.heap.size
section
variable {w W : World} {T N : Nat} {f f' : Nat → Bool}
theorem StA.set (h : StA w T N f W) {k : Nat} (hk : k < N) : StA w T N (fun i => if i = k then true else f i) (W.setCell ⟨w.heap.size + 1, k, none⟩ (.bool true)) :=
  ⟨h.old.setCell (p := ⟨w.heap.size + 1, k, none⟩) (by simp) _, (sc_other (by simp)).trans h.r0, (sc_other (by simp)).trans h.r1, (World.frozen?_setCell _ _ _ _).trans h.q0, (World.frozen?_setCell _ _ _ _).trans h.q1, (sc_other (by simp)).trans h.b0, (sc_other (by simp)).trans h.b1, h.row.set hk true, by simp [World.setCell]; exact h.sz⟩
theorem StA.congr (h : StA w T N f W) (hf : ∀ i, i < N → f i = f' i) : StA w T N f' W := { h with row := h.row.congr hf }
end
theorem StA.start (w : World) (T N : Nat) : StA w T N (fun _ => false) (((w.alloc (.cells #[.pointer none, .slice none 0 0] 145)).alloc (.cells (madeCells #[.bool false] N) 4)).alloc (.cells #[.pointer (some ⟨T, 0, none⟩), .slice (some ⟨w.heap.size + 1, 0, none⟩) N N] 145)) := by
  have b := BRow.made N (w.alloc (.cells #[.pointer none, .slice none 0 0] 145)) 4
  rw [World.size_alloc] at b
  exact ⟨((Below.refl _ w).alloc (Nat.le_refl _) _).alloc (by simp) _ |>.alloc (by simp; omega) _, by simp [go_sem], by simp [go_sem], by simp [go_sem], by simp [go_sem], by simp [go_sem], by simp [go_sem], b.then ((Below.refl _ _).alloc (Nat.le_refl _) _), by simp⟩
theorem brow_set2 {rb n : Nat} {f : Nat → Bool} {W : World} (h : BRow rb n f W) {b : Nat} (hb : rb ≠ b) (u v : Value) : BRow rb n f ((W.setCell ⟨b, 0, none⟩ u).setCell ⟨b, 1, none⟩ v) := fun i hi =>
  ⟨(sc_other (by intro e; simp only [Addr.mk.injEq] at e; omega)).trans ((sc_other (by intro e; simp only [Addr.mk.injEq] at e; omega)).trans (h i hi).1), ((World.frozen?_setCell _ _ _ _).trans (World.frozen?_setCell _ _ _ _)).trans (h i hi).2⟩
theorem inS_succ {S : List Int} {j : Nat} (h : j < S.length) (k : Nat) : St.inS (S.take (j + 1)) k = (St.inS (S.take j) k || (S[j] == (k : Int))) := by
  rw [List.take_succ_eq_append_getElem h]; unfold St.inS; rw [List.any_append]; simp
set_option maxRecDepth 100000 in
set_option maxHeartbeats 16000000 in
theorem state_any {T X N : Nat} {L : List Pk} {w : World} (hT : TruthAt T X N L w) (A : Option Addr) (c : Nat) (S : List Int) (hS : Rd encI 1 w.heap.size A c S w) : Calls Tryz.prog 94 #[.pointer (some ⟨T, 0, none⟩), .slice A S.length c] w fun e w' => ∃ rb, e = .returned (askW T rb N) ∧ AskT T X N rb L (St.inS S) w' ∧ w.heap.size ≤ rb ∧ Below w.heap.size w w' := by
  have HT := Lib.hid (fun W (hb : Below w.heap.size w W) => hT.then hb)
  have HS := Lib.hid hS
  have hml := hS.len
  have hN := hT.hN
  have c1 := hT.c1
  have hlt := hT.lt
  have HIS := Lib.hid (fun (j : Nat) (h : j < S.length) => inS_succ h)
  have HTK := Lib.hid (show S.take S.length = S from List.take_length)
  obtain ⟨m, hm⟩ : ∃ m, m = S.length := ⟨_, rfl⟩
  rw [← hm] at hml HTK ⊢
  have HM := Lib.hid hm
  have mk := make_bools N (by omega)
  clear hT hS hm
  go_enter Tryz.func94, Tryz.ntmps94
  go_wp2_with fail
  have SA := Lib.hid (StA.start w T N)
  have HLT := Lib.hid hlt
  clear hlt c1 mk
  go_loopw [17] (fun iv wr => ∃ j : Nat, j ≤ m ∧ iv = .int .i64 (j : Int) ∧ StA w T N (St.inS (S.take j)) wr) (fun iv _ => m - (intOf iv).toNat)
  case atStart => exact ⟨0, Nat.zero_le _, rfl, SA.out.congr fun i _ => rfl⟩
  case round =>
    obtain ⟨j, hj, rfl, hA⟩ := hrel
    rename World => wr
    have SR := Lib.hid hA
    clear SA hA
    have c1 := (HT.out wr SR.out.old).c1
    by_cases hlt : j < m
    · have hjl : j < S.length := by have := HM.out; omega
      obtain ⟨b, o, hA, hb, e0⟩ := ((HS.out.below SR.out.old).more SR.out.old.size).int_at hjl
      have HI := Lib.hid (HIS.out j hjl)
      generalize S[j] = z at *
      have i0' : (0 : Int) ≤ (j : Int) := by omega
      have i1 : (j : Int) < (m : Int) := by omega
      rw [hA]
      clear hA hjl
      by_cases hz0 : 0 ≤ z
      · by_cases hzn : z < (N : Int)
        · obtain ⟨k, rfl⟩ : ∃ k : Nat, z = (k : Int) := ⟨z.toNat, by omega⟩
          have hk : k < N := by omega
          have b0 := SR.out.b0
          have b1 := SR.out.b1
          obtain ⟨r0, rf⟩ := SR.out.row k hk
          have S2 := Lib.hid ((SR.out.set hk).congr (f' := St.inS (S.take (j + 1))) fun i _ => by
            rw [HI.out]
            by_cases e : i = k
            · subst e; simp
            · rw [if_neg e, show ((k : Int) == (i : Int)) = false from beq_eq_false_iff_ne.2 (by omega), Bool.or_false])
          go_wp2_with fail
          go_roundw
          case rel => exact ⟨j + 1, by omega, by go_num, S2.out⟩
          case measure => simp [intOf]; omega
        · have S2 := Lib.hid (SR.out.congr (f' := St.inS (S.take (j + 1))) fun i hi => by
            rw [HI.out, show (z == (i : Int)) = false from beq_eq_false_iff_ne.2 (by omega), Bool.or_false])
          go_wp2_with fail
          go_roundw
          case rel => exact ⟨j + 1, by omega, by go_num, S2.out⟩
          case measure => simp [intOf]; omega
      · have S2 := Lib.hid (SR.out.congr (f' := St.inS (S.take (j + 1))) fun i hi => by
          rw [HI.out, show (z == (i : Int)) = false from beq_eq_false_iff_ne.2 (by omega), Bool.or_false])
        go_wp2_with fail
        go_roundw
        case rel => exact ⟨j + 1, by omega, by go_num, S2.out⟩
        case measure => simp [intOf]; omega
    · obtain rfl : j = m := by omega
      have i1 : ¬ (j : Int) < (j : Int) := by omega
      have OK := Lib.hid (show StA w T N (St.inS S) wr from HTK.out ▸ SR.out)
      have TR := Lib.hid (HT.out _ OK.out.old)
      clear SR HTK
      obtain ⟨hold, r0, r1, q0, q1, b0, b1, hrow, hsz⟩ := OK.out
      have E := Lib.hid ((hold.setCell (p := ⟨w.heap.size, 0, none⟩) (Nat.le_refl _) (.pointer (some ⟨T, 0, none⟩))).setCell (p := ⟨w.heap.size, 1, none⟩) (Nat.le_refl _) (.slice (some ⟨w.heap.size + 1, 0, none⟩) N N))
      have TE := Lib.hid (HT.out _ E.out)
      have RE := Lib.hid (brow_set2 hrow (b := w.heap.size) (by omega) (.pointer (some ⟨T, 0, none⟩)) (.slice (some ⟨w.heap.size + 1, 0, none⟩) N N))
      clear hold hrow
      go_wp2_with fail
      refine bodyPost_ret (v := askW T (w.heap.size + 1) N) (by simp [askW, results, Tryz.results94, go_sem, r0, r1, q0, q1, b0, b1]) rfl ?_
      exact ⟨w.heap.size + 1, rfl, ⟨TE.out, by simp [World.setCell]; omega, RE.out⟩, by omega, E.out⟩
end
section
/- Walk: the truth of a pool (truth.New). -/



open Go.RowKit Go.Shelf
set_option linter.unusedVariables false

set_option maxRecDepth 100000 in
set_option maxHeartbeats 16000000 in
theorem truthnew_any {P : Nat} {I : Int} {L : List Pr} {w : World} (hp : Pool P I L w) (hn : L.length ≤ 1000) : Calls Tryz.prog 50 #[.pointer (some ⟨P, 0, none⟩)] w fun e w' => ∃ (T X : Nat) (L2 : List Pk), e = .returned (.tuple #[.pointer (some ⟨T, 0, none⟩), .int .i64 0]) ∧ TruthAt T X L.length L2 w' ∧ AlikeL (L.map Pr.pk) L2 ∧ Below w.heap.size w w' := by
  have MN := Lib.hid (matchnew_any hp hn)
  have CNT := Lib.hid (fun W (hb : Below w.heap.size w W) => poolcount_any (hp.then hb).at_)
  have HN := Lib.hid hn
  have MY := Lib.hid (fun x (hx : x ∈ L) => (hp.may x hx).1)
  obtain ⟨n, hn9⟩ : ∃ n, n = L.length := ⟨_, rfl⟩
  rw [← hn9] at CNT HN ⊢
  have HN9 := Lib.hid hn9
  clear hp hn hn9
  go_enter Tryz.func50, Tryz.ntmps50
  go_wp2_with fail
  go_at_call 107
  refine MN.out.mono ?_
  rintro en W1 ⟨X, L2, rfl, hix, hal, hXl, h⟩
  have B1 := Lib.hid h
  have IX := Lib.hid hix
  have AL := Lib.hid hal
  have CN := Lib.hid (CNT.out W1 h)
  clear h hix hal hXl MN CNT
  go_wp2_with fail
  go_at_call 61
  refine CN.out.mono ?_
  rintro en W2 ⟨rfl, h⟩
  have B2 := Lib.hid (B1.out.trans (h.mono B1.out.size))
  have IX2 := Lib.hid (IX.out.then h)
  clear h B1 IX CN
  have BA := Lib.hid ((Below.refl W2.heap.size W2).alloc (Nat.le_refl _) (.cells #[.pointer (some ⟨X, 0, none⟩), .int .i64 (n : Int)] 149))
  go_wp2_with fail
  refine bodyPost_ret (v := .tuple #[.pointer (some ⟨W2.heap.size, 0, none⟩), .int .i64 0]) (by simp [results, Tryz.results50, go_sem]) rfl ?_
  have hlen : L2.length = n := by rw [AL.out.1, List.length_map]; exact HN9.out.symm
  exact ⟨W2.heap.size, X, L2, rfl, ⟨by simp, by simp [go_sem], by simp [go_sem], IX2.out.then BA.out, hlen, fun q hq => by
    obtain ⟨i, hi, rfl⟩ := List.getElem_of_mem hq
    have hi2 : i < (L.map Pr.pk).length := by rw [← AL.out.1]; exact hi
    rw [(AL.out.2 i hi2 hi).may, List.getElem_map]
    exact MY.out _ (List.getElem_mem (by rw [List.length_map] at hi2; exact hi2)), HN.out⟩, AL.out, B2.out.trans (BA.out.mono B2.out.size)⟩
end
section
/- Packages and rows that are laid as literals; the two packages of the examples. -/




open Go.RowKit Go.Shelf
set_option linter.unusedVariables false

/-- a row that is laid as a literal -/
theorem rd_litT {α : Type} {enc : α → List Value} {size : Nat} (he : ∀ x, (enc x).length = size) (l : List α) (W : World) (t : TypeId) (hl : l.length ≤ 1000) : Rd enc size (W.alloc (.cells (l.flatMap enc).toArray t)).heap.size (some ⟨W.heap.size, 0, none⟩) l.length l (W.alloc (.cells (l.flatMap enc).toArray t)) := by
  refine ⟨Nat.le_refl _, by unfold maxLen; omega, fun k hk => ⟨W.heap.size, 0, rfl, by simp, fun j u hu => ?_⟩⟩
  have hj : j < size := by
    have := (List.getElem?_eq_some_iff.1 hu).1
    rw [he] at this
    exact this
  rw [World.cell?_alloc_at _ _ _ _ rfl]
  have h3 := flatMap_at enc size he l k hk j hj
  rw [hu] at h3
  simpa using h3
theorem prow_litT (l : List Pk) (W : World) (t : TypeId) (hl : l.length ≤ 1000) (hL : ∀ p ∈ l, p.Laid W.heap.size W) : PRow (W.alloc (.cells (l.flatMap Pk.cells).toArray t)).heap.size (W.alloc (.cells (l.flatMap Pk.cells).toArray t)) (some ⟨W.heap.size, 0, none⟩) l.length l :=
  ⟨rd_litT cells_len l W t hl, fun p hp => ((hL p hp).below ((Below.refl _ W).alloc (Nat.le_refl _) _)).more (by simp)⟩
theorem rprow_litT (r : Rp) (W : World) (t : TypeId) (h : PRow W.heap.size W r.A r.c r.pk) (hw : (Lit.int .i64 r.prio).wf = true) (hc : r.pk.length ≤ 1000000000000000) : RpRow (W.alloc (.cells r.cells.toArray t)).heap.size (W.alloc (.cells r.cells.toArray t)) (some ⟨W.heap.size, 0, none⟩) 1 [r] := by
  have hrd := rd_litT (enc := Rp.cells) rcells_len [r] W t (by simp)
  rw [show ([r].flatMap Rp.cells).toArray = r.cells.toArray by simp] at hrd
  refine ⟨hrd, fun x hx => ?_, fun x hx => ?_, fun x hx => ?_⟩ <;> obtain rfl := List.mem_singleton.1 hx
  · exact (h.below ((Below.refl _ W).alloc (Nat.le_refl _) _)).more (by simp)
  · exact hw
  · exact hc
theorem nil_rrowT (B : Nat) (W : World) : RRow B W none 0 [] := ⟨Rd.nil_ (Nat.zero_le _), fun t ht => by cases ht⟩
def dpT (b : UInt8) : Dp := ⟨[b], 0, ⟨0, [], []⟩⟩
def pkT (n : ByteArray) (A : Option Addr) (l : List Dp) : Pk := { name := n, epoch := 0, ver := ⟨#[49]⟩, rel := ⟨#[49]⟩, arch := 1, vendor := ⟨#[]⟩, provA := A, provC := l.length, prov := l, reqA := none, reqC := 0, req := [], conA := none, conC := 0, con := [], obsA := none, obsC := 0, obs := [], rcmA := none, rcmC := 0, rcm := [], supA := none, supC := 0, sup := [], sugA := none, sugC := 0, sug := [], enhA := none, enhC := 0, enh := [], filesA := none, filesC := 0, files := [] }
theorem dpT_wf (b : UInt8) : (dpT b).wf := ⟨by show 1 ≤ maxLen; decide, rfl, rfl, Nat.zero_le _, Nat.zero_le _⟩
theorem pkT_laid {n : ByteArray} {A : Option Addr} {l : List Dp} {W : World} (hn : n.size ≤ maxLen) (h : Rd encD 5 W.heap.size A l.length l W) (hw : ∀ d ∈ l, d.wf) : (pkT n A l).Laid W.heap.size W :=
  { ar := rfl, ep := rfl, n0 := hn, n1 := by show (⟨#[49]⟩ : ByteArray).size ≤ maxLen; decide, n2 := by show (⟨#[49]⟩ : ByteArray).size ≤ maxLen; decide, n3 := by show (⟨#[]⟩ : ByteArray).size ≤ maxLen; decide, prov := h, provW := hw, obs := Rd.nil_ (Nat.zero_le _), obsW := (fun d hd => by cases hd), files := Rd.nil_ (Nat.zero_le _), filesW := (fun d hd => by cases hd), req := nil_rrowT _ _, con := nil_rrowT _ _, rcm := nil_rrowT _ _, sup := nil_rrowT _ _, sug := nil_rrowT _ _, enh := nil_rrowT _ _ }
theorem pkT_deep {n : ByteArray} {A : Option Addr} {l : List Dp} (hl : l.length ≤ 10) : (pkT n A l).deepOk ∧ (pkT n A l).few := by
  refine ⟨fun x hx t ht => ?_, ?_⟩
  · simp only [LS, pkT, List.mem_cons, List.not_mem_nil, or_false] at hx
    rcases hx with rfl | rfl | rfl | rfl | rfl | rfl <;> cases ht
  · exact ⟨by simp only [pkT]; omega, by simp [pkT], by simp [pkT], by simp [pkT, partsL, treeL], by simp [pkT, partsL, treeL], by simp [pkT, partsL, treeL], by simp [pkT, partsL, treeL], by simp [pkT, partsL, treeL], by simp [pkT, partsL, treeL]⟩
def twoP (A B : Option Addr) : List Pk := [pkT ⟨#[97]⟩ A [dpT 120], pkT ⟨#[98]⟩ B [dpT 121, dpT 122]]
theorem two_may (A B : Option Addr) : ∀ x ∈ twoP A B, mayP x = true := by
  intro x hx
  simp only [twoP, List.mem_cons, List.not_mem_nil, or_false] at hx
  rcases hx with rfl | rfl
  · rw [show mayP (pkT ⟨#[97]⟩ A [dpT 120]) = mayP (pkT ⟨#[97]⟩ none [dpT 120]) from Alike.may (p := pkT ⟨#[97]⟩ none [dpT 120]) (q := pkT ⟨#[97]⟩ A [dpT 120]) ⟨rfl, rfl, rfl, rfl, rfl, rfl, rfl, rfl, rfl, rfl, rfl, rfl, rfl, rfl, rfl⟩]
    decide +kernel
  · rw [show mayP (pkT ⟨#[98]⟩ B [dpT 121, dpT 122]) = mayP (pkT ⟨#[98]⟩ none [dpT 121, dpT 122]) from Alike.may (p := pkT ⟨#[98]⟩ none [dpT 121, dpT 122]) (q := pkT ⟨#[98]⟩ B [dpT 121, dpT 122]) ⟨rfl, rfl, rfl, rfl, rfl, rfl, rfl, rfl, rfl, rfl, rfl, rfl, rfl, rfl, rfl⟩]
    decide +kernel
def repT (RA B : Option Addr) : Rp := ⟨0, RA, 1, [pkT ⟨#[98]⟩ B [dpT 121, dpT 122]]⟩
theorem two_all (A B RA : Option Addr) : allP [repT RA B] [pkT ⟨#[97]⟩ A [dpT 120]] = twoP A B := rfl
theorem two_err (A B RA : Option Addr) : errOf [repT RA B] [pkT ⟨#[97]⟩ A [dpT 120]] = 0 := by
  rw [errOf_small (by simp [pksOf, repT])]
  rw [if_pos]
  have h := two_may A B
  rw [Bool.and_eq_true]
  refine ⟨List.all_eq_true.2 fun x hx => h x ?_, List.all_eq_true.2 fun r hr => ?_⟩
  · obtain rfl := List.mem_singleton.1 hx
    exact List.mem_cons_self ..
  · obtain rfl := List.mem_singleton.1 hr
    have h2 := h _ (List.mem_cons_of_mem _ (List.mem_cons_self ..))
    unfold rpOk
    simp [repT, h2]
theorem two_deep (A B RA : Option Addr) : ∀ x ∈ allP [repT RA B] [pkT ⟨#[97]⟩ A [dpT 120]], x.deepOk ∧ x.few := by
  intro x hx
  rw [two_all] at hx
  simp only [twoP, List.mem_cons, List.not_mem_nil, or_false] at hx
  rcases hx with rfl | rfl
  · exact pkT_deep (by simp)
  · exact pkT_deep (by simp)
theorem two_prov {A B : Option Addr} {L2 : List Pk} (h : AlikeL (twoP A B) L2) (n : Nat) (d : Dp) : pvL L2 n d = pvL (twoP none none) n d := by
  have hl : L2.length = 2 := h.1
  unfold pvL
  by_cases hn : n < 2
  · have h1 : n < (twoP A B).length := hn
    have h2 : n < L2.length := by omega
    have h3 : n < (twoP none none).length := hn
    have ha := h.2 n h1 h2
    rw [List.getElem?_eq_getElem h2, List.getElem?_eq_getElem h3, Option.any_some, Option.any_some]
    obtain rfl | rfl : n = 0 ∨ n = 1 := by omega
    · unfold provB Pk.ownD; rw [ha.name, ha.evr, ha.prov, ha.files]; rfl
    · unfold provB Pk.ownD; rw [ha.name, ha.evr, ha.prov, ha.files]; rfl
  · rw [List.getElem?_eq_none (by omega), List.getElem?_eq_none (by show 2 ≤ n; omega)]
end
end Go.Proofs.YteobmfpbgnmffaaGreatDoor
