/- VercmpSorted, walked (under way). -/
import Derived.Test.YtaibdghalhbpnaaDoorVmLong
import Derived.Test.YtaibdghalhbpnaaDoorSortOff
import Derived.Test.YtaibdghalhbpnaaDoorVmStat
import Derived.Deep.RegionHeld3
namespace Go.Proofs.YtaibdghalhbpnaaDoor
open Go.RowKit Go.Shelf

/-- those that compare the same as x -/
def eqTo (x : ByteArray) (y : ByteArray) : Bool := comp y.toList x.toList == 0
theorem eqTo_class (x : ByteArray) (a b : ByteArray) (ha : eqTo x a = true) (hb : eqTo x b = true) : ltS a b = false := by
  unfold eqTo at ha hb
  have h1 := comp_zero (beq_iff_eq.1 ha)
  have h2 := comp_zero (beq_iff_eq.1 hb)
  unfold ltS
  rw [comp_of_pts h1, comp_of_pts' h2, comp_self]
  decide
theorem stays (D : List ByteArray) (x : ByteArray) : (rs ltS D).filter (eqTo x) = D.filter (eqTo x) := rs_filter ordS (eqTo x) (eqTo_class x) D
theorem again (D : List ByteArray) : rs ltS (rs ltS D) = rs ltS D := rs_of_srt _ (rs_srt ordS D)
theorem in_row (D : List ByteArray) {j : Nat} {x y : ByteArray} (hx : (rs ltS D)[j]? = some x) (hy : (rs ltS D)[j + 1]? = some y) : comp x.toList y.toList ≤ 0 := by
  have hs := rs_srt ordS D
  have h := List.pairwise_iff_getElem.1 hs j (j + 1) (List.getElem?_eq_some_iff.1 hx).1 (List.getElem?_eq_some_iff.1 hy).1 (by omega)
  rw [(List.getElem?_eq_some_iff.1 hx).2, (List.getElem?_eq_some_iff.1 hy).2] at h
  unfold ltS at h
  have := comp_neg x.toList y.toList
  have := of_decide_eq_false h
  omega
/-- a row of the call's own, as texts -/
theorem own_trow {w : World} {base : Nat} {v : Value} {D : List ByteArray} (h : Own (fun s => [Value.string s]) 1 base 9 v D w) : TRow w v D := by
  obtain ⟨A, cap, e, hr⟩ := Own.rd h (fun _ => rfl)
  unfold Own at h
  rcases h.2 with ⟨hv, hn⟩ | ⟨g, cap', cur, hv, hb, hh, _⟩
  · exact .inr ⟨List.eq_nil_of_length_eq_zero hn, none, 0, hv⟩
  · refine .inl ⟨g, cap', by rw [hv], (Array.getElem?_eq_some_iff.1 hh).1, fun k hk => ?_⟩
    obtain ⟨b, o, hA, _, hc⟩ := hr.at1 (f := fun s => Value.string s) (fun _ => rfl) hk
    rw [hv, hA] at e
    simp only [Value.slice.injEq, Option.some.injEq, Addr.mk.injEq, true_and] at e
    obtain ⟨⟨e1, e2⟩, _⟩ := e
    subst e1
    rw [← e2.1] at hc
    simpa using hc
theorem sh_of {D : List ByteArray} (h : ∀ s ∈ D, s.size ≤ 300) : Sh D := fun x hx => Nat.le_trans (h x hx) (by decide)
abbrev encS : ByteArray → List Value := fun s => [Value.string s]
/-- two rows of the call's own, in blocks apart -/
def Two (w wr : World) (v u : Value) (L M : List ByteArray) : Prop := Own encS 1 w.heap.size 9 v L wr ∧ Own encS 1 w.heap.size 9 u M wr ∧ (∀ g, v.ownBlock = some g → u.ownBlock = some g → False) ∧ Below w.heap.size w wr
theorem Two.calls {w wr w' : World} {v u : Value} {L M : List ByteArray} (h : Two w wr v u L M) (hb : Below wr.heap.size wr w') : Two w w' v u L M :=
  ⟨Own.below h.1 hb (Nat.le_refl _), Own.below h.2.1 hb (Nat.le_refl _), h.2.2.1, h.2.2.2.trans (hb.mono h.2.2.2.size)⟩
theorem Two.drew {w wr : World} {v u : Value} {L M : List ByteArray} (h : Two w wr v u L M) : Two w wr.drew v u L M := ⟨Own.drew h.1, Own.drew h.2.1, h.2.2.1, h.2.2.2.drew⟩
theorem Two.swap {w wr : World} {v u : Value} {L M : List ByteArray} (h : Two w wr v u L M) : Two w wr u v M L := ⟨h.2.1, h.1, fun g a b => h.2.2.1 g b a, h.2.2.2⟩
theorem Two.start (w : World) : Two w w (.slice none 0 0) (.slice none 0 0) [] [] := ⟨Own.nil_ _ _ _, Own.nil_ _ _ _, fun g a => (by cases a), Below.refl _ _⟩
theorem Two.left {w wr w' : World} {v u v' : Value} {L M : List ByteArray} {x : ByteArray} {c : Obj} (h : Two w wr v u L M) (ho : w'.ownsRow w.heap.size 9 1 v' (L.length + 1) (L.flatMap encS ++ encS x)) (hg : (wr.alloc c).grownBy w' v.ownBlock)
    (hv : v'.ownBlock = v.ownBlock ∨ v'.ownBlock = some (wr.alloc c).heap.size) : Two w w' v' u (L ++ [x]) M := by
  obtain ⟨h1, h2, h3, h4⟩ := h
  have hs := h4.size
  have hu2 : ∀ k, u.ownBlock = some k → k < wr.heap.size := fun k hk => (World.ownsRow.lt h2 k hk).2
  have hv2 : ∀ k, v.ownBlock = some k → w.heap.size ≤ k := fun k hk => (World.ownsRow.lt h1 k hk).1
  refine ⟨Own.snoc ho, World.ownsRow.kept (World.ownsRow.alloc h2 c) hg ?_, ?_, (h4.alloc hs c).grown hg (by simp; omega) hv2⟩
  · cases hu : u.ownBlock with
    | none => exact .inl rfl
    | some k =>
      refine .inr fun e => ?_
      exact h3 k e.symm hu
  · intro g a b
    rcases hv with e | e
    · exact h3 g (e ▸ a) b
    · rw [e] at a
      have := hu2 g b
      have := Option.some.inj a
      simp at this
      omega
set_option maxRecDepth 100000 in
set_option maxHeartbeats 16000000 in
theorem sorted_long (w : World) (l : List ByteArray) (A : Option Addr) (cap : Nat) (h : Rd (fun s => [Value.string s]) 1 w.heap.size A cap l w) (hz : ∀ s ∈ l, s.size ≤ reachBytes) (hl : longL l = true) : Calls Tryd.prog 17 #[.slice A l.length cap] w fun e w' => e = .returned (.bool true) ∧ Below w.heap.size w w' := by
  have LG := Lib.hid (long02_any l A cap w h hz)
  rw [hl] at LG
  have AW := Lib.hid (fun W => awake02 W)
  clear h hz hl
  generalize l.length = n at *
  go_enter Tryd.func17, Tryd.ntmps17
  go_wp2_with fail
  go_at_call 41
  refine LG.out.mono ?_
  rintro e w1 ⟨rfl, rfl⟩
  go_wp2_with fail
  go_at_call 36
  refine (AW.out _).mono ?_
  rintro e w2 ⟨rfl, h⟩
  go_wp2
  go_ret
  exact ⟨rfl, h⟩
set_option maxRecDepth 100000 in
set_option maxHeartbeats 16000000 in
theorem sorted_none (w : World) (A : Option Addr) (cap : Nat) (h : Rd (fun s => [Value.string s]) 1 w.heap.size A cap [] w) : Calls Tryd.prog 17 #[.slice A 0 cap] w fun e w' => e = .returned (.bool true) ∧ Below w.heap.size w w' := by
  have LG := Lib.hid (long02_any [] A cap w h (by simp))
  rw [show longL [] = false from rfl] at LG
  have AW := Lib.hid (fun W => awake02 W)
  have SO := Lib.hid (fun B c W => sort_empty B c W)
  have TX := Lib.hid (fun a c b d W => texts_any (.slice a 0 c) (.slice b 0 d) [] [] W (by decide) (by decide) (.inr ⟨rfl, a, c, rfl⟩) (.inr ⟨rfl, b, d, rfl⟩))
  clear h
  go_enter Tryd.func17, Tryd.ntmps17
  go_wp2_with fail
  go_at_call 41
  refine LG.out.mono ?_
  rintro e w1 ⟨rfl, rfl⟩
  go_wp2_with fail
  go_at_call 36
  refine (AW.out _).mono ?_
  rintro e w2 ⟨rfl, B1⟩
  go_wp2_with fail
  go_at_call 42
  refine (SO.out _ _ _).mono ?_
  rintro e w3 ⟨B, d, rfl, h⟩
  have B2 := B1.trans (h.mono B1.size)
  clear h B1
  go_wp2_with fail
  go_at_call 42
  refine (SO.out _ _ _).mono ?_
  rintro e w4 ⟨B', d', rfl, h⟩
  have B3 := B2.trans (h.mono B2.size)
  clear h B2
  go_wp2_with fail
  go_at_call 43
  refine (TX.out _ _ _ _ _).mono ?_
  rintro e w5 ⟨rfl, h⟩
  have B4 := B3.trans (h.mono B3.size)
  clear h B3
  go_wp2_with fail
  refine wp_loop_rounds 1 ?_
  rw [rounds_succ]
  go_wp2_with fail
  refine wp_loop_rounds 1 ?_
  rw [rounds_succ]
  go_wp2_with fail
  go_ret
  exact ⟨rfl, B4⟩
theorem ft (D : List ByteArray) (p : ByteArray → Bool) {k : Nat} (hk : k < D.length) : (D.take (k + 1)).filter p = (D.take k).filter p ++ (if p D[k] then [D[k]] else []) := by
  rw [← List.take_append_getElem hk, List.filter_append]
  congr 1
  simp [List.filter]
  cases p D[k] <;> rfl
theorem ft_len (D : List ByteArray) (p : ByteArray → Bool) (k : Nat) : ((D.take k).filter p).length ≤ k := Nat.le_trans (List.length_filter_le _ _) (by simp; omega)
def Sees (w6 W : World) (b g i' k' k : Nat) (x y z : ByteArray) (v u : Value) (L M : List ByteArray) : Prop := W.cell? ⟨b, k', none⟩ = some (.string y) ∧ W.cell? ⟨b, i', none⟩ = some (.string x) ∧ W.cell? ⟨g, k, none⟩ = some (.string z) ∧ Two w6 W v u L M
theorem Sees.calls {w6 W W' : World} {b g i' k' k : Nat} {x y z : ByteArray} {v u : Value} {L M : List ByteArray} (hb : b < w6.heap.size) (hg : g < w6.heap.size)
    (h : W.cell? ⟨b, k', none⟩ = some (.string y) ∧ W.cell? ⟨b, i', none⟩ = some (.string x) ∧ W.cell? ⟨g, k, none⟩ = some (.string z) ∧ Two w6 W v u L M) (hbb : Below W.heap.size W W') :
    W'.cell? ⟨b, k', none⟩ = some (.string y) ∧ W'.cell? ⟨b, i', none⟩ = some (.string x) ∧ W'.cell? ⟨g, k, none⟩ = some (.string z) ∧ Two w6 W' v u L M := by
  obtain ⟨h1, h2, h3, h4⟩ := h
  have hs := h4.2.2.2.size
  have q1 := Nat.lt_of_lt_of_le hb hs
  have q2 := Nat.lt_of_lt_of_le hg hs
  exact ⟨(hbb.cell (p := ⟨b, k', none⟩) q1).trans h1, (hbb.cell (p := ⟨b, i', none⟩) q1).trans h2, (hbb.cell (p := ⟨g, k, none⟩) q2).trans h3, h4.calls hbb⟩
theorem keepT {w5 W W' : World} {g j k : Nat} {x y : ByteArray} (hg : g < w5.heap.size) (h : W.cell? ⟨g, j, none⟩ = some (.string x) ∧ W.cell? ⟨g, k, none⟩ = some (.string y) ∧ Below w5.heap.size w5 W) (hb : Below W.heap.size W W') :
    W'.cell? ⟨g, j, none⟩ = some (.string x) ∧ W'.cell? ⟨g, k, none⟩ = some (.string y) ∧ Below w5.heap.size w5 W' := by
  obtain ⟨h1, h2, h3⟩ := h
  have hs := Nat.lt_of_lt_of_le hg h3.size
  exact ⟨(hb.cell (p := ⟨g, j, none⟩) hs).trans h1, (hb.cell (p := ⟨g, k, none⟩) hs).trans h2, h3.trans (hb.mono h3.size)⟩
set_option maxRecDepth 100000 in
set_option maxHeartbeats 16000000 in
theorem sorted_some (w : World) (D : List ByteArray) (b o cap : Nat) (h : Rd (fun s => [Value.string s]) 1 w.heap.size (some ⟨b, o, none⟩) cap D w) (hb : b < w.heap.size) (hz : ∀ s ∈ D, s.size ≤ reachBytes) (hl : longL D = false) (h0 : 0 < D.length) :
    Calls Tryd.prog 17 #[.slice (some ⟨b, o, none⟩) D.length cap] w fun e w' => e = .returned (.bool true) ∧ Below w.heap.size w w' := by
  have LG := Lib.hid (long02_any D _ cap w h hz)
  rw [hl] at LG
  obtain ⟨hn1, hs3⟩ := longL_small hl
  have hsh := sh_of hs3
  have AW := Lib.hid (fun W => awake02 W)
  have cells : ∀ (W : World), Below w.heap.size w W → ∀ (k : Nat) (hk : k < D.length), W.cell? ⟨b, o + k, none⟩ = some (.string D[k]) := by
    intro W hB k hk
    obtain ⟨b', o', e, hb', hc⟩ := (h.below hB).at1 (f := fun s => Value.string s) (fun _ => rfl) hk
    simp only [Option.some.injEq, Addr.mk.injEq, true_and] at e
    obtain ⟨rfl, rfl, _⟩ := e
    exact hc
  have SO := Lib.hid (fun W (hB : Below w.heap.size w W) => sort_off b o D.length cap D W rfl (by omega) hsh (cells W hB))
  obtain ⟨E, hE⟩ : ∃ E, E = rs ltS D := ⟨_, rfl⟩
  have hEl : E.length = D.length := by rw [hE]; exact rs_len D
  have hEs : Sh E := by rw [hE]; exact sh_rs hsh
  have hEE : rs ltS E = E := by rw [hE]; exact again D
  rw [← hE] at SO
  have S2 := Lib.hid (fun g c W (hR : RowS W g E) => sort_any g D.length c E W hEl.symm (by omega) hEs (fun k hk => (hR.2 k hk).1))
  rw [hEE] at S2
  have TX := Lib.hid (fun g c g' c' W (h1 : RowS W g E) (h2 : RowS W g' E) => texts_any (.slice (some ⟨g, 0, none⟩) D.length c) (.slice (some ⟨g', 0, none⟩) D.length c') E E W (by omega) (by omega) (h1.trow hEl.symm) (h2.trow hEl.symm))
  rw [show decide (E = E) = true from decide_eq_true rfl] at TX
  have HROW := Lib.hid (fun j x y (hx : E[j]? = some x) (hy : E[j + 1]? = some y) => in_row D (j := j) (x := x) (y := y) (by rw [← hE]; exact hx) (by rw [← hE]; exact hy))
  have HST := Lib.hid (fun x => show E.filter (eqTo x) = D.filter (eqTo x) from by rw [hE]; exact stays D x)
  have HC := Lib.hid cells
  have HSH := Lib.hid hsh
  have HES := Lib.hid hEs
  obtain ⟨n, hn⟩ : ∃ n, n = D.length := ⟨_, rfl⟩
  rw [← hn] at LG SO S2 TX hn1 h0 hEl ⊢
  have HN := Lib.hid hn
  have HEL := Lib.hid hEl
  clear hz hl hs3 hsh cells hE hEl hEs hEE hn h
  go_enter Tryd.func17, Tryd.ntmps17
  go_wp2_with fail
  go_at_call 41
  refine LG.out.mono ?_
  rintro e w1 ⟨rfl, rfl⟩
  go_wp2_with fail
  go_at_call 36
  refine (AW.out _).mono ?_
  rintro e w2 ⟨rfl, B1⟩
  go_wp2_with fail
  go_at_call 42
  refine (SO.out _ B1).mono ?_
  rintro e w3 ⟨g, c, rfl, _, hR, h⟩
  have B2 := B1.trans (h.mono B1.size)
  have R1 := Lib.hid hR
  clear h B1 hR
  go_wp2_with fail
  go_at_call 42
  refine (S2.out _ _ _ R1.out).mono ?_
  rintro e w4 ⟨g2, c2, rfl, _, hR, h⟩
  have B3 := B2.trans (h.mono B2.size)
  have R2 := Lib.hid hR
  have R3 := Lib.hid (R1.out.calls h)
  clear h B2 hR R1
  go_wp2_with fail
  go_at_call 43
  refine (TX.out _ _ _ _ _ R2.out R3.out).mono ?_
  rintro e w5 ⟨rfl, h⟩
  have B4 := B3.trans (h.mono B3.size)
  have R4 := Lib.hid (R3.out.calls h)
  clear h B3 R3 R2
  go_wp2_with fail
  have hg : g < w5.heap.size := R4.out.1
  have B5 := Lib.hid B4
  clear B4
  go_loopw [4] (fun i wr => ∃ q : Nat, q + 1 ≤ n ∧ i = .int .i64 ((q : Int) + 1) ∧ Below w5.heap.size w5 wr) (fun i _ => n - (intOf i).toNat)
  case atStart => exact ⟨0, by omega, rfl, Below.refl _ _⟩
  case round =>
    obtain ⟨q, hk, rfl, hB⟩ := hrel
    rename World => wr
    by_cases hlt : q + 1 < n
    · have hjl : q < E.length := by have := HEL.out; omega
      have hkl : q + 1 < E.length := by have := HEL.out; omega
      obtain ⟨x, hx⟩ : ∃ x, E[q]? = some x := ⟨_, List.getElem?_eq_getElem hjl⟩
      obtain ⟨y, hy⟩ : ∃ y, E[q + 1]? = some y := ⟨_, List.getElem?_eq_getElem hkl⟩
      have hle := HROW.out q x y hx hy
      have R5 := R4.out.below hB hg
      obtain ⟨p1, f1⟩ := R5.at_ hx
      obtain ⟨p2, f2⟩ := R5.at_ hy
      have zx := HES.out x (List.mem_of_getElem? hx)
      have zy := HES.out y (List.mem_of_getElem? hy)
      have CW := Lib.hid (fun W => comp_any x y W zx zy)
      generalize comp x.toList y.toList = r at *
      have hr : ¬ 0 < r := by omega
      have hqN : (q : Int) + 1 < (n : Int) := by omega
      have hq0 : (0 : Int) ≤ (q : Int) := by omega
      have hqN2 : (q : Int) < (n : Int) := by omega
      have u1 : IntKind.i64.wrap ((q : Int) + 1 - 1) = (q : Int) := by rw [IntWalk.i64_in _ (by omega)]; omega
      have u2 : (((q : Int) + 1).toNat) = q + 1 := by omega
      have u3 : IntKind.i64.wrap (q : Int) = (q : Int) := IntWalk.i64_in _ (by omega)
      have u4 : (0 : Int) ≤ (q : Int) + 1 := by omega
      clear hjl hkl hx hy hle R5 zx zy
      go_wp2_with fail
      go_region_held3 (fun W => W.cell? ⟨g, q, none⟩ = some (.string x) ∧ W.cell? ⟨g, q + 1, none⟩ = some (.string y) ∧ Below w5.heap.size w5 W) (first | exact keepT hg (by assumption) hbb | exact ⟨p1, p2, hB.drew⟩ | go_keep) (first | (go_at_call 39; refine (CW.out _).mono ?_; rintro e' w' ⟨rfl, hbb⟩))
      rename_i hh
      clear p1 p2 hB f1 f2
      go_wp2_with fail
      go_roundw
      case rel => exact ⟨q + 1, by omega, by go_num, hh.2.2⟩
      case measure => simp [intOf]; omega
    · have b4 : ¬ (q : Int) + 1 < (n : Int) := by omega
      have B6 := Lib.hid (B5.out.trans (hB.mono B5.out.size))
      have R6 := Lib.hid (R4.out.below hB hg)
      have hg6 : g < wr.heap.size := R6.out.1
      have hB6 := Lib.hid hB
      clear hB B5 R4
      go_wp2_with fail
      have hg6' : g < wr.heap.size := hg6
      go_loopw [5] (fun i W => ∃ q : Nat, q ≤ n ∧ i = .int .i64 (q : Int) ∧ Below wr.heap.size wr W) (fun i _ => n - (intOf i).toNat)
      case atStart => exact ⟨0, by omega, rfl, Below.refl _ _⟩
      case round =>
        obtain ⟨i, hi, rfl, hBi⟩ := hrel
        rename World => w6
        by_cases hlt2 : i < n
        · have hiD : i < D.length := by have := HN.out; omega
          obtain ⟨x, hx⟩ : ∃ x, D[i] = x := ⟨_, rfl⟩
          have sx := HSH.out x (hx ▸ List.getElem_mem hiD)
          have B7 := Lib.hid (B6.out.trans (hBi.mono B6.out.size))
          have R7 := Lib.hid (R6.out.below hBi hg6)
          have hg7 : g < w6.heap.size := R7.out.1
          have hb7 : b < w6.heap.size := Nat.lt_of_lt_of_le hb B7.out.size
          have hBi2 := Lib.hid hBi
          have HX := Lib.hid hx
          have hi0 : (0 : Int) ≤ (i : Int) := by omega
          have hi1 : (i : Int) < (n : Int) := by omega
          have hi2 : IntKind.i64.wrap (i : Int) = (i : Int) := IntWalk.i64_in _ (by omega)
          clear hBi hx
          go_wp2_with fail
          go_loopw [6, 7, 8] (fun va vb kk W => ∃ k : Nat, k ≤ n ∧ kk = .int .i64 (k : Int) ∧ ∃ L M, L = (D.take k).filter (eqTo x) ∧ M = (E.take k).filter (eqTo x) ∧ Two w6 W va vb L M) (fun _ _ kk _ => n - (intOf kk).toNat)
          case atStart => exact ⟨0, by omega, rfl, [], [], rfl, rfl, Two.start _⟩
          case round =>
            obtain ⟨k, hk, rfl, L, M, hL, hM, hT⟩ := hrel
            by_cases hlt3 : k < n
            · have hkD : k < D.length := by have := HN.out; omega
              have hkE : k < E.length := by have := HEL.out; omega
              obtain ⟨y, hy⟩ : ∃ y, D[k] = y := ⟨_, rfl⟩
              obtain ⟨z, hz⟩ : ∃ z, E[k] = z := ⟨_, rfl⟩
              have sy := HSH.out y (hy ▸ List.getElem_mem hkD)
              have sz := HES.out z (hz ▸ List.getElem_mem hkE)
              have FL := ft D (eqTo x) hkD
              have FM := ft E (eqTo x) hkE
              rw [hy, ← hL] at FL
              rw [hz, ← hM] at FM
              have lL : L.length ≤ k := by rw [hL]; exact ft_len _ _ _
              have lM : M.length ≤ k := by rw [hM]; exact ft_len _ _ _
              have B8 := B7.out.trans (hT.2.2.2.mono B7.out.size)
              have p1 := HC.out wr B8 k hkD
              have p2 := HC.out wr B8 i hiD
              have p3 := (R7.out.below hT.2.2.2 hg7).at_ (List.getElem?_eq_getElem hkE)
              rw [hy] at p1
              rw [HX.out] at p2
              rw [hz] at p3
              have p3 := p3.1
              have CY := Lib.hid (fun W => comp_any y x W sy sx)
              have CZ := Lib.hid (fun W => comp_any z x W sz sx)
              have SE := Lib.hid (fun W W' v' u' L' M' (h : W.cell? ⟨b, o + k, none⟩ = some (.string y) ∧ W.cell? ⟨b, o + i, none⟩ = some (.string x) ∧ W.cell? ⟨g, k, none⟩ = some (.string z) ∧ Two w6 W v' u' L' M') hbb => Sees.calls (W' := W') hb7 hg7 h hbb)
              have HCk := Lib.hid (fun (W : World) (B : Below w.heap.size w W) => (HC.out W B k hkD).trans (by rw [hy]))
              have HCi := Lib.hid (fun (W : World) (B : Below w.heap.size w W) => (HC.out W B i hiD).trans (by rw [HX.out]))
              have HCg := Lib.hid (fun (W : World) (B : Below w6.heap.size w6 W) => ((R7.out.below B hg7).at_ (List.getElem?_eq_getElem hkE)).1.trans (show some (Value.string E[k]) = some (.string z) by rw [hz]))
              have hk0 : (0 : Int) ≤ (k : Int) := by omega
              have hk1 : (k : Int) < (n : Int) := by omega
              have hk2 : IntKind.i64.wrap (k : Int) = (k : Int) := IntWalk.i64_in _ (by omega)
              have HNX := Lib.hid (show ∀ L' M', L' = (D.take (k + 1)).filter (eqTo x) → M' = (E.take (k + 1)).filter (eqTo x) → ∀ v' u' W, Two w6 W v' u' L' M' → ∃ k' : Nat, k' ≤ n ∧ Value.int .i64 ((k : Int) + 1) = .int .i64 (k' : Int) ∧ ∃ L M, L = (D.take k').filter (eqTo x) ∧ M = (E.take k').filter (eqTo x) ∧ Two w6 W v' u' L M from fun L' M' h1 h2 v' u' W h3 => ⟨k + 1, by omega, by go_num, L', M', h1, h2, h3⟩)
              rw [show eqTo x y = (comp y.toList x.toList == 0) from rfl] at FL
              rw [show eqTo x z = (comp z.toList x.toList == 0) from rfl] at FM
              generalize comp y.toList x.toList = r1 at *
              generalize comp z.toList x.toList = r2 at *
              clear hL hM hkD hkE hy hz sy sz B8
              go_wp2_with fail
              go_region_held3 (fun W => W.cell? ⟨b, o + k, none⟩ = some (.string y) ∧ W.cell? ⟨b, o + i, none⟩ = some (.string x) ∧ W.cell? ⟨g, k, none⟩ = some (.string z) ∧ Two w6 W u6 u7 L M) (first | exact SE.out _ _ _ _ _ _ (by assumption) hbb | exact ⟨p1, p2, p3, hT.drew⟩ | go_keep) (first | (go_at_call 39; refine (CY.out _).mono ?_; rintro e' w' ⟨rfl, hbb⟩))
              rename_i hh
              clear p1 p2 p3 hT
              by_cases c1 : r1 = 0
              · have hsz := hh.2.2.2.2.2.2.size
                obtain ⟨p1, p2, p3, hT⟩ := id hh
                clear hh
                go_wp2_with (at_builtin; refine wpList_append_own_at _ rfl _ _ 41 rfl w6.heap.size 9 _ (.string { data := #[] }) 1 16 (by rfl) (by rfl) (by rfl) (by rfl) (by rfl) rfl (by decide) _ _ _ rfl (World.ownsRow.alloc hT.1 _) ⟨_, 0, none⟩ 1 1 [.string y] rfl rfl (cell_one_new _ _ _) (by simp [Value.oneCell']) (by simp only [maxLen]; omega) (by omega) (by simp; omega) ?_; intro v1 W1 ho1 hg1 _ hw1)
                have T1 := Two.left hT ho1 hg1 hw1
                have c0 := T1.2.2.2
                have B9 := B7.out.trans (T1.2.2.2.mono B7.out.size)
                have p1 := HCk.out _ B9
                have p2 := HCi.out _ B9
                have p3 := HCg.out _ T1.2.2.2
                have hT := T1
                clear ho1 hg1 hw1 T1 B9 c0
                go_wp2_with fail
                go_region_held3 (fun W => W.cell? ⟨b, o + k, none⟩ = some (.string y) ∧ W.cell? ⟨b, o + i, none⟩ = some (.string x) ∧ W.cell? ⟨g, k, none⟩ = some (.string z) ∧ Two w6 W v1 u7 (L ++ [y]) M) (first | exact SE.out _ _ _ _ _ _ (by assumption) hbb | exact ⟨p1, p2, p3, hT.drew⟩ | go_keep) (first | (go_at_call 39; refine (CZ.out _).mono ?_; rintro e' w' ⟨rfl, hbb⟩))
                rename_i hh2
                clear p1 p2 p3 hT
                by_cases c2 : r2 = 0
                · have hsz := hh2.2.2.2.2.2.2.size
                  obtain ⟨p1, p2, p3, hT⟩ := id hh2
                  go_wp2_with (at_builtin; refine wpList_append_own_at _ rfl _ _ 41 rfl w6.heap.size 9 _ (.string { data := #[] }) 1 16 (by rfl) (by rfl) (by rfl) (by rfl) (by rfl) rfl (by decide) _ _ _ rfl (World.ownsRow.alloc hT.2.1 _) ⟨_, 0, none⟩ 1 1 [.string z] rfl rfl (cell_one_new _ _ _) (by simp [Value.oneCell']) (by simp only [maxLen]; omega) (by omega) (by simp; omega) ?_; intro v2 W2 ho2 hg2 _ hw2)
                  have T2 := (Two.left hT.swap ho2 hg2 hw2).swap
                  clear ho2 hg2 hw2
                  go_wp2_with fail
                  go_roundw
                  case rel => exact HNX.out _ _ (by rw [FL]; simp [c1]) (by rw [FM]; simp [c2]) _ _ _ T2
                  case measure => simp [intOf]; omega
                · go_wp2_with fail
                  go_roundw
                  case rel => exact HNX.out _ _ (by rw [FL]; simp [c1]) (by rw [FM]; simp [c2]) _ _ _ hh2.2.2.2
                  case measure => simp [intOf]; omega
              · obtain ⟨p1, p2, p3, hT⟩ := id hh
                clear hh
                go_wp2_with fail
                go_region_held3 (fun W => W.cell? ⟨b, o + k, none⟩ = some (.string y) ∧ W.cell? ⟨b, o + i, none⟩ = some (.string x) ∧ W.cell? ⟨g, k, none⟩ = some (.string z) ∧ Two w6 W u6 u7 L M) (first | exact SE.out _ _ _ _ _ _ (by assumption) hbb | exact ⟨p1, p2, p3, hT.drew⟩ | go_keep) (first | (go_at_call 39; refine (CZ.out _).mono ?_; rintro e' w' ⟨rfl, hbb⟩))
                rename_i hh2
                clear p1 p2 p3 hT
                by_cases c2 : r2 = 0
                · have hsz := hh2.2.2.2.2.2.2.size
                  obtain ⟨p1, p2, p3, hT⟩ := id hh2
                  go_wp2_with (at_builtin; refine wpList_append_own_at _ rfl _ _ 41 rfl w6.heap.size 9 _ (.string { data := #[] }) 1 16 (by rfl) (by rfl) (by rfl) (by rfl) (by rfl) rfl (by decide) _ _ _ rfl (World.ownsRow.alloc hT.2.1 _) ⟨_, 0, none⟩ 1 1 [.string z] rfl rfl (cell_one_new _ _ _) (by simp [Value.oneCell']) (by simp only [maxLen]; omega) (by omega) (by simp; omega) ?_; intro v2 W2 ho2 hg2 _ hw2)
                  have T2 := (Two.left hT.swap ho2 hg2 hw2).swap
                  clear ho2 hg2 hw2
                  go_wp2_with fail
                  go_roundw
                  case rel => exact HNX.out _ _ (by rw [FL]; simp [c1]) (by rw [FM]; simp [c2]) _ _ _ T2
                  case measure => simp [intOf]; omega
                · go_wp2_with fail
                  go_roundw
                  case rel => exact HNX.out _ _ (by rw [FL]; simp [c1]) (by rw [FM]; simp [c2]) _ _ _ hh2.2.2.2
                  case measure => simp [intOf]; omega
            · have b6 : ¬ (k : Int) < (n : Int) := by omega
              obtain rfl : k = n := by omega
              rw [List.take_of_length_le (by have := HN.out; omega)] at hL
              rw [List.take_of_length_le (by have := HEL.out; omega), HST.out x, ← hL] at hM
              subst hM
              have hLl : M.length ≤ 1000000 := by rw [hL]; exact Nat.le_trans (List.length_filter_le _ _) (by have := HN.out; omega)
              have HT := Lib.hid hT
              have tx := Lib.hid (fun W (h1 : TRow W u6 M) (h2 : TRow W u7 M) => texts_any u6 u7 M M W hLl hLl h1 h2)
              rw [show decide (M = M) = true from decide_eq_true rfl] at tx
              clear hT hL
              go_wp2_with fail
              go_at_call 43
              refine (tx.out _ (own_trow HT.out.1) (own_trow HT.out.2.1)).mono ?_
              rintro e w7 ⟨rfl, h⟩
              have HT2 := Lib.hid (HT.out.calls h)
              clear h HT
              go_wp2_with fail
              go_roundw
              case rel => exact ⟨i + 1, by omega, by go_num, hBi2.out.trans (HT2.out.2.2.2.mono hBi2.out.size)⟩
              case measure => simp [intOf]; omega
        · have b5 : ¬ (i : Int) < (n : Int) := by omega
          have B7 := Lib.hid (B6.out.trans (hBi.mono B6.out.size))
          clear hBi
          go_wp2_with fail
          go_ret
          exact ⟨rfl, B7.out⟩
theorem vercmpSorted_row (w : World) (l : List ByteArray) (A : Option Addr) (cap : Nat) (h : Rd (fun s => [Value.string s]) 1 w.heap.size A cap l w) (hz : ∀ s ∈ l, s.size ≤ reachBytes) :
    Calls Tryd.prog 17 #[.slice A l.length cap] w fun e w' => e = .returned (.bool true) ∧ Below w.heap.size w w' := by
  cases hl : longL l with
  | true => exact sorted_long w l A cap h hz hl
  | false =>
    by_cases h0 : 0 < l.length
    · obtain ⟨b, o, rfl, hb, _⟩ := h.2.2 0 h0
      exact sorted_some w l b o cap h hb hz hl h0
    · obtain rfl : l = [] := List.eq_nil_of_length_eq_zero (by omega)
      exact sorted_none w A cap h
end Go.Proofs.YtaibdghalhbpnaaDoor
