/- chandleryref02.Sort: an insertion sort into fresh rows, walked. -/
import Derived.Test.YtinidiiachedbaaDoorVmSorted
import Derived.Test.YtinidiiachedbaaDoorAppendTR
import Derived.Test.YtinidiiachedbaaDoorVmRefD
import Derived.Deep.RegionLaw
import Derived.Maps.AppendAt
namespace Go.Proofs.YtinidiiachedbaaDoor
open Go.RowKit Go.Shelf
set_option linter.unusedVariables false

theorem tr_take {W : World} {A : Option Addr} {E : List ByteArray} (h : TR W A E) (k : Nat) : TR W A (E.take k) := fun j hj => by
  rw [List.length_take] at hj
  obtain ⟨b, o, e, hl, hc⟩ := h j (by omega)
  exact ⟨b, o, e, hl, by rw [hc, List.getElem_take]⟩
theorem tr_drop {W : World} {g o : Nat} {E : List ByteArray} (h : TR W (some ⟨g, o, none⟩) E) (k : Nat) : TR W (some ⟨g, o + k, none⟩) (E.drop k) := fun j hj => by
  rw [List.length_drop] at hj
  obtain ⟨b, o', e, hl, hc⟩ := h (k + j) (by omega)
  cases e
  exact ⟨g, o + k, rfl, hl, by rw [show o + k + j = o + (k + j) by omega, hc, List.getElem_drop]⟩
theorem tr_grown {W W' : World} {g : Nat} {r : Option Nat} {D : List ByteArray} (h : TR W (some ⟨g, 0, none⟩) D) (hg : W.grownBy W' r) (hne : some g ≠ r) : TR W' (some ⟨g, 0, none⟩) D := fun k hk => by
  obtain ⟨b, o, e, hl, hc⟩ := h k hk
  cases e
  exact ⟨g, 0, rfl, Nat.lt_of_lt_of_le hl hg.size, hg.cell hc hne⟩
theorem take_next (D : List ByteArray) {i : Nat} (hi : i < D.length) : rs ltS (D.take i ++ [D[i]]) = rs ltS (D.take (i + 1)) := by rw [List.take_append_getElem hi]
/-- the text put in its place -/
theorem put_in {D E : List ByteArray} {i j : Nat} {x : ByteArray} (hi : i < D.length) (hx : D[i] = x) (hE : E = rs ltS (D.take i)) (hj : j ≤ E.length) (h2 : ∀ e ∈ E.drop j, ltS x e = true) (h1 : ∀ q, q + 1 = j → ∀ y, E[q]? = some y → ltS x y = false) : E.take j ++ x :: E.drop j = rs ltS (D.take (i + 1)) := by
  rw [← take_next D hi, hx]
  refine put_here (by rw [← hE, List.take_append_drop]) h2 ?_
  intro r e he
  have hl : r.length + 1 = j := by
    have := congrArg List.length he
    rw [List.length_take, List.length_append] at this
    simp at this
    omega
  refine h1 r.length hl e ?_
  have h3 : (E.take j)[r.length]? = (r ++ [e])[r.length]? := by rw [he]
  rw [List.getElem?_take_of_lt (by omega)] at h3
  rw [h3]
  simp
theorem flat_encS (D : List ByteArray) : D.flatMap encS = D.map Value.string := by
  induction D with
  | nil => rfl
  | cons x D ih => simp only [List.flatMap_cons, List.map_cons, ih]; rfl
theorem keep2b {w W W' : World} {g b j k : Nat} {x y : ByteArray} (hg : g < w.heap.size) (hb : b < w.heap.size) (h : W.cell? ⟨g, j, none⟩ = some (.string y) ∧ W.cell? ⟨b, k, none⟩ = some (.string x) ∧ Below w.heap.size w W) (hbb : Below W.heap.size W W') :
    W'.cell? ⟨g, j, none⟩ = some (.string y) ∧ W'.cell? ⟨b, k, none⟩ = some (.string x) ∧ Below w.heap.size w W' := by
  obtain ⟨h1, h2, h3⟩ := h
  exact ⟨(hbb.cell (p := ⟨g, j, none⟩) (Nat.lt_of_lt_of_le hg h3.size)).trans h1, (hbb.cell (p := ⟨b, k, none⟩) (Nat.lt_of_lt_of_le hb h3.size)).trans h2, h3.trans (hbb.mono h3.size)⟩
theorem below_drewN {B : Nat} {w W : World} {n : Nat} (h : Below B w W) : Below B w (W.drewN n) := ⟨h.os, h.tape, h.output, h.size, h.block⟩
theorem own_base {w : World} {base base' : Nat} {e : TypeId} {v : Value} {n : Nat} {xs : List Value} (h : w.ownsRow base e 1 v n xs) (hb : base' ≤ base) : w.ownsRow base' e 1 v n xs := by
  obtain ⟨h1, h2 | ⟨g, cap, cur, hv, hg, h3⟩⟩ := h
  · exact ⟨h1, .inl h2⟩
  · exact ⟨h1, .inr ⟨g, cap, cur, hv, Nat.le_trans hb hg, h3⟩⟩
theorem xcell_c (w : World) (o : Obj) (x : ByteArray) (e : TypeId) : TR ((w.alloc o).alloc (.cells #[.string x] e)).drew (some ⟨w.heap.size + 1, 0, none⟩) [x] := fun k hk => by
  obtain rfl : k = 0 := by simpa using hk
  have h1 : ((w.alloc o).alloc (.cells #[.string x] e)).drew.cell? ⟨w.heap.size + 1, 0, none⟩ = some (.string x) := (World.cell?_alloc_at _ _ _ _ (by simp)).trans rfl
  have h2 : w.heap.size + 1 < ((w.alloc o).alloc (.cells #[.string x] e)).drew.heap.size := by show w.heap.size + 1 < ((w.alloc o).alloc _).heap.size; simp
  exact ⟨w.heap.size + 1, 0, rfl, h2, h1⟩
theorem xcell_f (w : World) (o : Obj) (x : ByteArray) (e : TypeId) : TR ((w.alloc (.cells #[.string x] e)).alloc o).drew (some ⟨w.heap.size, 0, none⟩) [x] := fun k hk => by
  obtain rfl : k = 0 := by simpa using hk
  have h1 : ((w.alloc (.cells #[.string x] e)).alloc o).drew.cell? ⟨w.heap.size, 0, none⟩ = some (.string x) := (World.cell?_alloc_past _ _ _ (by simp)).trans ((World.cell?_alloc_at _ _ _ _ rfl).trans rfl)
  have h2 : w.heap.size < ((w.alloc (.cells #[.string x] e)).alloc o).drew.heap.size := by show w.heap.size < ((w.alloc _).alloc _).heap.size; simp; omega
  exact ⟨w.heap.size, 0, rfl, h2, h1⟩
theorem own_second (w : World) (o : Obj) (e : TypeId) : ((w.alloc o).alloc (.cells #[] e)).drew.ownsRow w.heap.size e 1 (.slice (some ⟨w.heap.size + 1, 0, none⟩) 0 0) 0 [] := by
  have h : ((w.alloc o).alloc (.cells #[] e)).ownsRow w.heap.size e 1 (.slice (some ⟨(w.alloc o).heap.size, 0, none⟩) 0 0) 0 [] := World.ownsRow_made (w.alloc o) #[] 0 (by simp) (Nat.zero_le _) rfl
  rw [show (w.alloc o).heap.size = w.heap.size + 1 from by simp] at h
  exact h
/-- a row of the call's own, with its room -/
theorem own_form {w : World} {base : Nat} {e : TypeId} {v : Value} {D : List ByteArray} (h : Own encS 1 base e v D w) : (v = .slice none 0 0 ∧ D = []) ∨ ∃ g cap, v = .slice (some ⟨g, 0, none⟩) D.length cap ∧ D.length ≤ cap ∧ cap ≤ maxLen ∧ TR w (some ⟨g, 0, none⟩) D := by
  have h2 := h
  unfold Own at h2
  rcases h2.2 with ⟨hv, hn⟩ | ⟨g, cap, cur, hv, _, _, hnc, hcm, _⟩
  · exact .inl ⟨hv, List.eq_nil_of_length_eq_zero hn⟩
  · obtain ⟨A, c, e, hT⟩ := TR.of_own h
    rw [hv] at e
    cases e
    exact .inr ⟨g, cap, hv, hnc, hcm, hT⟩
theorem own_of_add {w : World} {base : Nat} {e : TypeId} {v : Value} {D : List ByteArray} {n : Nat} {xs : List Value} (h : w.ownsRow base e 1 v n xs) (hn : n = D.length) (hx : xs = D.map Value.string) : Own encS 1 base e v D w := by
  subst hn; subst hx
  unfold Own
  rw [flat_encS]
  exact h
set_option maxRecDepth 100000 in
set_option maxHeartbeats 16000000 in
theorem refsort_any (A : Option Addr) (n cap : Nat) (D : List ByteArray) (w : World) (hn : n = D.length) (hn2 : n ≤ 1000000) (hsh : Sh D) (hT : TR w A D) :
    Calls Tryd.prog 14 #[.slice A n cap] w fun e w' => ∃ B c, e = .returned (.slice B n c) ∧ TR w' B (rs ltS D) ∧ Below w.heap.size w w' := by
  have HN := Lib.hid hn
  have HSH := Lib.hid hsh
  have HT := Lib.hid hT
  clear hn hsh hT
  go_enter Tryd.func14, Tryd.ntmps14
  go_wp2_with fail
  go_loopw [3, 4] (fun out i wr => ∃ k : Nat, k ≤ n ∧ i = .int .i64 (k : Int) ∧ Own encS 1 w.heap.size 9 out (rs ltS (D.take k)) wr ∧ Below w.heap.size w wr) (fun _ i _ => n - (intOf i).toNat)
  case atStart => exact ⟨0, by omega, rfl, Own.nil_ _ _ _, Below.refl _ _⟩
  case round =>
    obtain ⟨i, hi, rfl, hO, hB⟩ := hrel
    rename World => wr
    by_cases hlt : i < n
    · have hiD : i < D.length := by have := HN.out; omega
      obtain ⟨E, hE⟩ : ∃ E, E = rs ltS (D.take i) := ⟨_, rfl⟩
      have hEl : E.length = i := by rw [hE, rs_len, List.length_take]; omega
      rw [← hE] at hO
      have hA := HT.out.below hB
      have hF := HSH.out _ (List.getElem_mem hiD)
      have NX := Lib.hid (fun j (hj : j ≤ E.length) (h2 : ∀ e ∈ E.drop j, ltS D[i] e = true) (h1 : ∀ q, q + 1 = j → ∀ y, E[q]? = some y → ltS D[i] y = false) => put_in (x := D[i]) hiD rfl hE hj h2 h1)
      have ESH : ∀ y ∈ E, y.size ≤ 1000000 := by rw [hE]; exact fun y hy => sh_rs (fun z hz => HSH.out z (List.mem_of_mem_take hz)) y hy
      obtain ⟨b, o, rfl, hb, px⟩ := hA i hiD
      generalize D[i] = x at *
      have TA := Lib.hid hA
      have i0 : (0 : Int) ≤ (i : Int) := by omega
      have i1 : (i : Int) < (n : Int) := by omega
      clear hE hA
      rcases own_form hO with ⟨rfl, rfl⟩ | ⟨g, c, rfl, hcap, hcm, hTE⟩
      · obtain rfl : i = 0 := by simpa using hEl.symm
        go_wp2_with fail
        refine wp_loop_rounds 1 ?_
        rw [rounds_succ]
        go_wp2_with fail
        go_quiet (fail)
        go_wp2_with fail
        obtain ⟨ws, hws⟩ : ∃ ws, ws = wr.drewN nq := ⟨_, rfl⟩
        have hBj : Below wr.heap.size wr ws := by rw [hws]; exact below_drewN (Below.refl _ _)
        rw [← hws]
        clear hws
        have pxs : ws.cell? ⟨b, o, none⟩ = some (.string x) := (hBj.cell (p := ⟨b, o, none⟩) hb).trans px
        have hbs : b < ws.heap.size := Nat.lt_of_lt_of_le hb hBj.size
        have L1 := Lib.hid (show ([] : List ByteArray).length = 0 from rfl)
        have L2 := Lib.hid (show ([] : List ByteArray).length = 0 from rfl)
        have T1 := Lib.hid (TR.nil ws none)
        have T2 := Lib.hid (TR.nil ws none)
        have hsz := hB.size
        have FIN := Lib.hid (NX.out 0 (Nat.le_refl _) (by simp) (by intro q hq; omega))
        have HB := Lib.hid hB
        have HBJ := Lib.hid hBj
        clear hO hB hBj px hb NX TA
        go_region_law (first | (refine step_append_tr _ rfl _ _ 22 rfl ws.heap.size 9 _ (by rfl) (by rfl) (by rfl) (by rfl) (by rfl) v2 _ _ rfl ho2 (none) _ ([]) _ (by have q1 := L1.out; have q2 := L2.out; omega) rfl (T2.out.below hB2) (by have q1 := L1.out; have q2 := L2.out; (try simp only [List.length_cons, List.length_nil]); unfold maxLen; omega) (by have q1 := L1.out; have q2 := L2.out; (try simp only [List.length_cons, List.length_nil]); omega) hB2.size ?_; intro v3 w3 ho3 hg3 hv3; have hB3 := hB2.grown hg3 hB2.size (fun k hk => (World.ownsRow.lt ho2 k hk).1)) | (refine step_append_tr _ rfl _ _ 22 rfl ws.heap.size 9 _ (by rfl) (by rfl) (by rfl) (by rfl) (by rfl) v1 _ _ rfl (by first | exact ho1 | exact World.ownsRow.alloc ho1 _) _ _ [x] _ rfl rfl (by first | exact tx1 | exact TR.new w1 [x] 9) (by have q1 := L1.out; have q2 := L2.out; (try simp only [List.length_cons, List.length_nil]); unfold maxLen; omega) (by have q1 := L1.out; have q2 := L2.out; (try simp only [List.length_cons, List.length_nil]); omega) (by have := hB1.size; simp; omega) ?_; intro v2 w2 ho2 hg2 hv2; have hB2 : Below ws.heap.size ws w2 := by first | exact hB1.grown hg2 hB1.size (fun k hk => (World.ownsRow.lt ho1 k hk).1) | exact (hB1.alloc hB1.size _).grown hg2 (by have := hB1.size; simp; omega) (fun k hk => (World.ownsRow.lt ho1 k hk).1)) | (refine step_append_tr _ rfl _ _ 22 rfl ws.heap.size 9 _ (by rfl) (by rfl) (by rfl) (by rfl) (by rfl) _ 0 [] rfl (by first | exact World.ownsRow_made _ #[] 0 (Nat.le_refl _) (Nat.zero_le _) rfl | exact own_second ws _ _ | exact World.ownsRow.alloc (World.ownsRow_made _ #[] 0 (Nat.le_refl _) (Nat.zero_le _) rfl) _) (none) _ ([]) _ (by have q1 := L1.out; omega) rfl (T1.out.below (by first | exact (Below.refl _ _).drew | exact ((Below.refl _ ws).alloc (Nat.le_refl _) _).drew | exact (((Below.refl _ ws).alloc (Nat.le_refl _) _).alloc (by simp) _).drew | exact (Below.refl _ ws).alloc (Nat.le_refl _) _ | exact ((Below.refl _ ws).alloc (Nat.le_refl _) _).alloc (by simp) _)) (by have q1 := L1.out; have q2 := L2.out; (try simp only [List.length_cons, List.length_nil]); unfold maxLen; omega) (by have q1 := L1.out; have q2 := L2.out; (try simp only [List.length_cons, List.length_nil]); omega) (by simp; try omega) ?_; intro v1 w1 ho1 hg1 hv1; have hB1 : Below ws.heap.size ws w1 := Below.grown (by first | exact (Below.refl _ _).drew | exact ((Below.refl _ ws).alloc (Nat.le_refl _) _).drew | exact (((Below.refl _ ws).alloc (Nat.le_refl _) _).alloc (by simp) _).drew | exact (Below.refl _ ws).alloc (Nat.le_refl _) _ | exact ((Below.refl _ ws).alloc (Nat.le_refl _) _).alloc (by simp) _) hg1 (by simp; try omega) (by intro k hk; cases hk; first | exact Nat.le_refl _ | simp); have px1 : w1.cell? ⟨b, o, none⟩ = some (.string x) := (hB1.cell (p := ⟨b, o, none⟩) hbs).trans pxs; (first | (have tx1 := tr_grown (xcell_c ws _ x _) hg1 (fun h => by have h2 : some (ws.heap.size + 1) = some ws.heap.size := h; simp at h2)) | (have tx1 := tr_grown (xcell_f ws _ x _) hg1 (fun h => by have h2 : some ws.heap.size = some (ws.heap.size + 1) := h; simp at h2)) | skip)))
        all_goals
          go_wp2_with fail
          go_roundw
          case rel => exact ⟨1, by omega, by go_num, own_of_add (own_base ho3 (Nat.le_trans hsz HBJ.out.size)) (by rw [← FIN.out]; simp) (by rw [← FIN.out]; simp), HB.out.trans ((HBJ.out.trans (hB3.mono HBJ.out.size)).mono hsz)⟩
          case measure => simp [intOf]; omega
      · rw [hEl] at hcap ⊢
        have HTE := Lib.hid hTE
        have HES := Lib.hid ESH
        clear ESH hTE
        go_wp2_with fail
        go_loopw [5] (fun k W => ∃ j : Nat, j ≤ i ∧ k = .int .i64 (j : Int) ∧ Hid (∀ e ∈ E.drop j, ltS x e = true) ∧ Below wr.heap.size wr W) (fun k _ => (intOf k).toNat)
        case atStart => exact ⟨i, Nat.le_refl _, rfl, Lib.hid (by rw [List.drop_of_length_le (by omega)]; simp), Below.refl _ _⟩
        case round =>
          obtain ⟨j, hj, rfl, hG, hBj⟩ := hrel
          rename World => ws
          have hbs : b < ws.heap.size := Nat.lt_of_lt_of_le hb hBj.size
          have pxs : ws.cell? ⟨b, o + i, none⟩ = some (.string x) := (hBj.cell (p := ⟨b, o + i, none⟩) hb).trans px
          have TS := Lib.hid (HTE.out.below hBj)
          have EXIT := Lib.hid (fun (hx : ∀ q, q + 1 = j → ∀ y, E[q]? = some y → ltS x y = false) => NX.out j (by omega) hG.out hx)
          cases j with
          | zero =>
            have FIN := Lib.hid (EXIT.out (by intro q hq; omega))
            clear EXIT pxs hbs hG
            go_wp2_with fail
            go_quiet (fail)
            go_wp2_with fail
            obtain ⟨ws, hws⟩ : ∃ V : World, V = ws.drewN nq := ⟨_, rfl⟩
            have hBt : Below wr.heap.size wr ws := by rw [hws]; exact below_drewN hBj
            rw [← hws]
            clear hws
            have pxs : ws.cell? ⟨b, o + i, none⟩ = some (.string x) := (hBt.cell (p := ⟨b, o + i, none⟩) hb).trans px
            have hbs : b < ws.heap.size := Nat.lt_of_lt_of_le hb hBt.size
            have L1 := Lib.hid (show (E.take (0)).length = 0 from by rw [List.length_take]; omega)
            have L2 := Lib.hid (show (E.drop (0)).length = i - (0) from by rw [List.length_drop]; omega)
            have T1 := Lib.hid (tr_take (HTE.out.below hBt) (0))
            have T2 := Lib.hid (show TR ws (some ⟨g, 0, none⟩) (E.drop (0)) from by have h := tr_drop (HTE.out.below hBt) (0); rw [Nat.zero_add] at h; exact h)
            have hsz := hB.size
            have HB := Lib.hid hB
            have HBJ := Lib.hid hBt
            have HEL := Lib.hid hEl
            have HCM := Lib.hid hcm
            have jc : (0 : Int) ≤ (c : Int) := by omega
            have ji : (i : Int) ≤ (c : Int) := by omega
            clear hO hB hBt px hb NX TA HTE HES hEl TS hcm
            go_region_law (first | (refine step_append_tr _ rfl _ _ 22 rfl ws.heap.size 9 _ (by rfl) (by rfl) (by rfl) (by rfl) (by rfl) v2 _ _ rfl ho2 (some ⟨g, 0, none⟩) _ (E.drop 0) _ (by have q1 := L1.out; have q2 := L2.out; omega) rfl (T2.out.below hB2) (by have q1 := L1.out; have q2 := L2.out; (try simp only [List.length_cons, List.length_nil]); unfold maxLen; omega) (by have q1 := L1.out; have q2 := L2.out; (try simp only [List.length_cons, List.length_nil]); omega) hB2.size ?_; intro v3 w3 ho3 hg3 hv3; have hB3 := hB2.grown hg3 hB2.size (fun k hk => (World.ownsRow.lt ho2 k hk).1)) | (refine step_append_tr _ rfl _ _ 22 rfl ws.heap.size 9 _ (by rfl) (by rfl) (by rfl) (by rfl) (by rfl) v1 _ _ rfl (by first | exact ho1 | exact World.ownsRow.alloc ho1 _) _ _ [x] _ rfl rfl (by first | exact tx1 | exact TR.new w1 [x] 9) (by have q1 := L1.out; have q2 := L2.out; (try simp only [List.length_cons, List.length_nil]); unfold maxLen; omega) (by have q1 := L1.out; have q2 := L2.out; (try simp only [List.length_cons, List.length_nil]); omega) (by have := hB1.size; simp; omega) ?_; intro v2 w2 ho2 hg2 hv2; have hB2 : Below ws.heap.size ws w2 := by first | exact hB1.grown hg2 hB1.size (fun k hk => (World.ownsRow.lt ho1 k hk).1) | exact (hB1.alloc hB1.size _).grown hg2 (by have := hB1.size; simp; omega) (fun k hk => (World.ownsRow.lt ho1 k hk).1)) | (refine step_append_tr _ rfl _ _ 22 rfl ws.heap.size 9 _ (by rfl) (by rfl) (by rfl) (by rfl) (by rfl) _ 0 [] rfl (by first | exact World.ownsRow_made _ #[] 0 (Nat.le_refl _) (Nat.zero_le _) rfl | exact own_second ws _ _ | exact World.ownsRow.alloc (World.ownsRow_made _ #[] 0 (Nat.le_refl _) (Nat.zero_le _) rfl) _) (some ⟨g, 0, none⟩) _ (E.take 0) _ (by have q1 := L1.out; omega) rfl (T1.out.below (by first | exact (Below.refl _ _).drew | exact ((Below.refl _ ws).alloc (Nat.le_refl _) _).drew | exact (((Below.refl _ ws).alloc (Nat.le_refl _) _).alloc (by simp) _).drew | exact (Below.refl _ ws).alloc (Nat.le_refl _) _ | exact ((Below.refl _ ws).alloc (Nat.le_refl _) _).alloc (by simp) _)) (by have q1 := L1.out; have q2 := L2.out; (try simp only [List.length_cons, List.length_nil]); unfold maxLen; omega) (by have q1 := L1.out; have q2 := L2.out; (try simp only [List.length_cons, List.length_nil]); omega) (by simp; try omega) ?_; intro v1 w1 ho1 hg1 hv1; have hB1 : Below ws.heap.size ws w1 := Below.grown (by first | exact (Below.refl _ _).drew | exact ((Below.refl _ ws).alloc (Nat.le_refl _) _).drew | exact (((Below.refl _ ws).alloc (Nat.le_refl _) _).alloc (by simp) _).drew | exact (Below.refl _ ws).alloc (Nat.le_refl _) _ | exact ((Below.refl _ ws).alloc (Nat.le_refl _) _).alloc (by simp) _) hg1 (by simp; try omega) (by intro k hk; cases hk; first | exact Nat.le_refl _ | simp); have px1 : w1.cell? ⟨b, o + i, none⟩ = some (.string x) := (hB1.cell (p := ⟨b, o + i, none⟩) hbs).trans pxs; (first | (have tx1 := tr_grown (xcell_c ws _ x _) hg1 (fun h => by have h2 : some (ws.heap.size + 1) = some ws.heap.size := h; simp at h2)) | (have tx1 := tr_grown (xcell_f ws _ x _) hg1 (fun h => by have h2 : some ws.heap.size = some (ws.heap.size + 1) := h; simp at h2)) | skip)))
            all_goals
              go_wp2_with fail
              go_roundw
              case rel => exact ⟨i + 1, by omega, by go_num, own_of_add (own_base ho3 (Nat.le_trans hsz HBJ.out.size)) (by rw [← FIN.out]; simp only [List.length_append, List.length_cons, List.length_nil]; omega) (by rw [← FIN.out]; simp only [List.map_append, List.map_cons, List.map_nil, List.nil_append, List.append_assoc, List.cons_append]), HB.out.trans ((HBJ.out.trans (hB3.mono HBJ.out.size)).mono hsz)⟩
              case measure => simp [intOf]; omega
          | succ q =>
            have hqE : q < E.length := by omega
            obtain ⟨_, _, e0, _, py⟩ := TS.out q hqE
            cases e0
            have hyx := HES.out E[q] (List.getElem_mem hqE)
            have CW := Lib.hid (fun W => rcomp_any E[q] x W hyx hF)
            have hlt : ltS x E[q] = decide (comp x.toList E[q].toList < 0) := rfl
            have hneg := comp_neg E[q].toList x.toList
            have HY := Lib.hid (List.getElem?_eq_getElem hqE)
            have HD := Lib.hid (show ltS x E[q] = true → ∀ e ∈ E.drop q, ltS x e = true from fun h e he => by
              rw [List.drop_eq_getElem_cons hqE] at he
              rcases List.mem_cons.1 he with rfl | he
              · exact h
              · exact hG.out e he)
            generalize E[q] = y at *
            have hgs : g < ws.heap.size := by assumption
            have EX := Lib.hid (show ltS x y = false → E.take (q + 1) ++ x :: E.drop (q + 1) = _ from fun h => EXIT.out (fun q' hq' y' hy' => by
              obtain rfl : q' = q := by omega
              rw [HY.out] at hy'
              cases hy'
              exact h))
            rw [hlt] at EX HD
            generalize comp y.toList x.toList = r at *
            rw [hneg] at EX HD
            have e1 : (((q + 1 : Nat)) : Int) = (q : Int) + 1 := by omega
            have u1 : IntKind.i64.wrap ((q : Int) + 1 - 1) = (q : Int) := by rw [IntWalk.i64_in _ (by omega)]; omega
            have u2 : (((q : Int) + 1).toNat) = q + 1 := by omega
            have u3 : IntKind.i64.wrap (q : Int) = (q : Int) := IntWalk.i64_in _ (by omega)
            have u4 : (0 : Int) ≤ (q : Int) + 1 := by omega
            have q0 : (0 : Int) ≤ (q : Int) := by omega
            have q1 : (0 : Int) < (q : Int) + 1 := by omega
            have q2 : (q : Int) < (i : Int) := by omega
            have q3 : q < i := by omega
            have py2 : ws.cell? ⟨g, q, none⟩ = some (.string y) := by rw [Nat.zero_add] at py; exact py
            rw [e1]
            clear hlt hneg EXIT HY hyx hG py hqE
            have HBj := Lib.hid hBj
            clear hBj
            by_cases hr : 0 < r
            · have HD2 := Lib.hid (HD.out (by simp; omega))
              clear HD EX
              go_wp2_with fail
              go_region_held3 (fun W => W.cell? ⟨g, q, none⟩ = some (.string y) ∧ W.cell? ⟨b, o + i, none⟩ = some (.string x) ∧ Below ws.heap.size ws W) (first | exact keep2b hgs hbs (by assumption) hbb | exact ⟨py2, pxs, (Below.refl _ _).drew⟩ | go_keep) (first | (go_at_call 40; refine (CW.out _).mono ?_; rintro e' w' ⟨rfl, hbb⟩))
              rename_i hh
              clear py2 pxs
              go_wp2_with fail
              go_roundw
              case rel => exact ⟨q, by omega, by go_num, HD2, HBj.out.trans (hh.2.2.mono HBj.out.size)⟩
              case measure => simp [intOf]
            · have FIN := Lib.hid (EX.out (by simp; omega))
              clear HD EX
              go_wp2_with fail
              go_region_held3 (fun W => W.cell? ⟨g, q, none⟩ = some (.string y) ∧ W.cell? ⟨b, o + i, none⟩ = some (.string x) ∧ Below ws.heap.size ws W) (first | exact keep2b hgs hbs (by assumption) hbb | exact ⟨py2, pxs, (Below.refl _ _).drew⟩ | go_keep) (first | (go_at_call 40; refine (CW.out _).mono ?_; rintro e' w' ⟨rfl, hbb⟩))
              rename_i hh
              rename World => wz
              have hBz := HBj.out.trans (hh.2.2.mono HBj.out.size)
              clear py2 pxs hbs hh
              go_wp2_with fail
              obtain ⟨ws, hws⟩ : ∃ V : World, V = wz := ⟨_, rfl⟩
              have hBt : Below wr.heap.size wr ws := by rw [hws]; exact hBz
              rw [← hws]
              clear hws
              have pxs : ws.cell? ⟨b, o + i, none⟩ = some (.string x) := (hBt.cell (p := ⟨b, o + i, none⟩) hb).trans px
              have hbs : b < ws.heap.size := Nat.lt_of_lt_of_le hb hBt.size
              have L1 := Lib.hid (show (E.take (q + 1)).length = q + 1 from by rw [List.length_take]; omega)
              have L2 := Lib.hid (show (E.drop (q + 1)).length = i - (q + 1) from by rw [List.length_drop]; omega)
              have T1 := Lib.hid (tr_take (HTE.out.below hBt) (q + 1))
              have T2 := Lib.hid (show TR ws (if c = q + 1 then some ⟨g, 0, none⟩ else some ⟨g, q + 1, none⟩) (E.drop (q + 1)) from by
                split
                · rw [List.drop_of_length_le (by omega)]; exact TR.nil _ _
                · have h := tr_drop (HTE.out.below hBt) (q + 1); rw [Nat.zero_add] at h; exact h)
              have hsz := hB.size
              have HB := Lib.hid hB
              have HBJ := Lib.hid hBt
              have HEL := Lib.hid hEl
              have HCM := Lib.hid hcm
              have jc : (q : Int) + 1 ≤ (c : Int) := by omega
              have ji : (i : Int) ≤ (c : Int) := by omega
              have jk : (q : Int) + 1 ≤ (i : Int) := by omega
              clear hO hB hBt px hb NX TA HTE HES hEl TS hcm
              go_region_law (first | (refine step_append_tr _ rfl _ _ 22 rfl ws.heap.size 9 _ (by rfl) (by rfl) (by rfl) (by rfl) (by rfl) v2 _ _ rfl ho2 (if c = q + 1 then some ⟨g, 0, none⟩ else some ⟨g, q + 1, none⟩) _ (E.drop (q + 1)) _ (by have q1 := L1.out; have q2 := L2.out; omega) rfl (T2.out.below hB2) (by have q1 := L1.out; have q2 := L2.out; (try simp only [List.length_cons, List.length_nil]); unfold maxLen; omega) (by have q1 := L1.out; have q2 := L2.out; (try simp only [List.length_cons, List.length_nil]); omega) hB2.size ?_; intro v3 w3 ho3 hg3 hv3; have hB3 := hB2.grown hg3 hB2.size (fun k hk => (World.ownsRow.lt ho2 k hk).1)) | (refine step_append_tr _ rfl _ _ 22 rfl ws.heap.size 9 _ (by rfl) (by rfl) (by rfl) (by rfl) (by rfl) v1 _ _ rfl (by first | exact ho1 | exact World.ownsRow.alloc ho1 _) _ _ [x] _ rfl rfl (by first | exact tx1 | exact TR.new w1 [x] 9) (by have q1 := L1.out; have q2 := L2.out; (try simp only [List.length_cons, List.length_nil]); unfold maxLen; omega) (by have q1 := L1.out; have q2 := L2.out; (try simp only [List.length_cons, List.length_nil]); omega) (by have := hB1.size; simp; omega) ?_; intro v2 w2 ho2 hg2 hv2; have hB2 : Below ws.heap.size ws w2 := by first | exact hB1.grown hg2 hB1.size (fun k hk => (World.ownsRow.lt ho1 k hk).1) | exact (hB1.alloc hB1.size _).grown hg2 (by have := hB1.size; simp; omega) (fun k hk => (World.ownsRow.lt ho1 k hk).1)) | (refine step_append_tr _ rfl _ _ 22 rfl ws.heap.size 9 _ (by rfl) (by rfl) (by rfl) (by rfl) (by rfl) _ 0 [] rfl (by first | exact World.ownsRow_made _ #[] 0 (Nat.le_refl _) (Nat.zero_le _) rfl | exact own_second ws _ _ | exact World.ownsRow.alloc (World.ownsRow_made _ #[] 0 (Nat.le_refl _) (Nat.zero_le _) rfl) _) (some ⟨g, 0, none⟩) _ (E.take (q + 1)) _ (by have q1 := L1.out; omega) rfl (T1.out.below (by first | exact (Below.refl _ _).drew | exact ((Below.refl _ ws).alloc (Nat.le_refl _) _).drew | exact (((Below.refl _ ws).alloc (Nat.le_refl _) _).alloc (by simp) _).drew | exact (Below.refl _ ws).alloc (Nat.le_refl _) _ | exact ((Below.refl _ ws).alloc (Nat.le_refl _) _).alloc (by simp) _)) (by have q1 := L1.out; have q2 := L2.out; (try simp only [List.length_cons, List.length_nil]); unfold maxLen; omega) (by have q1 := L1.out; have q2 := L2.out; (try simp only [List.length_cons, List.length_nil]); omega) (by simp; try omega) ?_; intro v1 w1 ho1 hg1 hv1; have hB1 : Below ws.heap.size ws w1 := Below.grown (by first | exact (Below.refl _ _).drew | exact ((Below.refl _ ws).alloc (Nat.le_refl _) _).drew | exact (((Below.refl _ ws).alloc (Nat.le_refl _) _).alloc (by simp) _).drew | exact (Below.refl _ ws).alloc (Nat.le_refl _) _ | exact ((Below.refl _ ws).alloc (Nat.le_refl _) _).alloc (by simp) _) hg1 (by simp; try omega) (by intro k hk; cases hk; first | exact Nat.le_refl _ | simp); have px1 : w1.cell? ⟨b, o + i, none⟩ = some (.string x) := (hB1.cell (p := ⟨b, o + i, none⟩) hbs).trans pxs; (first | (have tx1 := tr_grown (xcell_c ws _ x _) hg1 (fun h => by have h2 : some (ws.heap.size + 1) = some ws.heap.size := h; simp at h2)) | (have tx1 := tr_grown (xcell_f ws _ x _) hg1 (fun h => by have h2 : some ws.heap.size = some (ws.heap.size + 1) := h; simp at h2)) | skip)))
              all_goals
                go_wp2_with fail
                go_roundw
                case rel => exact ⟨i + 1, by omega, by go_num, own_of_add (own_base ho3 (Nat.le_trans hsz HBJ.out.size)) (by rw [← FIN.out]; simp only [List.length_append, List.length_cons, List.length_nil]; omega) (by rw [← FIN.out]; simp only [List.map_append, List.map_cons, List.map_nil, List.nil_append, List.append_assoc, List.cons_append]), HB.out.trans ((HBJ.out.trans (hB3.mono HBJ.out.size)).mono hsz)⟩
                case measure => simp [intOf]; omega
    · have i1 : ¬ (i : Int) < (n : Int) := by omega
      obtain rfl : i = n := by omega
      rw [List.take_of_length_le (by have := HN.out; omega)] at hO
      have hlen : (rs ltS D).length = i := by rw [rs_len]; exact HN.out.symm
      obtain ⟨B, c, rfl, hTB⟩ := TR.of_own hO
      rw [hlen]
      clear hO
      go_wp2_with fail
      go_ret
      exact ⟨B, ⟨c, rfl⟩, hTB, hB⟩
end Go.Proofs.YtinidiiachedbaaDoor
