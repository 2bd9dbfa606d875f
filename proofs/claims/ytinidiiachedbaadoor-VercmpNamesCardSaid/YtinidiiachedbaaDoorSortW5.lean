/- Walks: Go's stable sort at texts: merging in place. -/
import Derived.Test.YtinidiiachedbaaDoorSortW4
namespace Go.Proofs.YtinidiiachedbaaDoor
open Go.RowKit Go.Shelf

theorem rowU {A U V C : List ByteArray} {a c : Nat} (ha : a = A.length) (h1 : a ≤ c) (h2 : c < a + U.length) : (A ++ U ++ V ++ C)[c]? = U[c - a]? := by
  rw [List.append_assoc, List.append_assoc, List.getElem?_append_right (by omega), List.getElem?_append_left (by omega), ha]
theorem rowV {A U V C : List ByteArray} {m c : Nat} (hm : m = A.length + U.length) (h1 : m ≤ c) (h2 : c < m + V.length) : (A ++ U ++ V ++ C)[c]? = V[c - m]? := by
  rw [List.append_assoc, List.getElem?_append_right (by simp; omega), List.getElem?_append_left (by simp; omega)]
  congr 1; simp; omega
theorem srt_at {l : List ByteArray} (h : Srt ltS l) {i j : Nat} {x y : ByteArray} (hij : i ≤ j) (hx : l[i]? = some x) (hy : l[j]? = some y) : ltS y x = false := by
  obtain ⟨h1, rfl⟩ := List.getElem?_eq_some_iff.1 hx
  obtain ⟨h2, rfl⟩ := List.getElem?_eq_some_iff.1 hy
  rcases Nat.lt_or_eq_of_le hij with e | e
  · exact List.pairwise_iff_getElem.1 h i j h1 h2 e
  · subst e; exact ordS.irrefl _
/-- where the two parts are cut, the merge is cut -/
theorem mg_cut {U V : List ByteArray} (hU : Srt ltS U) (hV : Srt ltS V) (p q : Nat)
    (h1 : p = 0 ∨ V.length ≤ q ∨ ∃ u v, U[p - 1]? = some u ∧ V[q]? = some v ∧ ltS v u = false)
    (h2 : U.length ≤ p ∨ q = 0 ∨ ∃ u v, U[p]? = some u ∧ V[q - 1]? = some v ∧ ltS v u = true) :
    mg ltS U V = mg ltS (U.take p) (V.take q) ++ mg ltS (U.drop p) (V.drop q) := by
  conv => lhs; arg 2; rw [← List.take_append_drop p U]
  conv => lhs; arg 3; rw [← List.take_append_drop q V]
  refine mg_split _ _ _ _ _ (Nat.le_refl _) ?_ ?_
  · intro x hx y hy
    obtain ⟨i, hi, rfl⟩ := List.getElem_of_mem hx
    obtain ⟨j, hj, rfl⟩ := List.getElem_of_mem hy
    rw [List.length_take] at hi
    rw [List.length_drop] at hj
    rw [List.getElem_take, List.getElem_drop]
    rcases h1 with h | h | ⟨u, v, hu, hv, hl⟩
    · omega
    · omega
    · have a1 := srt_at hU (i := i) (j := p - 1) (by omega) (List.getElem?_eq_getElem (by omega)) hu
      have a2 := srt_at hV (i := q) (j := q + j) (by omega) hv (List.getElem?_eq_getElem (by omega))
      exact ordS.ntrans _ _ _ (ordS.ntrans _ _ _ a2 hl) a1
  · intro x hx y hy
    obtain ⟨i, hi, rfl⟩ := List.getElem_of_mem hx
    obtain ⟨j, hj, rfl⟩ := List.getElem_of_mem hy
    rw [List.length_drop] at hi
    rw [List.length_take] at hj
    rw [List.getElem_take, List.getElem_drop]
    rcases h2 with h | h | ⟨u, v, hu, hv, hl⟩
    · omega
    · omega
    · have a1 := srt_at hU (i := p) (j := p + i) (by omega) hu (List.getElem?_eq_getElem (by omega))
      have a2 := srt_at hV (i := j) (j := q - 1) (by omega) (List.getElem?_eq_getElem (by omega)) hv
      exact ordS.lt_le (ordS.le_lt a2 hl) a1
def SymC (g cap N : Nat) (A U V C : List ByteArray) (a m b : Nat) (w : World) : Prop :=
  Calls Tryd.prog 108 #[.slice (some ⟨g, 0, none⟩) N cap, .int .i64 (a : Int), .int .i64 (m : Int), .int .i64 (b : Int), cmpF] w fun e w' => e = .returned (.tuple #[]) ∧ RowS w' g (A ++ mg ltS U V ++ C) ∧ Turn w w' g
set_option maxRecDepth 100000 in
set_option maxHeartbeats 40000000 in
theorem symGen_any (g cap N : Nat) (A U V C : List ByteArray) (a m b : Nat) (w : World) (ha : a = A.length) (hm : m = A.length + U.length) (hb : b = A.length + U.length + V.length) (hu : 2 ≤ U.length) (hv : 2 ≤ V.length) (hN : N = (A ++ U ++ V ++ C).length) (hN2 : N ≤ 1000000)
    (hsU : Srt ltS U) (hsV : Srt ltS V) (hsh : Sh (U ++ V)) (hrow : RowS w g (A ++ U ++ V ++ C))
    (IH : ∀ (A' U' V' C' : List ByteArray) (a' m' b' : Nat) (W : World), U'.length + V'.length < U.length + V.length → a' = A'.length → m' = A'.length + U'.length → b' = A'.length + U'.length + V'.length → 0 < U'.length → 0 < V'.length → N = (A' ++ U' ++ V' ++ C').length →
      Srt ltS U' → Srt ltS V' → Sh (U' ++ V') → RowS W g (A' ++ U' ++ V' ++ C') → SymC g cap N A' U' V' C' a' m' b' W) : SymC g cap N A U V C a m b w := by
  unfold SymC at *
  have hl : a + U.length + V.length + C.length = N := by rw [hN, ha]; simp; omega
  have hm2 : m = a + U.length := by omega
  have hb2 : b = m + V.length := by omega
  obtain ⟨mid, hmid⟩ : ∃ k, k = (a + b) / 2 := ⟨_, rfl⟩
  have hd0 : ((a : Int) + (b : Int)) / 2 = (mid : Int) := by omega
  have hmb : mid < b := by omega
  have ham : a < mid := by omega
  obtain ⟨lo, hi, hlh, hsel⟩ : ∃ lo hi, (a ≤ lo ∧ mid + m ≤ lo + b ∧ hi ≤ m ∧ hi ≤ mid ∧ lo ≤ hi ∧ (lo = a ∨ lo + b = mid + m) ∧ (hi = m ∨ hi = mid)) ∧ ((mid < m ∧ lo + b = mid + m ∧ hi = mid) ∨ (¬ mid < m ∧ lo = a ∧ hi = m)) := by
    by_cases h : mid < m
    · exact ⟨mid + m - b, mid, by omega, .inl (by omega)⟩
    · exact ⟨a, m, by omega, .inr (by omega)⟩
  obtain ⟨k1, k2, k3, k4, k5, k6, k7⟩ := hlh
  have HA := Lib.hid ha
  have HM := Lib.hid hm
  have HM2 := Lib.hid hm2
  have HB2 := Lib.hid hb2
  have HL := Lib.hid hl
  have HMID := Lib.hid hmid
  have HSU := Lib.hid hsU
  have HSV := Lib.hid hsV
  have HSH := Lib.hid hsh
  have HROW := Lib.hid hrow
  have HI := Lib.hid IH
  have HK6 := Lib.hid k6
  have HK7 := Lib.hid k7
  have q1 : ((m : Int) - (a : Int) == 1) = false := by simp only [beq_eq_false_iff_ne]; omega
  have q2 : ((b : Int) - (m : Int) == 1) = false := by simp only [beq_eq_false_iff_ne]; omega
  have q3 : (a : Int) + 2 ≤ (m : Int) := by omega
  have q4 : (m : Int) + 2 ≤ (b : Int) := by omega
  have q5 : (b : Int) ≤ (N : Int) := by omega
  have q6 : (N : Int) ≤ 1000000 := by omega
  have q7 : ¬ (m : Int) - (a : Int) = 1 := by omega
  have q8 : ¬ (b : Int) - (m : Int) = 1 := by omega
  clear ha hm hm2 hb hb2 hl hmid hsU hsV hsh hrow IH k6 k7 hN hu hv
  have HSEL := Lib.hid hsel
  clear hsel
  rcases HSEL.out with ⟨c1, c2, c3⟩ | ⟨c1, c2, c3⟩
  · have c4 : (mid : Int) < (m : Int) := by omega
    have c5 : (mid : Int) + (m : Int) - (b : Int) = (lo : Int) := by omega
    have C3 := Lib.hid c3
    clear c2 c3 HSEL
    go_enter Tryd.func108, Tryd.ntmps108
    go_wp2
    go_loopw [20, 21, 23] (fun ss sr _ wr => ∃ (s r : Nat), ss = .int .i64 (s : Int) ∧ sr = .int .i64 (r : Int) ∧ lo ≤ s ∧ s ≤ r ∧ r ≤ hi ∧ RowKit.Hid (s = lo ∨ ∃ u v, U[s - 1 - a]? = some u ∧ V[mid - s]? = some v ∧ ltS v u = false) ∧ RowKit.Hid (r = hi ∨ ∃ u v, U[r - a]? = some u ∧ V[mid - 1 - r]? = some v ∧ ltS v u = true) ∧ RowS wr g (A ++ U ++ V ++ C) ∧ Turn w wr g) (fun s r _ _ => (intOf r).toNat - (intOf s).toNat)
    case atStart => exact ⟨lo, hi, val_int (by omega), val_int (by first | omega | (have := C3.out; omega)), by omega, by omega, by omega, Lib.hid (.inl rfl), Lib.hid (.inl rfl), HROW.out, Turn.refl⟩
    case round =>
      obtain ⟨s, r, rfl, rfl, h1, h2, h3, HLo, HHi, hR, hT⟩ := hrel
      by_cases hlt : s < r
      · obtain ⟨hh1, hh2⟩ := half_nat s r hlt
        generalize hh : (s + r) / 2 = c at *
        have HH := Lib.hid hh
        have hd : ((s : Int) + (r : Int)) / 2 = (c : Int) := by omega
        clear hh
        obtain ⟨q, hq⟩ : ∃ q, q = mid + m - 1 - c := ⟨_, rfl⟩
        have HQ := Lib.hid hq
        have hqm : m ≤ q := by omega
        have hqb : q < b := by omega
        have u1 : IntKind.i64.wrap ((mid : Int) + (m : Int) - 1 - (c : Int)) = (q : Int) := by rw [IntWalk.i64_in _ (by omega)]; omega
        clear hq
        obtain ⟨u, hu⟩ : ∃ u, U[c - a]? = some u := ⟨U[c - a]'(by have := HM2.out; omega), List.getElem?_eq_getElem _⟩
        obtain ⟨v, hv⟩ : ∃ v, V[q - m]? = some v := ⟨V[q - m]'(by have := HB2.out; omega), List.getElem?_eq_getElem _⟩
        have p1 := (hR.at_ (k := c) ((rowU HA.out (by omega) (by have := HM2.out; omega)).trans hu)).1
        have p2 := (hR.at_ (k := q) ((rowV HM.out hqm (by have := HB2.out; omega)).trans hv)).1
        have hus : u.size ≤ 1000000 := HSH.out u (List.mem_append_left _ (List.mem_of_getElem? hu))
        have hvs : v.size ≤ 1000000 := HSH.out v (List.mem_append_right _ (List.mem_of_getElem? hv))
        have K := Lib.hid (fun W => sortCmp_any v u W hvs hus)
        have HU := Lib.hid hu
        have HV := Lib.hid (show V[mid - 1 - c]? = some v by rw [← hv]; congr 1; have := HQ.out; omega)
        have b1 : (0 : Int) ≤ (c : Int) := by omega
        have b2 : (c : Int) < (N : Int) := by omega
        have b3 : (0 : Int) ≤ (q : Int) := by omega
        have b4 : (q : Int) < (N : Int) := by omega
        clear hu hv
        cases hc : ltS v u with
        | false =>
          have HC := Lib.hid hc
          have hc3 : ¬ comp v.toList u.toList < 0 := by unfold ltS at hc; simpa using hc
          generalize comp v.toList u.toList = z at *
          have hc4 : decide (z < 0) = false := decide_eq_false hc3
          clear hc
          go_wp2
          go_region_held3 (fun W => W.cell? ⟨g, q, none⟩ = some (.string v) ∧ W.cell? ⟨g, c, none⟩ = some (.string u) ∧ RowS W g (A ++ U ++ V ++ C) ∧ Turn w W g) (first | exact keepR (by assumption) hbb | exact ⟨p2, p1, hR.drew, hT.drew⟩ | go_keep) (first | (go_at_call 39; refine (K.out _).mono ?_; rintro e' w' ⟨rfl, hbb⟩))
          rename_i hq
          clear p1 p2 hR hT
          go_wp2
          go_roundw
          case rel => exact ⟨c + 1, r, by go_num, rfl, by omega, by omega, by omega, Lib.hid (.inr ⟨u, v, by rw [← HU.out]; first | done | (congr 1; done) | (congr 1; omega), by rw [← HV.out]; first | done | (congr 1; done) | (congr 1; omega), HC.out⟩), HHi, hq.2.2.1, hq.2.2.2⟩
          case measure => simp [intOf]; omega
        | true =>
          have HC := Lib.hid hc
          have hc3 : comp v.toList u.toList < 0 := by unfold ltS at hc; simpa using hc
          generalize comp v.toList u.toList = z at *
          have hc4 : decide (z < 0) = true := decide_eq_true hc3
          clear hc
          go_wp2
          go_region_held3 (fun W => W.cell? ⟨g, q, none⟩ = some (.string v) ∧ W.cell? ⟨g, c, none⟩ = some (.string u) ∧ RowS W g (A ++ U ++ V ++ C) ∧ Turn w W g) (first | exact keepR (by assumption) hbb | exact ⟨p2, p1, hR.drew, hT.drew⟩ | go_keep) (first | (go_at_call 39; refine (K.out _).mono ?_; rintro e' w' ⟨rfl, hbb⟩))
          rename_i hq
          clear p1 p2 hR hT
          go_wp2
          go_roundw
          case rel => exact ⟨s, c, rfl, rfl, by omega, by omega, by omega, HLo, Lib.hid (.inr ⟨u, v, HU.out, HV.out, HC.out⟩), hq.2.2.1, hq.2.2.2⟩
          case measure => simp [intOf]; omega
      · have hsr : s = r := by omega
        subst hsr
        obtain ⟨en, hen⟩ : ∃ en, en = mid + m - s := ⟨_, rfl⟩
        have hde : (mid : Int) + (m : Int) - (s : Int) = (en : Int) := by omega
        have HEN := Lib.hid hen
        have HCUT := Lib.hid (mg_cut HSU.out HSV.out (s - a) (mid - s) (by
          rcases HLo.out with e | ⟨u, v, e1, e2, e3⟩
          · rcases HK6.out with e' | e'
            · left; omega
            · right; left; have := HB2.out; omega
          · right; right; exact ⟨u, v, by rw [← e1]; congr 1; omega, e2, e3⟩) (by
          rcases HHi.out with e | ⟨u, v, e1, e2, e3⟩
          · rcases HK7.out with e' | e'
            · left; have := HM2.out; omega
            · right; left; omega
          · right; right; exact ⟨u, v, e1, by rw [← e2]; congr 1; omega, e3⟩))
        obtain ⟨U1, hU1⟩ : ∃ l, l = U.take (s - a) := ⟨_, rfl⟩
        obtain ⟨U2, hU2⟩ : ∃ l, l = U.drop (s - a) := ⟨_, rfl⟩
        obtain ⟨V1, hV1⟩ : ∃ l, l = V.take (mid - s) := ⟨_, rfl⟩
        obtain ⟨V2, hV2⟩ : ∃ l, l = V.drop (mid - s) := ⟨_, rfl⟩
        have eU : U = U1 ++ U2 := by rw [hU1, hU2, List.take_append_drop]
        have eV : V = V1 ++ V2 := by rw [hV1, hV2, List.take_append_drop]
        have l1 : U1.length = s - a := by rw [hU1, List.length_take]; have := HM2.out; omega
        have l2 : U2.length = m - s := by rw [hU2, List.length_drop]; have := HM2.out; omega
        have l3 : V1.length = mid - s := by rw [hV1, List.length_take]; have := HB2.out; omega
        have l4 : V2.length = b - en := by rw [hV2, List.length_drop]; have := HB2.out; omega
        have hRW := Lib.hid (show RowS wr g (A ++ U1 ++ U2 ++ V1 ++ V2 ++ C) by rw [eU, eV] at hR; simpa using hR)
        have sU := HSU.out
        have sV := HSV.out
        rw [eU] at sU
        rw [eV] at sV
        have s1 := (List.pairwise_append.1 sU).1
        have s2 := (List.pairwise_append.1 sU).2.1
        have s3 := (List.pairwise_append.1 sV).1
        have s4 := (List.pairwise_append.1 sV).2.1
        have sh1 : Sh (U1 ++ V1) := fun x hx => HSH.out x (by rw [eU, eV]; simp at hx ⊢; rcases hx with h | h <;> simp [h])
        have sh2 : Sh (U2 ++ V2) := fun x hx => HSH.out x (by rw [eU, eV]; simp at hx ⊢; rcases hx with h | h <;> simp [h])
        have hcut : mg ltS U V = mg ltS U1 V1 ++ mg ltS U2 V2 := by rw [HCUT.out, ← hU1, ← hU2, ← hV1, ← hV2]
        have hlen : A.length + U1.length + U2.length + V1.length + V2.length + C.length = N := by have := HL.out; have := HA.out; have := HM2.out; have := HB2.out; omega
        have ROT := Lib.hid (fun (h1 : 0 < U2.length) (h2 : 0 < V1.length) W (hW : RowS W g (A ++ U1 ++ U2 ++ V1 ++ V2 ++ C)) =>
          (rotate_any g cap N cmpF (A ++ U1) U2 V1 (V2 ++ C) s m en W (by have := HA.out; simp; omega) (by have := HA.out; simp; omega) (by have := HA.out; simp; omega) h1 h2 (by simp; omega) hN2 (by simpa using hW)).mono fun e w' (hh : _ ∧ RowS w' g (A ++ U1 ++ V1 ++ U2 ++ (V2 ++ C)) ∧ Turn W w' g) => (⟨hh.1, by have := hh.2.1; simpa using this, hh.2.2⟩ : e = .returned (.tuple #[]) ∧ RowS w' g (A ++ U1 ++ V1 ++ U2 ++ V2 ++ C) ∧ Turn W w' g))
        have M1 := Lib.hid (fun (h1 : 0 < U1.length) (h2 : 0 < V1.length) W (hW : RowS W g (A ++ U1 ++ V1 ++ U2 ++ V2 ++ C)) =>
          (HI.out A U1 V1 (U2 ++ V2 ++ C) a s mid W (by rw [eU, eV]; simp; omega) HA.out (by have := HA.out; omega) (by have := HA.out; omega) h1 h2 (by simp; omega) s1 s3 sh1 (by simpa using hW)).mono fun e w' (hh : _ ∧ RowS w' g (A ++ mg ltS U1 V1 ++ (U2 ++ V2 ++ C)) ∧ Turn W w' g) => (⟨hh.1, by have := hh.2.1; simpa using this, hh.2.2⟩ : e = .returned (.tuple #[]) ∧ RowS w' g (A ++ mg ltS U1 V1 ++ U2 ++ V2 ++ C) ∧ Turn W w' g))
        have M2 := Lib.hid (fun (h1 : 0 < U2.length) (h2 : 0 < V2.length) W (hW : RowS W g (A ++ mg ltS U1 V1 ++ U2 ++ V2 ++ C)) =>
          (HI.out (A ++ mg ltS U1 V1) U2 V2 C mid en b W (by rw [eU, eV]; simp; omega) (by have := HA.out; simp [mg_len]; omega) (by have := HA.out; simp [mg_len]; omega) (by have := HA.out; simp [mg_len]; omega) h1 h2 (by simp [mg_len]; omega) s2 s4 sh2 hW).mono fun e w' (hh : _ ∧ RowS w' g (A ++ mg ltS U1 V1 ++ mg ltS U2 V2 ++ C) ∧ Turn W w' g) => (⟨hh.1, by rw [hcut]; have := hh.2.1; simpa using this, hh.2.2⟩ : e = .returned (.tuple #[]) ∧ RowS w' g (A ++ mg ltS U V ++ C) ∧ Turn W w' g))
        have HCT := Lib.hid hcut
        have L1 := Lib.hid l1
        have L2 := Lib.hid l2
        have L3 := Lib.hid l3
        have L4 := Lib.hid l4
        have hT0 := Lib.hid hT
        have hes : (s : Int) ≤ (en : Int) := by omega
        clear hU1 hU2 hV1 hV2 eU eV l1 l2 l3 l4 hR sU sV s1 s2 s3 s4 sh1 sh2 hcut hlen hen HCUT hT hlt HLo HHi
        rename World => w0
        rcases (show (a < s ∧ s < m ∧ s < mid ∧ en < b) ∨ (a < s ∧ s < m ∧ s < mid ∧ ¬ en < b) ∨ (a < s ∧ s < m ∧ ¬ s < mid ∧ en < b) ∨ (a < s ∧ ¬ s < m ∧ s < mid ∧ en < b) ∨ (a < s ∧ ¬ s < m ∧ s < mid ∧ ¬ en < b) ∨ (a < s ∧ ¬ s < m ∧ ¬ s < mid ∧ en < b) ∨ (¬ a < s ∧ s < m ∧ s < mid ∧ en < b) ∨ (¬ a < s ∧ s < m ∧ s < mid ∧ ¬ en < b) ∨ (¬ a < s ∧ s < m ∧ ¬ s < mid ∧ en < b) by omega) with ⟨d1, d2, d3, d4⟩ | ⟨d1, d2, d3, d4⟩ | ⟨d1, d2, d3, d4⟩ | ⟨d1, d2, d3, d4⟩ | ⟨d1, d2, d3, d4⟩ | ⟨d1, d2, d3, d4⟩ | ⟨d1, d2, d3, d4⟩ | ⟨d1, d2, d3, d4⟩ | ⟨d1, d2, d3, d4⟩
        · skip
          have f1 : (m : Int) < (en : Int) := by omega
          have f2 : (mid : Int) < (en : Int) := by omega
          go_wp2_with fail
          go_at_call 133
          refine (ROT.out (by have := L2.out; omega) (by have := L3.out; omega) _ hRW.out).mono ?_
          rintro e1 w1 ⟨rfl, hr1, ht1⟩
          have R1 := Lib.hid hr1
          have T1 := Lib.hid (hT0.out.trans ht1)
          clear hr1 ht1
          go_wp2_with fail
          go_at_call 108
          refine (M1.out (by have := L1.out; omega) (by have := L3.out; omega) _ R1.out).mono ?_
          rintro e2 w2 ⟨rfl, hr1, ht1⟩
          have R2 := Lib.hid hr1
          have T2 := Lib.hid (T1.out.trans ht1)
          clear hr1 ht1
          go_wp2_with fail
          go_at_call 108
          refine (M2.out (by have := L2.out; omega) (by have := L4.out; omega) _ R2.out).mono ?_
          rintro e3 w3 ⟨rfl, hr1, ht1⟩
          have R3 := Lib.hid hr1
          have T3 := Lib.hid (T2.out.trans ht1)
          clear hr1 ht1
          go_wp2
          all_goals (go_end0; exact ⟨rfl, by have h := R3.out; simpa using h, T3.out⟩)
        · skip
          have z4 : V2 = [] := List.eq_nil_of_length_eq_zero (by have := L4.out; omega)
          have f1 : (m : Int) < (en : Int) := by omega
          have f2 : (mid : Int) < (en : Int) := by omega
          have ZZ := Lib.hid (z4)
          clear z4
          go_wp2_with fail
          go_at_call 133
          refine (ROT.out (by have := L2.out; omega) (by have := L3.out; omega) _ hRW.out).mono ?_
          rintro e1 w1 ⟨rfl, hr1, ht1⟩
          have R1 := Lib.hid hr1
          have T1 := Lib.hid (hT0.out.trans ht1)
          clear hr1 ht1
          go_wp2_with fail
          go_at_call 108
          refine (M1.out (by have := L1.out; omega) (by have := L3.out; omega) _ R1.out).mono ?_
          rintro e2 w2 ⟨rfl, hr1, ht1⟩
          have R2 := Lib.hid hr1
          have T2 := Lib.hid (T1.out.trans ht1)
          clear hr1 ht1
          have R3 := Lib.hid (show RowS _ g (A ++ mg ltS U V ++ C) by
            rw [HCT.out]
            have h := R2.out
            have e : U2 = [] ∨ V2 = [] := by exact .inr (List.eq_nil_of_length_eq_zero (by have := L4.out; omega))
            rcases e with e | e <;> rw [e] at h ⊢ <;> simpa [mg_nil, mg_nil'] using h)
          go_wp2
          all_goals (go_end0; exact ⟨rfl, by have h := R3.out; simpa using h, T2.out⟩)
        · skip
          have z3 : V1 = [] := List.eq_nil_of_length_eq_zero (by have := L3.out; omega)
          have f1 : ¬ (m : Int) < (en : Int) := by omega
          have f2 : (mid : Int) < (en : Int) := by omega
          have ZZ := Lib.hid (z3)
          clear z3
          have R1 := Lib.hid (show RowS w0 g (A ++ U1 ++ V1 ++ U2 ++ V2 ++ C) by
            have h := hRW.out
            have e : U2 = [] ∨ V1 = [] := by exact .inr (List.eq_nil_of_length_eq_zero (by have := L3.out; omega))
            rcases e with e | e <;> rw [e] at h ⊢ <;> simpa using h)
          have R2 := Lib.hid (show RowS _ g (A ++ mg ltS U1 V1 ++ U2 ++ V2 ++ C) by
            have h := R1.out
            have e : U1 = [] ∨ V1 = [] := by exact .inr (List.eq_nil_of_length_eq_zero (by have := L3.out; omega))
            rcases e with e | e <;> rw [e] at h ⊢ <;> simpa [mg_nil, mg_nil'] using h)
          go_wp2_with fail
          go_at_call 108
          refine (M2.out (by have := L2.out; omega) (by have := L4.out; omega) _ R2.out).mono ?_
          rintro e3 w3 ⟨rfl, hr1, ht1⟩
          have R3 := Lib.hid hr1
          have T3 := Lib.hid (hT0.out.trans ht1)
          clear hr1 ht1
          go_wp2
          all_goals (go_end0; exact ⟨rfl, by have h := R3.out; simpa using h, T3.out⟩)
        · skip
          have z2 : U2 = [] := List.eq_nil_of_length_eq_zero (by have := L2.out; omega)
          have f1 : (m : Int) < (en : Int) := by omega
          have f2 : ¬ (mid : Int) < (en : Int) := by omega
          have ZZ := Lib.hid (z2)
          clear z2
          have R1 := Lib.hid (show RowS w0 g (A ++ U1 ++ V1 ++ U2 ++ V2 ++ C) by
            have h := hRW.out
            have e : U2 = [] ∨ V1 = [] := by exact .inl (List.eq_nil_of_length_eq_zero (by have := L2.out; omega))
            rcases e with e | e <;> rw [e] at h ⊢ <;> simpa using h)
          go_wp2_with fail
          go_at_call 108
          refine (M1.out (by have := L1.out; omega) (by have := L3.out; omega) _ R1.out).mono ?_
          rintro e2 w2 ⟨rfl, hr1, ht1⟩
          have R2 := Lib.hid hr1
          have T2 := Lib.hid (hT0.out.trans ht1)
          clear hr1 ht1
          have R3 := Lib.hid (show RowS _ g (A ++ mg ltS U V ++ C) by
            rw [HCT.out]
            have h := R2.out
            have e : U2 = [] ∨ V2 = [] := by exact .inl (List.eq_nil_of_length_eq_zero (by have := L2.out; omega))
            rcases e with e | e <;> rw [e] at h ⊢ <;> simpa [mg_nil, mg_nil'] using h)
          go_wp2
          all_goals (go_end0; exact ⟨rfl, by have h := R3.out; simpa using h, T2.out⟩)
        · skip
          have z2 : U2 = [] := List.eq_nil_of_length_eq_zero (by have := L2.out; omega)
          have z4 : V2 = [] := List.eq_nil_of_length_eq_zero (by have := L4.out; omega)
          have f1 : (m : Int) < (en : Int) := by omega
          have f2 : ¬ (mid : Int) < (en : Int) := by omega
          have ZZ := Lib.hid (And.intro z2 z4)
          clear z2 z4
          have R1 := Lib.hid (show RowS w0 g (A ++ U1 ++ V1 ++ U2 ++ V2 ++ C) by
            have h := hRW.out
            have e : U2 = [] ∨ V1 = [] := by exact .inl (List.eq_nil_of_length_eq_zero (by have := L2.out; omega))
            rcases e with e | e <;> rw [e] at h ⊢ <;> simpa using h)
          go_wp2_with fail
          go_at_call 108
          refine (M1.out (by have := L1.out; omega) (by have := L3.out; omega) _ R1.out).mono ?_
          rintro e2 w2 ⟨rfl, hr1, ht1⟩
          have R2 := Lib.hid hr1
          have T2 := Lib.hid (hT0.out.trans ht1)
          clear hr1 ht1
          have R3 := Lib.hid (show RowS _ g (A ++ mg ltS U V ++ C) by
            rw [HCT.out]
            have h := R2.out
            have e : U2 = [] ∨ V2 = [] := by exact .inl (List.eq_nil_of_length_eq_zero (by have := L2.out; omega))
            rcases e with e | e <;> rw [e] at h ⊢ <;> simpa [mg_nil, mg_nil'] using h)
          go_wp2
          all_goals (go_end0; exact ⟨rfl, by have h := R3.out; simpa using h, T2.out⟩)
        · skip
          have z2 : U2 = [] := List.eq_nil_of_length_eq_zero (by have := L2.out; omega)
          have z3 : V1 = [] := List.eq_nil_of_length_eq_zero (by have := L3.out; omega)
          have f1 : ¬ (m : Int) < (en : Int) := by omega
          have f2 : ¬ (mid : Int) < (en : Int) := by omega
          have ZZ := Lib.hid (And.intro z2 z3)
          clear z2 z3
          have R1 := Lib.hid (show RowS w0 g (A ++ U1 ++ V1 ++ U2 ++ V2 ++ C) by
            have h := hRW.out
            have e : U2 = [] ∨ V1 = [] := by exact .inl (List.eq_nil_of_length_eq_zero (by have := L2.out; omega))
            rcases e with e | e <;> rw [e] at h ⊢ <;> simpa using h)
          have R2 := Lib.hid (show RowS _ g (A ++ mg ltS U1 V1 ++ U2 ++ V2 ++ C) by
            have h := R1.out
            have e : U1 = [] ∨ V1 = [] := by exact .inr (List.eq_nil_of_length_eq_zero (by have := L3.out; omega))
            rcases e with e | e <;> rw [e] at h ⊢ <;> simpa [mg_nil, mg_nil'] using h)
          have R3 := Lib.hid (show RowS _ g (A ++ mg ltS U V ++ C) by
            rw [HCT.out]
            have h := R2.out
            have e : U2 = [] ∨ V2 = [] := by exact .inl (List.eq_nil_of_length_eq_zero (by have := L2.out; omega))
            rcases e with e | e <;> rw [e] at h ⊢ <;> simpa [mg_nil, mg_nil'] using h)
          go_wp2
          all_goals (go_end0; exact ⟨rfl, by have h := R3.out; simpa using h, hT0.out⟩)
        · skip
          have z1 : U1 = [] := List.eq_nil_of_length_eq_zero (by have := L1.out; omega)
          have f1 : (m : Int) < (en : Int) := by omega
          have f2 : (mid : Int) < (en : Int) := by omega
          have ZZ := Lib.hid (z1)
          clear z1
          go_wp2_with fail
          go_at_call 133
          refine (ROT.out (by have := L2.out; omega) (by have := L3.out; omega) _ hRW.out).mono ?_
          rintro e1 w1 ⟨rfl, hr1, ht1⟩
          have R1 := Lib.hid hr1
          have T1 := Lib.hid (hT0.out.trans ht1)
          clear hr1 ht1
          have R2 := Lib.hid (show RowS _ g (A ++ mg ltS U1 V1 ++ U2 ++ V2 ++ C) by
            have h := R1.out
            have e : U1 = [] ∨ V1 = [] := by exact .inl (List.eq_nil_of_length_eq_zero (by have := L1.out; omega))
            rcases e with e | e <;> rw [e] at h ⊢ <;> simpa [mg_nil, mg_nil'] using h)
          go_wp2_with fail
          go_at_call 108
          refine (M2.out (by have := L2.out; omega) (by have := L4.out; omega) _ R2.out).mono ?_
          rintro e3 w3 ⟨rfl, hr1, ht1⟩
          have R3 := Lib.hid hr1
          have T3 := Lib.hid (T1.out.trans ht1)
          clear hr1 ht1
          go_wp2
          all_goals (go_end0; exact ⟨rfl, by have h := R3.out; simpa using h, T3.out⟩)
        · skip
          have z1 : U1 = [] := List.eq_nil_of_length_eq_zero (by have := L1.out; omega)
          have z4 : V2 = [] := List.eq_nil_of_length_eq_zero (by have := L4.out; omega)
          have f1 : (m : Int) < (en : Int) := by omega
          have f2 : (mid : Int) < (en : Int) := by omega
          have ZZ := Lib.hid (And.intro z1 z4)
          clear z1 z4
          go_wp2_with fail
          go_at_call 133
          refine (ROT.out (by have := L2.out; omega) (by have := L3.out; omega) _ hRW.out).mono ?_
          rintro e1 w1 ⟨rfl, hr1, ht1⟩
          have R1 := Lib.hid hr1
          have T1 := Lib.hid (hT0.out.trans ht1)
          clear hr1 ht1
          have R2 := Lib.hid (show RowS _ g (A ++ mg ltS U1 V1 ++ U2 ++ V2 ++ C) by
            have h := R1.out
            have e : U1 = [] ∨ V1 = [] := by exact .inl (List.eq_nil_of_length_eq_zero (by have := L1.out; omega))
            rcases e with e | e <;> rw [e] at h ⊢ <;> simpa [mg_nil, mg_nil'] using h)
          have R3 := Lib.hid (show RowS _ g (A ++ mg ltS U V ++ C) by
            rw [HCT.out]
            have h := R2.out
            have e : U2 = [] ∨ V2 = [] := by exact .inr (List.eq_nil_of_length_eq_zero (by have := L4.out; omega))
            rcases e with e | e <;> rw [e] at h ⊢ <;> simpa [mg_nil, mg_nil'] using h)
          go_wp2
          all_goals (go_end0; exact ⟨rfl, by have h := R3.out; simpa using h, T1.out⟩)
        · skip
          have z1 : U1 = [] := List.eq_nil_of_length_eq_zero (by have := L1.out; omega)
          have z3 : V1 = [] := List.eq_nil_of_length_eq_zero (by have := L3.out; omega)
          have f1 : ¬ (m : Int) < (en : Int) := by omega
          have f2 : (mid : Int) < (en : Int) := by omega
          have ZZ := Lib.hid (And.intro z1 z3)
          clear z1 z3
          have R1 := Lib.hid (show RowS w0 g (A ++ U1 ++ V1 ++ U2 ++ V2 ++ C) by
            have h := hRW.out
            have e : U2 = [] ∨ V1 = [] := by exact .inr (List.eq_nil_of_length_eq_zero (by have := L3.out; omega))
            rcases e with e | e <;> rw [e] at h ⊢ <;> simpa using h)
          have R2 := Lib.hid (show RowS _ g (A ++ mg ltS U1 V1 ++ U2 ++ V2 ++ C) by
            have h := R1.out
            have e : U1 = [] ∨ V1 = [] := by exact .inl (List.eq_nil_of_length_eq_zero (by have := L1.out; omega))
            rcases e with e | e <;> rw [e] at h ⊢ <;> simpa [mg_nil, mg_nil'] using h)
          go_wp2_with fail
          go_at_call 108
          refine (M2.out (by have := L2.out; omega) (by have := L4.out; omega) _ R2.out).mono ?_
          rintro e3 w3 ⟨rfl, hr1, ht1⟩
          have R3 := Lib.hid hr1
          have T3 := Lib.hid (hT0.out.trans ht1)
          clear hr1 ht1
          go_wp2
          all_goals (go_end0; exact ⟨rfl, by have h := R3.out; simpa using h, T3.out⟩)
  · have c4 : ¬ (mid : Int) < (m : Int) := by omega
    have C2 := Lib.hid c2
    have C3 := Lib.hid c3
    clear c2 c3 HSEL
    go_enter Tryd.func108, Tryd.ntmps108
    go_wp2
    go_loopw [20, 21, 23] (fun ss sr _ wr => ∃ (s r : Nat), ss = .int .i64 (s : Int) ∧ sr = .int .i64 (r : Int) ∧ lo ≤ s ∧ s ≤ r ∧ r ≤ hi ∧ RowKit.Hid (s = lo ∨ ∃ u v, U[s - 1 - a]? = some u ∧ V[mid - s]? = some v ∧ ltS v u = false) ∧ RowKit.Hid (r = hi ∨ ∃ u v, U[r - a]? = some u ∧ V[mid - 1 - r]? = some v ∧ ltS v u = true) ∧ RowS wr g (A ++ U ++ V ++ C) ∧ Turn w wr g) (fun s r _ _ => (intOf r).toNat - (intOf s).toNat)
    case atStart => exact ⟨lo, hi, val_int (by first | omega | (have := C2.out; omega) | (have := C3.out; omega)), val_int (by first | omega | (have := C2.out; omega) | (have := C3.out; omega)), by omega, by omega, by omega, Lib.hid (.inl rfl), Lib.hid (.inl rfl), HROW.out, Turn.refl⟩
    case round =>
      obtain ⟨s, r, rfl, rfl, h1, h2, h3, HLo, HHi, hR, hT⟩ := hrel
      by_cases hlt : s < r
      · obtain ⟨hh1, hh2⟩ := half_nat s r hlt
        generalize hh : (s + r) / 2 = c at *
        have HH := Lib.hid hh
        have hd : ((s : Int) + (r : Int)) / 2 = (c : Int) := by omega
        clear hh
        obtain ⟨q, hq⟩ : ∃ q, q = mid + m - 1 - c := ⟨_, rfl⟩
        have HQ := Lib.hid hq
        have hqm : m ≤ q := by omega
        have hqb : q < b := by omega
        have u1 : IntKind.i64.wrap ((mid : Int) + (m : Int) - 1 - (c : Int)) = (q : Int) := by rw [IntWalk.i64_in _ (by omega)]; omega
        clear hq
        obtain ⟨u, hu⟩ : ∃ u, U[c - a]? = some u := ⟨U[c - a]'(by have := HM2.out; omega), List.getElem?_eq_getElem _⟩
        obtain ⟨v, hv⟩ : ∃ v, V[q - m]? = some v := ⟨V[q - m]'(by have := HB2.out; omega), List.getElem?_eq_getElem _⟩
        have p1 := (hR.at_ (k := c) ((rowU HA.out (by omega) (by have := HM2.out; omega)).trans hu)).1
        have p2 := (hR.at_ (k := q) ((rowV HM.out hqm (by have := HB2.out; omega)).trans hv)).1
        have hus : u.size ≤ 1000000 := HSH.out u (List.mem_append_left _ (List.mem_of_getElem? hu))
        have hvs : v.size ≤ 1000000 := HSH.out v (List.mem_append_right _ (List.mem_of_getElem? hv))
        have K := Lib.hid (fun W => sortCmp_any v u W hvs hus)
        have HU := Lib.hid hu
        have HV := Lib.hid (show V[mid - 1 - c]? = some v by rw [← hv]; congr 1; have := HQ.out; omega)
        have b1 : (0 : Int) ≤ (c : Int) := by omega
        have b2 : (c : Int) < (N : Int) := by omega
        have b3 : (0 : Int) ≤ (q : Int) := by omega
        have b4 : (q : Int) < (N : Int) := by omega
        clear hu hv
        cases hc : ltS v u with
        | false =>
          have HC := Lib.hid hc
          have hc3 : ¬ comp v.toList u.toList < 0 := by unfold ltS at hc; simpa using hc
          generalize comp v.toList u.toList = z at *
          have hc4 : decide (z < 0) = false := decide_eq_false hc3
          clear hc
          go_wp2
          go_region_held3 (fun W => W.cell? ⟨g, q, none⟩ = some (.string v) ∧ W.cell? ⟨g, c, none⟩ = some (.string u) ∧ RowS W g (A ++ U ++ V ++ C) ∧ Turn w W g) (first | exact keepR (by assumption) hbb | exact ⟨p2, p1, hR.drew, hT.drew⟩ | go_keep) (first | (go_at_call 39; refine (K.out _).mono ?_; rintro e' w' ⟨rfl, hbb⟩))
          rename_i hq
          clear p1 p2 hR hT
          go_wp2
          go_roundw
          case rel => exact ⟨c + 1, r, by go_num, rfl, by omega, by omega, by omega, Lib.hid (.inr ⟨u, v, by rw [← HU.out]; first | done | (congr 1; done) | (congr 1; omega), by rw [← HV.out]; first | done | (congr 1; done) | (congr 1; omega), HC.out⟩), HHi, hq.2.2.1, hq.2.2.2⟩
          case measure => simp [intOf]; omega
        | true =>
          have HC := Lib.hid hc
          have hc3 : comp v.toList u.toList < 0 := by unfold ltS at hc; simpa using hc
          generalize comp v.toList u.toList = z at *
          have hc4 : decide (z < 0) = true := decide_eq_true hc3
          clear hc
          go_wp2
          go_region_held3 (fun W => W.cell? ⟨g, q, none⟩ = some (.string v) ∧ W.cell? ⟨g, c, none⟩ = some (.string u) ∧ RowS W g (A ++ U ++ V ++ C) ∧ Turn w W g) (first | exact keepR (by assumption) hbb | exact ⟨p2, p1, hR.drew, hT.drew⟩ | go_keep) (first | (go_at_call 39; refine (K.out _).mono ?_; rintro e' w' ⟨rfl, hbb⟩))
          rename_i hq
          clear p1 p2 hR hT
          go_wp2
          go_roundw
          case rel => exact ⟨s, c, rfl, rfl, by omega, by omega, by omega, HLo, Lib.hid (.inr ⟨u, v, HU.out, HV.out, HC.out⟩), hq.2.2.1, hq.2.2.2⟩
          case measure => simp [intOf]; omega
      · have hsr : s = r := by omega
        subst hsr
        obtain ⟨en, hen⟩ : ∃ en, en = mid + m - s := ⟨_, rfl⟩
        have hde : (mid : Int) + (m : Int) - (s : Int) = (en : Int) := by omega
        have HEN := Lib.hid hen
        have HCUT := Lib.hid (mg_cut HSU.out HSV.out (s - a) (mid - s) (by
          rcases HLo.out with e | ⟨u, v, e1, e2, e3⟩
          · rcases HK6.out with e' | e'
            · left; omega
            · right; left; have := HB2.out; omega
          · right; right; exact ⟨u, v, by rw [← e1]; congr 1; omega, e2, e3⟩) (by
          rcases HHi.out with e | ⟨u, v, e1, e2, e3⟩
          · rcases HK7.out with e' | e'
            · left; have := HM2.out; omega
            · right; left; omega
          · right; right; exact ⟨u, v, e1, by rw [← e2]; congr 1; omega, e3⟩))
        obtain ⟨U1, hU1⟩ : ∃ l, l = U.take (s - a) := ⟨_, rfl⟩
        obtain ⟨U2, hU2⟩ : ∃ l, l = U.drop (s - a) := ⟨_, rfl⟩
        obtain ⟨V1, hV1⟩ : ∃ l, l = V.take (mid - s) := ⟨_, rfl⟩
        obtain ⟨V2, hV2⟩ : ∃ l, l = V.drop (mid - s) := ⟨_, rfl⟩
        have eU : U = U1 ++ U2 := by rw [hU1, hU2, List.take_append_drop]
        have eV : V = V1 ++ V2 := by rw [hV1, hV2, List.take_append_drop]
        have l1 : U1.length = s - a := by rw [hU1, List.length_take]; have := HM2.out; omega
        have l2 : U2.length = m - s := by rw [hU2, List.length_drop]; have := HM2.out; omega
        have l3 : V1.length = mid - s := by rw [hV1, List.length_take]; have := HB2.out; omega
        have l4 : V2.length = b - en := by rw [hV2, List.length_drop]; have := HB2.out; omega
        have hRW := Lib.hid (show RowS wr g (A ++ U1 ++ U2 ++ V1 ++ V2 ++ C) by rw [eU, eV] at hR; simpa using hR)
        have sU := HSU.out
        have sV := HSV.out
        rw [eU] at sU
        rw [eV] at sV
        have s1 := (List.pairwise_append.1 sU).1
        have s2 := (List.pairwise_append.1 sU).2.1
        have s3 := (List.pairwise_append.1 sV).1
        have s4 := (List.pairwise_append.1 sV).2.1
        have sh1 : Sh (U1 ++ V1) := fun x hx => HSH.out x (by rw [eU, eV]; simp at hx ⊢; rcases hx with h | h <;> simp [h])
        have sh2 : Sh (U2 ++ V2) := fun x hx => HSH.out x (by rw [eU, eV]; simp at hx ⊢; rcases hx with h | h <;> simp [h])
        have hcut : mg ltS U V = mg ltS U1 V1 ++ mg ltS U2 V2 := by rw [HCUT.out, ← hU1, ← hU2, ← hV1, ← hV2]
        have hlen : A.length + U1.length + U2.length + V1.length + V2.length + C.length = N := by have := HL.out; have := HA.out; have := HM2.out; have := HB2.out; omega
        have ROT := Lib.hid (fun (h1 : 0 < U2.length) (h2 : 0 < V1.length) W (hW : RowS W g (A ++ U1 ++ U2 ++ V1 ++ V2 ++ C)) =>
          (rotate_any g cap N cmpF (A ++ U1) U2 V1 (V2 ++ C) s m en W (by have := HA.out; simp; omega) (by have := HA.out; simp; omega) (by have := HA.out; simp; omega) h1 h2 (by simp; omega) hN2 (by simpa using hW)).mono fun e w' (hh : _ ∧ RowS w' g (A ++ U1 ++ V1 ++ U2 ++ (V2 ++ C)) ∧ Turn W w' g) => (⟨hh.1, by have := hh.2.1; simpa using this, hh.2.2⟩ : e = .returned (.tuple #[]) ∧ RowS w' g (A ++ U1 ++ V1 ++ U2 ++ V2 ++ C) ∧ Turn W w' g))
        have M1 := Lib.hid (fun (h1 : 0 < U1.length) (h2 : 0 < V1.length) W (hW : RowS W g (A ++ U1 ++ V1 ++ U2 ++ V2 ++ C)) =>
          (HI.out A U1 V1 (U2 ++ V2 ++ C) a s mid W (by rw [eU, eV]; simp; omega) HA.out (by have := HA.out; omega) (by have := HA.out; omega) h1 h2 (by simp; omega) s1 s3 sh1 (by simpa using hW)).mono fun e w' (hh : _ ∧ RowS w' g (A ++ mg ltS U1 V1 ++ (U2 ++ V2 ++ C)) ∧ Turn W w' g) => (⟨hh.1, by have := hh.2.1; simpa using this, hh.2.2⟩ : e = .returned (.tuple #[]) ∧ RowS w' g (A ++ mg ltS U1 V1 ++ U2 ++ V2 ++ C) ∧ Turn W w' g))
        have M2 := Lib.hid (fun (h1 : 0 < U2.length) (h2 : 0 < V2.length) W (hW : RowS W g (A ++ mg ltS U1 V1 ++ U2 ++ V2 ++ C)) =>
          (HI.out (A ++ mg ltS U1 V1) U2 V2 C mid en b W (by rw [eU, eV]; simp; omega) (by have := HA.out; simp [mg_len]; omega) (by have := HA.out; simp [mg_len]; omega) (by have := HA.out; simp [mg_len]; omega) h1 h2 (by simp [mg_len]; omega) s2 s4 sh2 hW).mono fun e w' (hh : _ ∧ RowS w' g (A ++ mg ltS U1 V1 ++ mg ltS U2 V2 ++ C) ∧ Turn W w' g) => (⟨hh.1, by rw [hcut]; have := hh.2.1; simpa using this, hh.2.2⟩ : e = .returned (.tuple #[]) ∧ RowS w' g (A ++ mg ltS U V ++ C) ∧ Turn W w' g))
        have HCT := Lib.hid hcut
        have L1 := Lib.hid l1
        have L2 := Lib.hid l2
        have L3 := Lib.hid l3
        have L4 := Lib.hid l4
        have hT0 := Lib.hid hT
        have hes : (s : Int) ≤ (en : Int) := by omega
        clear hU1 hU2 hV1 hV2 eU eV l1 l2 l3 l4 hR sU sV s1 s2 s3 s4 sh1 sh2 hcut hlen hen HCUT hT hlt HLo HHi
        rename World => w0
        rcases (show (a < s ∧ s < m ∧ s < mid ∧ en < b) ∨ (a < s ∧ s < m ∧ s < mid ∧ ¬ en < b) ∨ (a < s ∧ s < m ∧ ¬ s < mid ∧ en < b) ∨ (a < s ∧ ¬ s < m ∧ s < mid ∧ en < b) ∨ (a < s ∧ ¬ s < m ∧ s < mid ∧ ¬ en < b) ∨ (a < s ∧ ¬ s < m ∧ ¬ s < mid ∧ en < b) ∨ (¬ a < s ∧ s < m ∧ s < mid ∧ en < b) ∨ (¬ a < s ∧ s < m ∧ s < mid ∧ ¬ en < b) ∨ (¬ a < s ∧ s < m ∧ ¬ s < mid ∧ en < b) by omega) with ⟨d1, d2, d3, d4⟩ | ⟨d1, d2, d3, d4⟩ | ⟨d1, d2, d3, d4⟩ | ⟨d1, d2, d3, d4⟩ | ⟨d1, d2, d3, d4⟩ | ⟨d1, d2, d3, d4⟩ | ⟨d1, d2, d3, d4⟩ | ⟨d1, d2, d3, d4⟩ | ⟨d1, d2, d3, d4⟩
        · skip
          have f1 : (m : Int) < (en : Int) := by omega
          have f2 : (mid : Int) < (en : Int) := by omega
          go_wp2_with fail
          go_at_call 133
          refine (ROT.out (by have := L2.out; omega) (by have := L3.out; omega) _ hRW.out).mono ?_
          rintro e1 w1 ⟨rfl, hr1, ht1⟩
          have R1 := Lib.hid hr1
          have T1 := Lib.hid (hT0.out.trans ht1)
          clear hr1 ht1
          go_wp2_with fail
          go_at_call 108
          refine (M1.out (by have := L1.out; omega) (by have := L3.out; omega) _ R1.out).mono ?_
          rintro e2 w2 ⟨rfl, hr1, ht1⟩
          have R2 := Lib.hid hr1
          have T2 := Lib.hid (T1.out.trans ht1)
          clear hr1 ht1
          go_wp2_with fail
          go_at_call 108
          refine (M2.out (by have := L2.out; omega) (by have := L4.out; omega) _ R2.out).mono ?_
          rintro e3 w3 ⟨rfl, hr1, ht1⟩
          have R3 := Lib.hid hr1
          have T3 := Lib.hid (T2.out.trans ht1)
          clear hr1 ht1
          go_wp2
          all_goals (go_end0; exact ⟨rfl, by have h := R3.out; simpa using h, T3.out⟩)
        · skip
          have z4 : V2 = [] := List.eq_nil_of_length_eq_zero (by have := L4.out; omega)
          have f1 : (m : Int) < (en : Int) := by omega
          have f2 : (mid : Int) < (en : Int) := by omega
          have ZZ := Lib.hid (z4)
          clear z4
          go_wp2_with fail
          go_at_call 133
          refine (ROT.out (by have := L2.out; omega) (by have := L3.out; omega) _ hRW.out).mono ?_
          rintro e1 w1 ⟨rfl, hr1, ht1⟩
          have R1 := Lib.hid hr1
          have T1 := Lib.hid (hT0.out.trans ht1)
          clear hr1 ht1
          go_wp2_with fail
          go_at_call 108
          refine (M1.out (by have := L1.out; omega) (by have := L3.out; omega) _ R1.out).mono ?_
          rintro e2 w2 ⟨rfl, hr1, ht1⟩
          have R2 := Lib.hid hr1
          have T2 := Lib.hid (T1.out.trans ht1)
          clear hr1 ht1
          have R3 := Lib.hid (show RowS _ g (A ++ mg ltS U V ++ C) by
            rw [HCT.out]
            have h := R2.out
            have e : U2 = [] ∨ V2 = [] := by exact .inr (List.eq_nil_of_length_eq_zero (by have := L4.out; omega))
            rcases e with e | e <;> rw [e] at h ⊢ <;> simpa [mg_nil, mg_nil'] using h)
          go_wp2
          all_goals (go_end0; exact ⟨rfl, by have h := R3.out; simpa using h, T2.out⟩)
        · skip
          have z3 : V1 = [] := List.eq_nil_of_length_eq_zero (by have := L3.out; omega)
          have f1 : ¬ (m : Int) < (en : Int) := by omega
          have f2 : (mid : Int) < (en : Int) := by omega
          have ZZ := Lib.hid (z3)
          clear z3
          have R1 := Lib.hid (show RowS w0 g (A ++ U1 ++ V1 ++ U2 ++ V2 ++ C) by
            have h := hRW.out
            have e : U2 = [] ∨ V1 = [] := by exact .inr (List.eq_nil_of_length_eq_zero (by have := L3.out; omega))
            rcases e with e | e <;> rw [e] at h ⊢ <;> simpa using h)
          have R2 := Lib.hid (show RowS _ g (A ++ mg ltS U1 V1 ++ U2 ++ V2 ++ C) by
            have h := R1.out
            have e : U1 = [] ∨ V1 = [] := by exact .inr (List.eq_nil_of_length_eq_zero (by have := L3.out; omega))
            rcases e with e | e <;> rw [e] at h ⊢ <;> simpa [mg_nil, mg_nil'] using h)
          go_wp2_with fail
          go_at_call 108
          refine (M2.out (by have := L2.out; omega) (by have := L4.out; omega) _ R2.out).mono ?_
          rintro e3 w3 ⟨rfl, hr1, ht1⟩
          have R3 := Lib.hid hr1
          have T3 := Lib.hid (hT0.out.trans ht1)
          clear hr1 ht1
          go_wp2
          all_goals (go_end0; exact ⟨rfl, by have h := R3.out; simpa using h, T3.out⟩)
        · skip
          have z2 : U2 = [] := List.eq_nil_of_length_eq_zero (by have := L2.out; omega)
          have f1 : (m : Int) < (en : Int) := by omega
          have f2 : ¬ (mid : Int) < (en : Int) := by omega
          have ZZ := Lib.hid (z2)
          clear z2
          have R1 := Lib.hid (show RowS w0 g (A ++ U1 ++ V1 ++ U2 ++ V2 ++ C) by
            have h := hRW.out
            have e : U2 = [] ∨ V1 = [] := by exact .inl (List.eq_nil_of_length_eq_zero (by have := L2.out; omega))
            rcases e with e | e <;> rw [e] at h ⊢ <;> simpa using h)
          go_wp2_with fail
          go_at_call 108
          refine (M1.out (by have := L1.out; omega) (by have := L3.out; omega) _ R1.out).mono ?_
          rintro e2 w2 ⟨rfl, hr1, ht1⟩
          have R2 := Lib.hid hr1
          have T2 := Lib.hid (hT0.out.trans ht1)
          clear hr1 ht1
          have R3 := Lib.hid (show RowS _ g (A ++ mg ltS U V ++ C) by
            rw [HCT.out]
            have h := R2.out
            have e : U2 = [] ∨ V2 = [] := by exact .inl (List.eq_nil_of_length_eq_zero (by have := L2.out; omega))
            rcases e with e | e <;> rw [e] at h ⊢ <;> simpa [mg_nil, mg_nil'] using h)
          go_wp2
          all_goals (go_end0; exact ⟨rfl, by have h := R3.out; simpa using h, T2.out⟩)
        · skip
          have z2 : U2 = [] := List.eq_nil_of_length_eq_zero (by have := L2.out; omega)
          have z4 : V2 = [] := List.eq_nil_of_length_eq_zero (by have := L4.out; omega)
          have f1 : (m : Int) < (en : Int) := by omega
          have f2 : ¬ (mid : Int) < (en : Int) := by omega
          have ZZ := Lib.hid (And.intro z2 z4)
          clear z2 z4
          have R1 := Lib.hid (show RowS w0 g (A ++ U1 ++ V1 ++ U2 ++ V2 ++ C) by
            have h := hRW.out
            have e : U2 = [] ∨ V1 = [] := by exact .inl (List.eq_nil_of_length_eq_zero (by have := L2.out; omega))
            rcases e with e | e <;> rw [e] at h ⊢ <;> simpa using h)
          go_wp2_with fail
          go_at_call 108
          refine (M1.out (by have := L1.out; omega) (by have := L3.out; omega) _ R1.out).mono ?_
          rintro e2 w2 ⟨rfl, hr1, ht1⟩
          have R2 := Lib.hid hr1
          have T2 := Lib.hid (hT0.out.trans ht1)
          clear hr1 ht1
          have R3 := Lib.hid (show RowS _ g (A ++ mg ltS U V ++ C) by
            rw [HCT.out]
            have h := R2.out
            have e : U2 = [] ∨ V2 = [] := by exact .inl (List.eq_nil_of_length_eq_zero (by have := L2.out; omega))
            rcases e with e | e <;> rw [e] at h ⊢ <;> simpa [mg_nil, mg_nil'] using h)
          go_wp2
          all_goals (go_end0; exact ⟨rfl, by have h := R3.out; simpa using h, T2.out⟩)
        · skip
          have z2 : U2 = [] := List.eq_nil_of_length_eq_zero (by have := L2.out; omega)
          have z3 : V1 = [] := List.eq_nil_of_length_eq_zero (by have := L3.out; omega)
          have f1 : ¬ (m : Int) < (en : Int) := by omega
          have f2 : ¬ (mid : Int) < (en : Int) := by omega
          have ZZ := Lib.hid (And.intro z2 z3)
          clear z2 z3
          have R1 := Lib.hid (show RowS w0 g (A ++ U1 ++ V1 ++ U2 ++ V2 ++ C) by
            have h := hRW.out
            have e : U2 = [] ∨ V1 = [] := by exact .inl (List.eq_nil_of_length_eq_zero (by have := L2.out; omega))
            rcases e with e | e <;> rw [e] at h ⊢ <;> simpa using h)
          have R2 := Lib.hid (show RowS _ g (A ++ mg ltS U1 V1 ++ U2 ++ V2 ++ C) by
            have h := R1.out
            have e : U1 = [] ∨ V1 = [] := by exact .inr (List.eq_nil_of_length_eq_zero (by have := L3.out; omega))
            rcases e with e | e <;> rw [e] at h ⊢ <;> simpa [mg_nil, mg_nil'] using h)
          have R3 := Lib.hid (show RowS _ g (A ++ mg ltS U V ++ C) by
            rw [HCT.out]
            have h := R2.out
            have e : U2 = [] ∨ V2 = [] := by exact .inl (List.eq_nil_of_length_eq_zero (by have := L2.out; omega))
            rcases e with e | e <;> rw [e] at h ⊢ <;> simpa [mg_nil, mg_nil'] using h)
          go_wp2
          all_goals (go_end0; exact ⟨rfl, by have h := R3.out; simpa using h, hT0.out⟩)
        · skip
          have z1 : U1 = [] := List.eq_nil_of_length_eq_zero (by have := L1.out; omega)
          have f1 : (m : Int) < (en : Int) := by omega
          have f2 : (mid : Int) < (en : Int) := by omega
          have ZZ := Lib.hid (z1)
          clear z1
          go_wp2_with fail
          go_at_call 133
          refine (ROT.out (by have := L2.out; omega) (by have := L3.out; omega) _ hRW.out).mono ?_
          rintro e1 w1 ⟨rfl, hr1, ht1⟩
          have R1 := Lib.hid hr1
          have T1 := Lib.hid (hT0.out.trans ht1)
          clear hr1 ht1
          have R2 := Lib.hid (show RowS _ g (A ++ mg ltS U1 V1 ++ U2 ++ V2 ++ C) by
            have h := R1.out
            have e : U1 = [] ∨ V1 = [] := by exact .inl (List.eq_nil_of_length_eq_zero (by have := L1.out; omega))
            rcases e with e | e <;> rw [e] at h ⊢ <;> simpa [mg_nil, mg_nil'] using h)
          go_wp2_with fail
          go_at_call 108
          refine (M2.out (by have := L2.out; omega) (by have := L4.out; omega) _ R2.out).mono ?_
          rintro e3 w3 ⟨rfl, hr1, ht1⟩
          have R3 := Lib.hid hr1
          have T3 := Lib.hid (T1.out.trans ht1)
          clear hr1 ht1
          go_wp2
          all_goals (go_end0; exact ⟨rfl, by have h := R3.out; simpa using h, T3.out⟩)
        · skip
          have z1 : U1 = [] := List.eq_nil_of_length_eq_zero (by have := L1.out; omega)
          have z4 : V2 = [] := List.eq_nil_of_length_eq_zero (by have := L4.out; omega)
          have f1 : (m : Int) < (en : Int) := by omega
          have f2 : (mid : Int) < (en : Int) := by omega
          have ZZ := Lib.hid (And.intro z1 z4)
          clear z1 z4
          go_wp2_with fail
          go_at_call 133
          refine (ROT.out (by have := L2.out; omega) (by have := L3.out; omega) _ hRW.out).mono ?_
          rintro e1 w1 ⟨rfl, hr1, ht1⟩
          have R1 := Lib.hid hr1
          have T1 := Lib.hid (hT0.out.trans ht1)
          clear hr1 ht1
          have R2 := Lib.hid (show RowS _ g (A ++ mg ltS U1 V1 ++ U2 ++ V2 ++ C) by
            have h := R1.out
            have e : U1 = [] ∨ V1 = [] := by exact .inl (List.eq_nil_of_length_eq_zero (by have := L1.out; omega))
            rcases e with e | e <;> rw [e] at h ⊢ <;> simpa [mg_nil, mg_nil'] using h)
          have R3 := Lib.hid (show RowS _ g (A ++ mg ltS U V ++ C) by
            rw [HCT.out]
            have h := R2.out
            have e : U2 = [] ∨ V2 = [] := by exact .inr (List.eq_nil_of_length_eq_zero (by have := L4.out; omega))
            rcases e with e | e <;> rw [e] at h ⊢ <;> simpa [mg_nil, mg_nil'] using h)
          go_wp2
          all_goals (go_end0; exact ⟨rfl, by have h := R3.out; simpa using h, T1.out⟩)
        · skip
          have z1 : U1 = [] := List.eq_nil_of_length_eq_zero (by have := L1.out; omega)
          have z3 : V1 = [] := List.eq_nil_of_length_eq_zero (by have := L3.out; omega)
          have f1 : ¬ (m : Int) < (en : Int) := by omega
          have f2 : (mid : Int) < (en : Int) := by omega
          have ZZ := Lib.hid (And.intro z1 z3)
          clear z1 z3
          have R1 := Lib.hid (show RowS w0 g (A ++ U1 ++ V1 ++ U2 ++ V2 ++ C) by
            have h := hRW.out
            have e : U2 = [] ∨ V1 = [] := by exact .inr (List.eq_nil_of_length_eq_zero (by have := L3.out; omega))
            rcases e with e | e <;> rw [e] at h ⊢ <;> simpa using h)
          have R2 := Lib.hid (show RowS _ g (A ++ mg ltS U1 V1 ++ U2 ++ V2 ++ C) by
            have h := R1.out
            have e : U1 = [] ∨ V1 = [] := by exact .inl (List.eq_nil_of_length_eq_zero (by have := L1.out; omega))
            rcases e with e | e <;> rw [e] at h ⊢ <;> simpa [mg_nil, mg_nil'] using h)
          go_wp2_with fail
          go_at_call 108
          refine (M2.out (by have := L2.out; omega) (by have := L4.out; omega) _ R2.out).mono ?_
          rintro e3 w3 ⟨rfl, hr1, ht1⟩
          have R3 := Lib.hid hr1
          have T3 := Lib.hid (hT0.out.trans ht1)
          clear hr1 ht1
          go_wp2
          all_goals (go_end0; exact ⟨rfl, by have h := R3.out; simpa using h, T3.out⟩)
end Go.Proofs.YtinidiiachedbaaDoor
