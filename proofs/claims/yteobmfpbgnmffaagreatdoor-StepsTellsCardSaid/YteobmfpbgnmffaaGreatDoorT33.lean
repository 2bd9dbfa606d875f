/- StPlain, StCoAt, StSmall -/
import Derived.Test.YteobmfpbgnmffaaGreatDoorT32
set_option linter.unusedVariables false
set_option maxHeartbeats 4000000
set_option maxRecDepth 100000
open Go.Lib (hid)
set_option linter.unusedSimpArgs false
namespace Go.Proofs.YteobmfpbgnmffaaGreatDoor
section
namespace St
def inS (S : List Int) (n : Nat) : Bool := S.any fun z => z == (n : Int)
section
variable (I : Nat) (nm ob : Nat -> Nat -> Bool) (cmp : Nat -> Nat -> Int) (S : List Int)
def chg (n : Nat) : Bool := inS S n != decide (n < I)
def chgs (a b : Nat) : List Nat := (List.range' a (b - a)).filter (chg I S)
def bestStep (n : Nat) (b : Option Nat) (i : Nat) : Option Nat := if nm i n && (match b with | none => true | some j => decide (0 < cmp i j)) then some i else b
def bestOf (n : Nat) (l : List Nat) (b : Option Nat) : Option Nat := l.foldl (bestStep nm cmp n) b
def comesK (n : Nat) : Int :=
 match bestOf nm cmp n (chgs I S 0 I) none with
 | none => if (chgs I S 0 I).any (ob n) then 5 else 1
 | some b => if cmp b n < 0 then 2 else if 0 < cmp b n then 3 else 4
def goesK (N n : Nat) : Int := if (chgs I S I N).any (fun m => nm m n) then 7 else if (chgs I S I N).any (fun m => ob m n) then 8 else 6
def kindK (N n : Nat) : Int := if n < I then goesK I nm ob S N n else comesK I nm ob cmp S n
end
section
variable {I N : Nat} {nm ob : Nat -> Nat -> Bool} {cmp : Nat -> Nat -> Int} {S : List Int}
end
end St
end
section
open Go.RowKit Go.Shelf
def qC6 (L : List Pr) (i j : Nat) : Int := match L[i]?, L[j]? with | some x, some y => ecmp x.pk.evr y.pk.evr | _, _ => 0
theorem qJJ {P : Nat} {I : Int} {L : List Pr} {w : World} (hp : Pool P I L w) {i j : Nat} (hi : i < L.length) (hj : j < L.length) {p r : Pk} (h1 : Alike L[i].pk p) (h2 : Alike L[j].pk r) (W : World) :
  Calls Tryz.prog 132 #[.agg #[.int .i64 p.epoch, .string p.ver, .string p.rel], .agg #[.int .i64 r.epoch, .string r.ver, .string r.rel]] W fun e w' => e = .returned (.int .i64 (qC6 L i j)) /\ Below W.heap.size W w' := by
 have s1 := qC4 (hp.may L[i] (List.getElem_mem hi)).1;have s2 := qC4 (hp.may L[j] (List.getElem_mem hj)).1;have v1 := s1.ver; have v2 := s1.rel; have v3 := s2.ver; have v4 := s2.rel;rw [<- h1.ver] at v1; rw [<- h1.rel] at v2; rw [<- h2.ver] at v3; rw [<- h2.rel] at v4;have h := qR8 p.evr r.evr W (by unfold Pk.evr; rw [qA3]; omega) (by unfold Pk.evr; rw [qA3]; omega) (by unfold Pk.evr; rw [qA3]; omega) (by unfold Pk.evr; rw [qA3]; omega);unfold Evr.val Pk.evr at h;dsimp only at h;rw [qBX, qBX, qBX, qBX] at h;have e : qC6 L i j = ecmp p.evr r.evr := by unfold qC6; rw [List.getElem?_eq_getElem hi, List.getElem?_eq_getElem hj, h1.evr, h2.evr]
 rw [e];exact h
def qLE (L : List Pr) (b : Option Nat) (bv : Value) (W : World) : Prop := match b with
 | none => bv = .slice none 0 0
 | some j => ∃ (hj : j < L.length) (r : Pk) (h : Nat), Alike L[j].pk r /\ bv = .slice (some ⟨h, 0, none⟩) 1 1 /\ W.cell? ⟨h, 0, none⟩ = some (.int .i64 r.epoch) /\ W.cell? ⟨h, 1, none⟩ = some (.string r.ver) /\ W.cell? ⟨h, 2, none⟩ = some (.string r.rel)
theorem qLE.keep {L : List Pr} {b : Option Nat} {bv : Value} {W W' : World} (h : qLE L b bv W) (hc : ∀ (g i : Nat) v, (∃ c n, bv = .slice (some ⟨g, 0, none⟩) c n) -> W.cell? ⟨g, i, none⟩ = some v -> W'.cell? ⟨g, i, none⟩ = some v) : qLE L b bv W' := by
 cases b with
 | none => exact h
 | some j =>
  obtain ⟨hj, r, g, ha, e, h0, h1, h2⟩ := h;exact ⟨hj, r, g, ha, e, hc g 0 _ ⟨_, _, e⟩ h0, hc g 1 _ ⟨_, _, e⟩ h1, hc g 2 _ ⟨_, _, e⟩ h2⟩
structure CoAt (L : List Pr) (w : World) (cb k g kb : Nat) (q : Pk) (b : Option Nat) (ov : Bool) (W : World) : Prop where
 old : Below w.heap.size w W
 c2 : W.cell? ⟨w.heap.size, 0, none⟩ = some (.pointer (some ⟨cb, 0, none⟩))
 k3 : W.cell? ⟨w.heap.size + 1, 0, none⟩ = some (.int .i64 (k : Int))
 x0 : W.cell? ⟨g, 0, none⟩ = some (.string q.name)
 x1 : W.cell? ⟨g, 1, none⟩ = some (.int .i64 q.epoch)
 x2 : W.cell? ⟨g, 2, none⟩ = some (.string q.ver)
 x3 : W.cell? ⟨g, 3, none⟩ = some (.string q.rel)
 bc : ∃ bv, W.cell? ⟨kb, 0, none⟩ = some bv /\ qLE L b bv W /\ ∀ h c n, bv = .slice (some ⟨h, 0, none⟩) c n -> h ≠ kb /\ h ≠ kb + 1
 bf : W.frozen? ⟨kb, 0, none⟩ = false
 oc : W.cell? ⟨kb + 1, 0, none⟩ = some (.bool ov)
 of : W.frozen? ⟨kb + 1, 0, none⟩ = false
 hz : w.heap.size + 2 <= g /\ g < kb /\ kb + 2 <= W.heap.size
section
variable {L : List Pr} {w W W' : World} {cb k g kb : Nat} {q : Pk} {b : Option Nat} {ov : Bool}
theorem CoAt.keep (h : CoAt L w cb k g kb q b ov W) (ho : Below w.heap.size w W') (hs : W.heap.size <= W'.heap.size) (hc : ∀ (a : Addr) v, W.cell? a = some v -> W'.cell? a = some v) (hf : ∀ (a : Addr) v, W.cell? a = some v -> W'.frozen? a = W.frozen? a) : CoAt L w cb k g kb q b ov W' := by
 obtain ⟨bv, b1, b2, b3⟩ := h.bc;exact ⟨ho, hc _ _ h.c2, hc _ _ h.k3, hc _ _ h.x0, hc _ _ h.x1, hc _ _ h.x2, hc _ _ h.x3, ⟨bv, hc _ _ b1, b2.keep fun g i v _ hv => hc _ _ hv, b3⟩, (hf _ _ b1).trans h.bf, hc _ _ h.oc, (hf _ _ h.oc).trans h.of, h.hz.1, h.hz.2.1, Nat.le_trans h.hz.2.2 hs⟩
theorem CoAt.then (h : CoAt L w cb k g kb q b ov W) (hb : Below W.heap.size W W') : CoAt L w cb k g kb q b ov W' :=
 h.keep (h.old.trans (hb.mono h.old.size)) hb.size (fun a v hv => (hb.cell (World.block_lt_of_cell? W _ hv)).trans hv) (fun a v hv => hb.frozen (World.block_lt_of_cell? W _ hv))
theorem CoAt.own {β : Type} {B : Nat} (hB : w.heap.size <= B) (f : β -> Option Nat) (o : β -> Bool) : OwnFrom B (fun (s : β) W => CoAt L w cb k g kb q (f s) (o s) W) := fun s A C row hs hg hr =>
 hs.keep (hs.old.grown hg hs.old.size (fun j e => Nat.le_trans hB (hr j e).1)) hg.size (fun a v hv => cell_kept hv hg fun r e => (hr r e).2) (fun a v hv => frozen_kept hv hg fun r e => (hr r e).2)
theorem CoAt.setO (h : CoAt L w cb k g kb q b ov W) (o' : Bool) : CoAt L w cb k g kb q b o' (W.setCell ⟨kb + 1, 0, none⟩ (.bool o')) := by
 obtain ⟨z1, z2, z3⟩ := h.hz;obtain ⟨bv, b1, b2, b3⟩ := h.bc;have ne : ∀ g i, g ≠ kb + 1 -> (⟨kb + 1, 0, none⟩ : Addr) ≠ ⟨g, i, none⟩ := fun g i hg e => by simp only [Addr.mk.injEq] at e; exact hg e.1.symm
 exact ⟨h.old.setCell (p := ⟨kb + 1, 0, none⟩) (by show w.heap.size <= kb + 1; omega) _, (qA0 (ne _ _ (by omega))).trans h.c2, (qA0 (ne _ _ (by omega))).trans h.k3, (qA0 (ne _ _ (by omega))).trans h.x0, (qA0 (ne _ _ (by omega))).trans h.x1, (qA0 (ne _ _ (by omega))).trans h.x2, (qA0 (ne _ _ (by omega))).trans h.x3,
  ⟨bv, (qA0 (ne _ _ (by omega))).trans b1, b2.keep fun g i v ⟨c, n, e⟩ hv => (qA0 (ne _ _ (b3 _ _ _ e).2)).trans hv, b3⟩, (World.frozen?_setCell _ _ _ _).trans h.bf, qAS h.oc, (World.frozen?_setCell _ _ _ _).trans h.of, z1, z2, by simpa [World.setCell] using z3⟩
theorem CoAt.better (h : CoAt L w cb k g kb q b ov W) {j : Nat} (hj : j < L.length) {r : Pk} (ha : Alike L[j].pk r) (t : TypeId) : CoAt L w cb k g kb q (some j) ov ((W.alloc (.cells #[.int .i64 r.epoch, .string r.ver, .string r.rel] t)).setCell ⟨kb, 0, none⟩ (.slice (some ⟨W.heap.size, 0, none⟩) 1 1)) := by
 have h2 := h.then ((Below.refl _ W).alloc lR (.cells #[.int .i64 r.epoch, .string r.ver, .string r.rel] t));obtain ⟨z1, z2, z3⟩ := h.hz;obtain ⟨y1, y2, y3⟩ := h2.hz;obtain ⟨bv, b1, b2, b3⟩ := h2.bc;have ne : ∀ g i, g ≠ kb -> (⟨kb, 0, none⟩ : Addr) ≠ ⟨g, i, none⟩ := fun g i hg e => by simp only [Addr.mk.injEq] at e; exact hg e.1.symm
 exact ⟨h2.old.setCell (p := ⟨kb, 0, none⟩) (by show w.heap.size <= kb; omega) _, (qA0 (ne _ _ (by omega))).trans h2.c2, (qA0 (ne _ _ (by omega))).trans h2.k3, (qA0 (ne _ _ (by omega))).trans h2.x0, (qA0 (ne _ _ (by omega))).trans h2.x1, (qA0 (ne _ _ (by omega))).trans h2.x2, (qA0 (ne _ _ (by omega))).trans h2.x3,
  ⟨_, qAS b1, ⟨hj, r, W.heap.size, ha, rfl, (qA0 (ne _ _ (by omega))).trans (by simp [go_sem]), (qA0 (ne _ _ (by omega))).trans (by simp [go_sem]), (qA0 (ne _ _ (by omega))).trans (by simp [go_sem])⟩, fun h c n e => by cases e; omega⟩, (World.frozen?_setCell _ _ _ _).trans h2.bf, (qA0 (ne _ _ (by omega))).trans h2.oc, (World.frozen?_setCell _ _ _ _).trans h2.of, y1, y2, by simpa [World.setCell] using y3⟩
theorem CoAt.start {V : World} (hb : Below w.heap.size w W) (hz : V.heap.size = w.heap.size + 2) (hv : Below V.heap.size V W) (h2 : V.cell? ⟨w.heap.size, 0, none⟩ = some (.pointer (some ⟨cb, 0, none⟩))) (h3 : V.cell? ⟨w.heap.size + 1, 0, none⟩ = some (.int .i64 (k : Int))) (hg : w.heap.size + 2 <= g) (hx : qAJ g q W) (t u : TypeId) :
  CoAt L w cb k g W.heap.size q none false ((W.alloc (.cells #[.slice none 0 0] t)).alloc (.cells #[.bool false] u)) := by
 have hsz := hv.size;have hgl := hx.2.2;have B := ((Below.refl W.heap.size W).alloc lR (.cells #[.slice none 0 0] t)).alloc (by simp) (.cells #[.bool false] u);have hv2 := (hv.alloc hsz (.cells #[.slice none 0 0] t)).alloc (by simp; omega) (.cells #[.bool false] u)
 exact ⟨(hb.alloc hb.size _).alloc (by have := hb.size; simp; omega) _, (hv2.cell (p := ⟨w.heap.size, 0, none⟩) (by show w.heap.size < V.heap.size; omega)).trans h2, (hv2.cell (p := ⟨w.heap.size + 1, 0, none⟩) (by show w.heap.size + 1 < V.heap.size; omega)).trans h3, (B.cell (p := ⟨g, 0, none⟩) hgl).trans hx.1.2.1, (B.cell (p := ⟨g, 1, none⟩) hgl).trans hx.1.2.2.1, (B.cell (p := ⟨g, 2, none⟩) hgl).trans hx.1.2.2.2.1, (B.cell (p := ⟨g, 3, none⟩) hgl).trans hx.1.2.2.2.2.1,
  ⟨.slice none 0 0, by simp [go_sem], rfl, fun h c n e => by cases e⟩, by simp [go_sem], by simp [go_sem], by simp [go_sem], hg, by omega, by simp⟩
end
end
section
open Go.RowKit Go.Shelf
def qBA (k : Int) : Bool := decide (1 <= k) && decide (k <= 5)
def qBT (k : Int) : Bool := decide (6 <= k) && decide (k <= 8)
def qBG (x : Int × Int) : List Value := [.int .u8 x.1, .int .i64 x.2]
theorem qBV (x : Int × Int) : (qBG x).length = 2 := rfl
theorem qIK (x : Int × Int) : ∀ u ∈ qBG x, u.oneCell' = true := by
 intro u hu;simp only [qBG, List.mem_cons, List.not_mem_nil, or_false] at hu;rcases hu with rfl | rfl <;> rfl
theorem Rd.int_at {B : Nat} {A : Option Addr} {c : Nat} {D : List Int} {W : World} (h : Rd encI 1 B A c D W) {k : Nat} (hk : k < D.length) : ∃ b o, A = some ⟨b, o, none⟩ /\ b < B /\ W.cell? ⟨b, o + k, none⟩ = some (.int .i64 D[k]) := by
 obtain ⟨b, o, e, hb, hc⟩ := h.cells hk;have := hc 0 _ rfl;rw [Nat.mul_one] at this;exact ⟨b, o, e, hb, this⟩
theorem Rd.st_at {B : Nat} {A : Option Addr} {c : Nat} {D : List (Int × Int)} {W : World} (h : Rd qBG 2 B A c D W) {k : Nat} (hk : k < D.length) : ∃ b o, A = some ⟨b, o, none⟩ /\ b < B /\ W.cell? ⟨b, o + k * 2, none⟩ = some (.int .u8 D[k].1) /\ W.cell? ⟨b, o + k * 2 + 1, none⟩ = some (.int .i64 D[k].2) := by
 obtain ⟨b, o, e, hb, hc⟩ := h.cells hk;exact ⟨b, o, e, hb, hc 0 _ rfl, hc 1 _ rfl⟩
theorem qD6 (k : Int) (w : World) : Calls Tryz.prog 31 #[.int .u8 k] w fun e w' => e = .returned (.bool (qBA k)) /\ Below w.heap.size w w' := by
 by_cases h1 : 1 <= k
 ·go_enter Tryz.func31, Tryz.ntmps31
  go_wp2_with fail
  go_ret;exact ⟨by simp [qBA, h1], Below.refl _ _⟩
 ·go_enter Tryz.func31, Tryz.ntmps31
  go_wp2_with fail
  go_ret;exact ⟨by simp [qBA, h1]; intro h; omega, Below.refl _ _⟩
theorem qD4 (k : Int) (w : World) : Calls Tryz.prog 33 #[.int .u8 k] w fun e w' => e = .returned (.bool (qBT k)) /\ Below w.heap.size w w' := by
 by_cases h1 : 6 <= k
 ·go_enter Tryz.func33, Tryz.ntmps33
  go_wp2_with fail
  go_ret;exact ⟨by simp [qBT, h1], Below.refl _ _⟩
 ·go_enter Tryz.func33, Tryz.ntmps33
  go_wp2_with fail
  go_ret;exact ⟨by simp [qBT, h1]; intro h; omega, Below.refl _ _⟩
theorem qD8 (A B : Option Addr) (c d : Nat) (D E : List Int) (w : World) (hD : D.length <= 1000000) (hE : E.length <= 1000000) (h : Rd encI 1 w.heap.size A c D w) (h' : Rd encI 1 w.heap.size B d E w) : Calls Tryz.prog 30 #[.slice A D.length c, .slice B E.length d] w fun e w' => e = .returned (.bool (decide (D = E))) /\ Below w.heap.size w w' := by
 obtain ⟨r, hr⟩ : ∃ r, r = decide (D = E) := ⟨_, rfl⟩;rw [<- hr];have RR := hid hr;clear hr;by_cases hl : D.length = E.length
 ·have H := hid h;have H' := hid h';obtain ⟨n, hn⟩ : ∃ n, n = D.length := ⟨_, rfl⟩;have HN := hid hn;have HE := hid (hn.trans hl);rw [<- hl, <- hn];have hN : n <= 1000000 := by omega
  clear hl h h' hD hE hn
  go_enter Tryz.func30, Tryz.ntmps30
  go_wp2_with fail
  go_loopw [5] (fun iv wr => ∃ k : Nat, k <= n /\ iv = .int .i64 (k : Int) /\ Hid (∀ j, j < k -> D[j]? = E[j]?) /\ Below w.heap.size w wr) (fun iv _ => n - (intOf iv).toNat)
  case atStart => exact ⟨0, by omega, rfl, hid (by intro j h; omega), Below.refl _ _⟩
  case round =>
   obtain ⟨k, hk, rfl, HS, hB⟩ := hrel;rename World => wr
   have HB := hid hB;by_cases hlt : k < n
   ·have l1 : k < D.length := by have := HN.out; omega
    have l2 : k < E.length := by have := HE.out; omega
    obtain ⟨b, o, hA, hb, e0⟩ := ((H.out.below hB).more hB.size).int_at l1;obtain ⟨b2, o2, hA2, hb2, f0⟩ := ((H'.out.below hB).more hB.size).int_at l2;have E1 := hid (show D[k]? = some D[k] from List.getElem?_eq_getElem l1);have E2 := hid (show E[k]? = some E[k] from List.getElem?_eq_getElem l2);subst hA hA2;generalize D[k] = x at *;generalize E[k] = y at *;clear l1 l2 hB;have i0 : (0 : Int) <= (k : Int) := by omega
    have i1 : (k : Int) < (n : Int) := by omega
    by_cases hxy : x = y
    ·subst hxy;go_wp2_with fail
     go_quiet (fail);go_wp2_with fail
     go_roundw
     case rel =>
      refine ⟨k + 1, by omega, by go_num, hid ?_, Go.below_drewN HB.out _⟩;intro j hj;by_cases hjk : j = k
      ·subst hjk; rw [E1.out, E2.out]
      ·exact HS.out j (by omega)
     case measure => simp [intOf]; omega
    ·have HF := hid (show decide (D = E) = false from decide_eq_false fun h => hxy (by have := E1.out; rw [h, E2.out] at this; exact (Option.some.inj this).symm));go_wp2_with fail
     go_quiet (fail);go_wp2_with fail
     go_ret;obtain rfl := RR.out.trans HF.out;exact ⟨rfl, Go.below_drewN HB.out _⟩
   ·obtain rfl : k = n := by omega
    have HF := hid (show decide (D = E) = true from decide_eq_true (List.ext_getElem? fun j => by
     by_cases hj : j < k
     ·exact HS.out j hj
     ·rw [List.getElem?_eq_none (by have := HN.out; omega), List.getElem?_eq_none (by have := HE.out; omega)]))
    have i1 : ¬ (k : Int) < (k : Int) := by omega
    go_wp2_with fail
    go_ret;obtain rfl := RR.out.trans HF.out;exact ⟨rfl, HB.out⟩
 ·have HF := hid (show decide (D = E) = false from decide_eq_false fun h => hl (by rw [h]));have hl2 : ¬ (D.length : Int) = (E.length : Int) := by omega
  clear h h' hl
  go_enter Tryz.func30, Tryz.ntmps30
  go_wp2_with fail
  go_ret;obtain rfl := RR.out.trans HF.out;exact ⟨rfl, Below.refl _ _⟩
theorem qEV (A B : Option Addr) (c d : Nat) (D E : List (Int × Int)) (w : World) (hD : D.length <= 1000000) (hE : E.length <= 1000000) (h : Rd qBG 2 w.heap.size A c D w) (h' : Rd qBG 2 w.heap.size B d E w) : Calls Tryz.prog 29 #[.slice A D.length c, .slice B E.length d] w fun e w' => e = .returned (.bool (decide (D = E))) /\ Below w.heap.size w w' := by
 obtain ⟨r, hr⟩ : ∃ r, r = decide (D = E) := ⟨_, rfl⟩;rw [<- hr];have RR := hid hr;clear hr;by_cases hl : D.length = E.length
 ·have H := hid h;have H' := hid h';obtain ⟨n, hn⟩ : ∃ n, n = D.length := ⟨_, rfl⟩;have HN := hid hn;have HE := hid (hn.trans hl);rw [<- hl, <- hn];have hN : n <= 1000000 := by omega
  clear hl h h' hD hE hn
  go_enter Tryz.func29, Tryz.ntmps29
  go_wp2_with fail
  go_loopw [5] (fun iv wr => ∃ k : Nat, k <= n /\ iv = .int .i64 (k : Int) /\ Hid (∀ j, j < k -> D[j]? = E[j]?) /\ Below w.heap.size w wr) (fun iv _ => n - (intOf iv).toNat)
  case atStart => exact ⟨0, by omega, rfl, hid (by intro j h; omega), Below.refl _ _⟩
  case round =>
   obtain ⟨k, hk, rfl, HS, hB⟩ := hrel;rename World => wr
   have HB := hid hB;by_cases hlt : k < n
   ·have l1 : k < D.length := by have := HN.out; omega
    have l2 : k < E.length := by have := HE.out; omega
    obtain ⟨b, o, hA, hb, e0, e1⟩ := ((H.out.below hB).more hB.size).st_at l1;obtain ⟨b2, o2, hA2, hb2, f0, f1⟩ := ((H'.out.below hB).more hB.size).st_at l2;have E1 := hid (show D[k]? = some D[k] from List.getElem?_eq_getElem l1);have E2 := hid (show E[k]? = some E[k] from List.getElem?_eq_getElem l2);subst hA hA2;generalize D[k] = x at *;generalize E[k] = y at *;clear l1 l2 hB;have i0 : (0 : Int) <= (k : Int) := by omega
    have i1 : (k : Int) < (n : Int) := by omega
    by_cases hxy : x = y
    ·subst hxy;go_wp2_with fail
     go_quiet (fail);go_wp2_with fail
     go_roundw
     case rel =>
      refine ⟨k + 1, by omega, by go_num, hid ?_, Go.below_drewN HB.out _⟩;intro j hj;by_cases hjk : j = k
      ·subst hjk; rw [E1.out, E2.out]
      ·exact HS.out j (by omega)
     case measure => simp [intOf]; omega
    ·have HF := hid (show decide (D = E) = false from decide_eq_false fun h => hxy (by have := E1.out; rw [h, E2.out] at this; exact (Option.some.inj this).symm));obtain ⟨x1, x2⟩ := x;obtain ⟨y1, y2⟩ := y;dsimp only at e0 e1 f0 f1;by_cases h1 : x1 = y1
     ·have h2 : ¬ x2 = y2 := fun h => hxy (by rw [h1, h]);subst h1;clear hxy;go_wp2_with fail
      go_quiet (fail);go_wp2_with fail
      go_ret;obtain rfl := RR.out.trans HF.out;exact ⟨rfl, Go.below_drewN HB.out _⟩
     ·clear hxy;go_wp2_with fail
      go_quiet (fail);go_wp2_with fail
      go_ret;obtain rfl := RR.out.trans HF.out;exact ⟨rfl, Go.below_drewN HB.out _⟩
   ·obtain rfl : k = n := by omega
    have HF := hid (show decide (D = E) = true from decide_eq_true (List.ext_getElem? fun j => by
     by_cases hj : j < k
     ·exact HS.out j hj
     ·rw [List.getElem?_eq_none (by have := HN.out; omega), List.getElem?_eq_none (by have := HE.out; omega)]))
    have i1 : ¬ (k : Int) < (k : Int) := by omega
    go_wp2_with fail
    go_ret;obtain rfl := RR.out.trans HF.out;exact ⟨rfl, HB.out⟩
 ·have HF := hid (show decide (D = E) = false from decide_eq_false fun h => hl (by rw [h]));have hl2 : ¬ (D.length : Int) = (E.length : Int) := by omega
  clear h h' hl
  go_enter Tryz.func29, Tryz.ntmps29
  go_wp2_with fail
  go_ret;obtain rfl := RR.out.trans HF.out;exact ⟨rfl, Below.refl _ _⟩
