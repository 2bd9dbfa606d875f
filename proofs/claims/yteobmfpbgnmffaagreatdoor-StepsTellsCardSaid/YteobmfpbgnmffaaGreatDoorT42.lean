/- StAw -/
import Derived.Test.YteobmfpbgnmffaaGreatDoorT40
import Derived.Test.YteobmfpbgnmffaaGreatDoorT39
import Derived.Test.YteobmfpbgnmffaaGreatDoorT41
set_option linter.unusedVariables false
set_option maxHeartbeats 16000000
set_option maxRecDepth 100000
open Go.Lib (hid)
set_option linter.unusedSimpArgs false
namespace Go.Proofs.YteobmfpbgnmffaaGreatDoor
open Go.RowKit Go.Shelf
theorem qKQ (n v : ByteArray) (w : World) : Calls Tryz.prog 35 #[.string n, .string v] w fun r w' => r = .returned (.agg #[.string n, .int .i64 0, .string v, .string ⟨#[49]⟩, .int .u8 1, .string ⟨#[]⟩, .slice none 0 0, .slice none 0 0, .slice none 0 0, .slice none 0 0, .slice none 0 0, .slice none 0 0, .slice none 0 0, .slice none 0 0, .slice none 0 0]) /\ Below w.heap.size w w' := by
 go_enter Tryz.func35, Tryz.ntmps35
 go_wp2_with fail
 exact bodyPost_ret (v := .agg #[.string n, .int .i64 0, .string v, .string ⟨#[49]⟩, .int .u8 1, .string ⟨#[]⟩, .slice none 0 0, .slice none 0 0, .slice none 0 0, .slice none 0 0, .slice none 0 0, .slice none 0 0, .slice none 0 0, .slice none 0 0, .slice none 0 0]) (by simp [results, Tryz.results35, go_sem]) rfl ⟨rfl, bR.alloc lR _⟩
theorem qCL {α : Type} {enc : α -> List Value} {size : Nat} (he : ∀ x, (enc x).length = size) (l : List α) (W : World) (t : TypeId) (hl : l.length <= 1000) : Rd enc size (W.alloc (.cells (l.flatMap enc).toArray t)).heap.size (some ⟨W.heap.size, 0, none⟩) l.length l (W.alloc (.cells (l.flatMap enc).toArray t)) := by
 refine ⟨Nat.le_refl _, by unfold maxLen; omega, fun k hk => ⟨W.heap.size, 0, rfl, by simp, fun j u hu => ?_⟩⟩;have hj : j < size := by
  have := (List.getElem?_eq_some_iff.1 hu).1;rw [he] at this;exact this
 rw [World.cell?_alloc_at _ _ _ _ rfl];have h3 := qCR enc size he l k hk j hj;rw [hu] at h3
 simpa using h3
theorem qK6 (l : List Pk) (W : World) (t : TypeId) (hl : l.length <= 1000) (hL : ∀ p ∈ l, p.Laid W.heap.size W) : PRow (W.alloc (.cells (l.flatMap Pk.cells).toArray t)).heap.size (W.alloc (.cells (l.flatMap Pk.cells).toArray t)) (some ⟨W.heap.size, 0, none⟩) l.length l :=
 ⟨qCL qP2 l W t hl, fun p hp => ((hL p hp).below ((Below.refl _ W).alloc lR _)).more (by simp)⟩
theorem qNF (r : Rp) (W : World) (t : TypeId) (h : PRow W.heap.size W r.A r.c r.pk) (hw : (Lit.int .i64 r.prio).wf = true) (hc : r.pk.length <= 1000000000000000) : RpRow (W.alloc (.cells r.cells.toArray t)).heap.size (W.alloc (.cells r.cells.toArray t)) (some ⟨W.heap.size, 0, none⟩) 1 [r] := by
 have hrd := qCL (enc := Rp.cells) qN5 [r] W t (by simp);rw [show ([r].flatMap Rp.cells).toArray = r.cells.toArray by simp] at hrd;refine ⟨hrd, fun x hx => ?_, fun x hx => ?_, fun x hx => ?_⟩ <;> obtain rfl := List.mem_singleton.1 hx
 ·exact (h.below ((Below.refl _ W).alloc lR _)).more (by simp)
 ·exact hw
 ·exact hc
theorem qB1 (B : Nat) (W : World) : RRow B W none 0 [] := ⟨Rd.nil_ (Nat.zero_le _), fun t ht => by cases ht⟩
theorem qJ3 (n v : ByteArray) (hn : n.size <= maxLen) (hv : v.size <= maxLen) (W : World) : (pk30 n v).Laid W.heap.size W := { ar := rfl, ep := rfl, n0 := hn, n1 := hv, n2 := by show (⟨#[49]⟩ : ByteArray).size <= maxLen; decide, n3 := by show (⟨#[]⟩ : ByteArray).size <= maxLen; decide, prov := Rd.nil_ (Nat.zero_le _), provW := (fun d hd => by cases hd), obs := Rd.nil_ (Nat.zero_le _), obsW := (fun d hd => by cases hd), files := Rd.nil_ (Nat.zero_le _), filesW := (fun d hd => by cases hd), req := qB1 _ _, con := qB1 _ _, rcm := qB1 _ _, sup := qB1 _ _, sug := qB1 _ _, enh := qB1 _ _ }
theorem qN4 {A : Option Addr} {W : World} (h : Rd encD 5 W.heap.size A 1 [(⟨[99], 0, ⟨0, [], []⟩⟩ : Dp)] W) : (qBP A 1).Laid W.heap.size W := { ar := rfl, ep := rfl, n0 := by show (⟨#[98]⟩ : ByteArray).size <= maxLen; decide, n1 := by show (⟨#[49]⟩ : ByteArray).size <= maxLen; decide, n2 := by show (⟨#[49]⟩ : ByteArray).size <= maxLen; decide, n3 := by show (⟨#[]⟩ : ByteArray).size <= maxLen; decide, prov := Rd.nil_ (Nat.zero_le _), provW := (fun d hd => by cases hd), obs := h, obsW := (fun d hd => by obtain rfl := List.mem_singleton.1 hd; exact ⟨by decide, by decide, by decide, by decide, by decide⟩), files := Rd.nil_ (Nat.zero_le _), filesW := (fun d hd => by cases hd), req := qB1 _ _, con := qB1 _ _, rcm := qB1 _ _, sup := qB1 _ _, sug := qB1 _ _, enh := qB1 _ _ }
theorem qLP {p : Pk} {B : Nat} {W : World} (h : p.Laid B W) : ∀ x ∈ [p], x.Laid B W := fun x hx => by obtain rfl := List.mem_singleton.1 hx; exact h
theorem qS3 {p q : Pk} {B : Nat} {W : World} (h : p.Laid B W) (k : q.Laid B W) : ∀ x ∈ [p, q], x.Laid B W := fun x hx => by
 rcases List.mem_cons.1 hx with rfl | hx
 ·exact h
 ·exact qLP k x hx
theorem qIV {A : Option Addr} {c : Nat} {RA : Option Addr} {rc : Nat} : ∀ x ∈ allP [⟨0, RA, rc, [pk30 ⟨#[97]⟩ ⟨#[50]⟩, qBP A c]⟩] [pk30 ⟨#[97]⟩ ⟨#[49]⟩], x.deepOk /\ x.few := by
 intro x hx;simp only [allP, List.flatMap_cons, List.flatMap_nil, List.append_nil, List.cons_append, List.nil_append, List.mem_cons, List.not_mem_nil, or_false] at hx;rcases hx with rfl | rfl | rfl
 iterate 2 ·exact qP4 _ _
 ·exact qNC _ _
def awP (g : Nat) (i : Nat) (v : Value) (W : World) : Prop := match i with
 | 0 => v = .agg #[.string ⟨#[97]⟩, .int .i64 0, .string ⟨#[50]⟩, .string ⟨#[49]⟩, .int .u8 1, .string ⟨#[]⟩, .slice none 0 0, .slice none 0 0, .slice none 0 0, .slice none 0 0, .slice none 0 0, .slice none 0 0, .slice none 0 0, .slice none 0 0, .slice none 0 0]
 | 1 => v = .agg #[.string ⟨#[98]⟩, .int .i64 0, .string ⟨#[49]⟩, .string ⟨#[49]⟩, .int .u8 1, .string ⟨#[]⟩, .slice none 0 0, .slice none 0 0, .slice none 0 0, .slice (some ⟨g, 0, none⟩) 1 1, .slice none 0 0, .slice none 0 0, .slice none 0 0, .slice none 0 0, .slice none 0 0]
 | 2 => ∃ rb, v = .slice (some ⟨rb, 0, none⟩) 2 2 /\ PRow W.heap.size W (some ⟨rb, 0, none⟩) 2 [pk30 ⟨#[97]⟩ ⟨#[50]⟩, qBP (some ⟨g, 0, none⟩) 1]
 | 3 => ∃ rb, v = .agg #[.int .i64 0, .slice (some ⟨rb, 0, none⟩) 2 2] /\ PRow W.heap.size W (some ⟨rb, 0, none⟩) 2 [pk30 ⟨#[97]⟩ ⟨#[50]⟩, qBP (some ⟨g, 0, none⟩) 1]
 | 4 => ∃ tb rb, v = .slice (some ⟨tb, 0, none⟩) 1 1 /\ RpRow W.heap.size W (some ⟨tb, 0, none⟩) 1 [⟨0, some ⟨rb, 0, none⟩, 2, [pk30 ⟨#[97]⟩ ⟨#[50]⟩, qBP (some ⟨g, 0, none⟩) 1]⟩]
 | 5 => v = .agg #[.string ⟨#[97]⟩, .int .i64 0, .string ⟨#[49]⟩, .string ⟨#[49]⟩, .int .u8 1, .string ⟨#[]⟩, .slice none 0 0, .slice none 0 0, .slice none 0 0, .slice none 0 0, .slice none 0 0, .slice none 0 0, .slice none 0 0, .slice none 0 0, .slice none 0 0]
 | 6 => ∃ ib, v = .slice (some ⟨ib, 0, none⟩) 1 1 /\ PRow W.heap.size W (some ⟨ib, 0, none⟩) 1 [pk30 ⟨#[97]⟩ ⟨#[49]⟩]
 | 7 => ∃ P L, v = .tuple #[.pointer (some ⟨P, 0, none⟩), .int .i64 0] /\ Pool P 1 L W /\ qAI (aw30 (some ⟨g, 0, none⟩) 1) L
 | 8 => ∃ P L, v = .tuple #[.pointer (some ⟨P, 0, none⟩), .int .i64 0] /\ Pool P 1 L W /\ qAI (aw30 (some ⟨g, 0, none⟩) 1) L
 | 9 => ∃ P L, v = .pointer (some ⟨P, 0, none⟩) /\ Pool P 1 L W /\ qAI (aw30 (some ⟨g, 0, none⟩) 1) L
 | 10 => v = .int .i64 0
 | 11 => ∃ P L, v = .pointer (some ⟨P, 0, none⟩) /\ Pool P 1 L W /\ qAI (aw30 (some ⟨g, 0, none⟩) 1) L
 | _ => False
theorem qTD (g : Nat) : ∀ i v w w', awP g i v w -> Below w.heap.size w w' -> awP g i v w' := by
 intro i v w w' h hb
 match i, h with
 | 0, h | 1, h => exact h
 | 2, h => exact h.elim fun rb h => ⟨rb, h.1, h.2.calls hb⟩
 | 3, h => exact h.elim fun rb h => ⟨rb, h.1, h.2.calls hb⟩
 | 4, h => exact h.elim fun tb h => h.elim fun rb h => ⟨tb, rb, h.1, h.2.calls hb⟩
 | 5, h => exact h
 | 6, h => exact h.elim fun rb h => ⟨rb, h.1, h.2.calls hb⟩
 | 7, h => exact h.elim fun P h => h.elim fun L h => ⟨P, L, h.1, h.2.1.then hb, h.2.2⟩
 | 8, h => exact h.elim fun P h => h.elim fun L h => ⟨P, L, h.1, h.2.1.then hb, h.2.2⟩
 | 9, h => exact h.elim fun P h => h.elim fun L h => ⟨P, L, h.1, h.2.1.then hb, h.2.2⟩
 | 10, h => exact h
 | 11, h => exact h.elim fun P h => h.elim fun L h => ⟨P, L, h.1, h.2.1.then hb, h.2.2⟩
 | (i + 12), h => exact h.elim
theorem qU0 (w : World) (hI : PkIn w) : Calls Tryz.prog 22 #[] w fun e w' => e = .returned (.bool true) /\ Below w.heap.size w w' := by
 have HI := hid hI;clear hI;have NM := hid (fun n v W => qKQ n v W)
 go_enter Tryz.func22, Tryz.ntmps22
 go_wp2_with fail
 go_at_call 35
 refine (NM.out _ _ _).mono ?_;rintro e w1 ⟨rfl, hb1⟩;have B1 := hid hb1;clear hb1;go_wp2_with fail
 obtain ⟨V, hV⟩ : ∃ V, V = (w1.alloc (.cells #[.string ⟨#[98]⟩, .int .i64 0, .string ⟨#[49]⟩, .string ⟨#[49]⟩, .int .u8 1, .string ⟨#[]⟩, .slice none 0 0, .slice none 0 0, .slice none 0 0, .slice (some ⟨w1.heap.size + 1, 0, none⟩) 1 1, .slice none 0 0, .slice none 0 0, .slice none 0 0, .slice none 0 0, .slice none 0 0] 28)).alloc (.cells #[.string ⟨#[99]⟩, .int .u8 0, .int .i64 0, .string ⟨#[]⟩, .string ⟨#[]⟩] 37) := ⟨_, rfl⟩;rw [<- hV];have zV : V.heap.size = w1.heap.size + 2 := by rw [hV]; simp
 have BV := hid (show Below w.heap.size w V by rw [hV]; exact (B1.out.alloc B1.out.size _).alloc (by have := B1.out.size; simp; omega) _);have PA := hid (show PkAt V w1.heap.size (qBP (some ⟨w1.heap.size + 1, 0, none⟩) 1) by rw [hV]; exact (PkAt.new w1 (qBP (some ⟨w1.heap.size + 1, 0, none⟩) 1)).calls (bR.alloc lR _));have LB := hid (show (qBP (some ⟨w1.heap.size + 1, 0, none⟩) 1).Laid V.heap.size V from qN4 (by rw [hV]; have h := qCL (enc := encD) (size := 5) (fun _ => rfl) [(⟨[99], 0, ⟨0, [], []⟩⟩ : Dp)] (w1.alloc (.cells #[.string ⟨#[98]⟩, .int .i64 0, .string ⟨#[49]⟩, .string ⟨#[49]⟩, .int .u8 1, .string ⟨#[]⟩, .slice none 0 0, .slice none 0 0, .slice none 0 0, .slice (some ⟨w1.heap.size + 1, 0, none⟩) 1 1, .slice none 0 0, .slice none 0 0, .slice none 0 0, .slice none 0 0, .slice none 0 0] 28)) 37 (by decide); rw [show (w1.alloc (.cells #[.string ⟨#[98]⟩, .int .i64 0, .string ⟨#[49]⟩, .string ⟨#[49]⟩, .int .u8 1, .string ⟨#[]⟩, .slice none 0 0, .slice none 0 0, .slice none 0 0, .slice (some ⟨w1.heap.size + 1, 0, none⟩) 1 1, .slice none 0 0, .slice none 0 0, .slice none 0 0, .slice none 0 0, .slice none 0 0] 28)).heap.size = w1.heap.size + 1 by simp] at h; exact h));clear hV zV;generalize w1.heap.size + 1 = g at *;generalize w1.heap.size = bb at *;refine qAE (PP := awP g) 12 rfl (by kernel_rfl) (by kernel_rfl) (by decide) (by decide) (qTD g) (fun _ => undef) (by simp [qA2, gQ]) ?_ ?_
 ·intro i o vs W hi ho he hBW K hK;simp only [gT, qA2, gQ] at hK |-;have PAW := hid (PA.out.calls hBW);have LBW := hid ((LB.out.below hBW).more hBW.size);have BWW := hid (BV.out.trans (hBW.mono BV.out.size));obtain rfl | rfl | rfl | rfl | rfl | rfl | rfl | rfl | rfl | rfl | rfl | rfl := c12_ hi <;> simp only [gE] at ho <;> subst ho
  ·rw [if_pos (by rfl)];simp only [gQ] at hK;have HK := hid hK;clear hK he hi hBW;go_simp;go_at_call 35
   refine (NM.out _ _ _).mono ?_;rintro en w9 ⟨rfl, h⟩;go_simp;exact HK.out _ _ rfl h
  ·rw [if_pos (by rfl)];simp only [gQ] at hK;have HK := hid hK;clear hK he hi hBW;obtain ⟨hl, c0, c1, c2, c3, c4, c5, c6, c7, c8, c9, c10, c11, c12, c13, c14⟩ := PAW.out;simp only [qBP, pk30, List.length_nil, List.length_cons] at c0 c1 c2 c3 c4 c5 c6 c7 c8 c9 c10 c11 c12 c13 c14;go_simp;exact HK.out _ _ rfl bR
  ·have e0 : vs 0 = _ := he ⟨0, .data⟩ (by simp) rfl;rw [e0] at hK |-;have e1 : vs 1 = _ := he ⟨1, .data⟩ (by simp) rfl;rw [e1] at hK |-;rw [if_pos (by rfl)];simp only [gQ] at hK;have HK := hid hK;clear hK he hi hBW;have PM := hid (qK6 [pk30 ⟨#[97]⟩ ⟨#[50]⟩, qBP (some ⟨g, 0, none⟩) 1] W 28 (Nat.le_of_ble_eq_true rfl) (qS3 (qJ3 _ _ (by decide) (by decide) _) LBW.out));go_simp;exact HK.out _ _ ⟨W.heap.size, rfl, PM.out⟩ ((Below.refl _ W).alloc lR _)
  ·obtain ⟨rb, e2, hr2⟩ := he ⟨2, .data⟩ (by simp) rfl;rw [e2] at hK |-;rw [if_pos (by rfl)];simp only [gQ] at hK;have HK := hid hK;clear hK he hi hBW;go_simp;exact HK.out _ _ ⟨rb, rfl, hr2⟩ bR
  ·obtain ⟨rb, e3, hr3⟩ := he ⟨3, .data⟩ (by simp) rfl;rw [e3] at hK |-;rw [if_pos (by rfl)];simp only [gQ] at hK;have HK := hid hK;clear hK he hi hBW;have PM := hid (qNF ⟨0, some ⟨rb, 0, none⟩, 2, [pk30 ⟨#[97]⟩ ⟨#[50]⟩, qBP (some ⟨g, 0, none⟩) 1]⟩ W 66 hr3 (by show (Lit.int .i64 0).wf = true; decide) (by show 2 <= 1000000000000000; decide));clear hr3;go_simp;exact HK.out _ _ ⟨W.heap.size, rb, rfl, PM.out⟩ ((Below.refl _ W).alloc lR _)
  ·rw [if_pos (by rfl)];simp only [gQ] at hK;have HK := hid hK;clear hK he hi hBW;go_simp;go_at_call 35
   refine (NM.out _ _ _).mono ?_;rintro en w9 ⟨rfl, h⟩;go_simp;exact HK.out _ _ rfl h
  ·have e5 : vs 5 = _ := he ⟨5, .data⟩ (by simp) rfl;rw [e5] at hK |-;rw [if_pos (by rfl)];simp only [gQ] at hK;have HK := hid hK;clear hK he hi hBW;have PM := hid (qK6 [pk30 ⟨#[97]⟩ ⟨#[49]⟩] W 28 (Nat.le_of_ble_eq_true rfl) (qLP (qJ3 _ _ (by decide) (by decide) _)));go_simp;exact HK.out _ _ ⟨W.heap.size, rfl, PM.out⟩ ((Below.refl _ W).alloc lR _)
  ·obtain ⟨tb, rb, e4, hr4⟩ := he ⟨4, .data⟩ (by simp) rfl;rw [e4] at hK |-;obtain ⟨ib, e6, hi6⟩ := he ⟨6, .data⟩ (by simp) rfl;rw [e6] at hK |-;rw [if_pos (by rfl)];simp only [gQ] at hK;have HK := hid hK;clear hK he hi hBW;have NW := hid (qFU (some ⟨tb, 0, none⟩) 1 [⟨0, some ⟨rb, 0, none⟩, 2, [pk30 ⟨#[97]⟩ ⟨#[50]⟩, qBP (some ⟨g, 0, none⟩) 1]⟩] (some ⟨ib, 0, none⟩) 1 [pk30 ⟨#[97]⟩ ⟨#[49]⟩] W (HI.out.below BWW.out) hr4 hi6 qIV (by simp [qBK]) (by simp));clear hr4 hi6;go_simp;go_at_call 23
   refine NW.out.mono ?_;rintro en w9 ⟨h1, _, hb⟩;obtain ⟨P, L, rfl, hat, hal⟩ := h1 (qM1 _ _ _ _);have PO := Pool.of hat hal (qM1 _ _ _ _) (fun x hx => (qIV x hx).2);go_simp;exact HK.out _ _ ⟨P, L, rfl, PO, hal⟩ hb
  ·obtain ⟨P, L, e7, hp7⟩ := he ⟨7, .data⟩ (by simp) rfl;rw [e7] at hK |-;rw [if_pos (by rfl)];simp only [gQ] at hK;have HK := hid hK;clear hK he hi hBW;go_simp;exact HK.out _ _ ⟨P, L, rfl, hp7⟩ bR
  ·obtain ⟨P, L, e8, hp8⟩ := he ⟨8, .data⟩ (by simp) rfl;rw [e8] at hK |-;rw [if_pos (by rfl)];simp only [gQ] at hK;have HK := hid hK;clear hK he hi hBW;go_simp;exact HK.out _ _ ⟨P, L, rfl, hp8⟩ bR
  ·obtain ⟨P, L, e8, hp8⟩ := he ⟨8, .data⟩ (by simp) rfl;rw [e8] at hK |-;rw [if_pos (by rfl)];simp only [gQ] at hK;have HK := hid hK;clear hK he hi hBW;go_simp;exact HK.out _ _ rfl bR
  ·obtain ⟨P, L, e9, hp9⟩ := he ⟨9, .data⟩ (by simp) rfl;rw [e9] at hK |-;rw [if_pos (by rfl)];simp only [gQ] at hK;have HK := hid hK;clear hK he hi hBW;go_simp;exact HK.out _ _ ⟨P, L, rfl, hp9⟩ bR
 ·intro vs W3 hall hBW;obtain ⟨P, L, e9, hp, hal⟩ : awP g 11 (vs 11) W3 := hall 11 (by decide);have e10 : vs 10 = .int .i64 0 := (hall 10 (by decide) : awP g 10 (vs 10) W3);simp only [gT, qA2, qA8, qA7, gP];rw [e9, e10];generalize vs 0 = q0, vs 1 = q1, vs 2 = q2, vs 3 = q3, vs 4 = q4, vs 5 = q5, vs 6 = q6, vs 7 = q7, vs 8 = q8, vs 9 = q9;have B3 := hid (BV.out.trans (hBW.mono BV.out.size));have PO := hid hp;have HL := hid (show L.length = 3 from hal.1);have E1 := hid ((qGS (qP1 hal) 1 [1]).trans qVE);have E2 := hid ((qGS (qP1 hal) 1 [2]).trans qV8);clear hall hBW e9 e10 hp hal BV PA LB;have OF := hid (fun W (hb : Below W3.heap.size W3 W) (A' : Option Addr) (c' : Nat) (z : Int) (D : List (Int × Int)) (hD : qBY L 1 [z] = D) (hz : badS 3 [z] = false) (hR : Rd encI 1 W.heap.size A' c' [z] W) => (show Calls Tryz.prog 25 #[.pointer (some ⟨P, 0, none⟩), .slice A' 1 c'] W fun e w' => ∃ A2 c2, e = .returned (.tuple #[.slice A2 D.length c2, .int .i64 0]) /\ Rd qBG 2 w'.heap.size A2 c2 D w' /\ Below W.heap.size W w' from by
   have h := qMH (I0 := 1) (PO.out.then hb) A' c' [z] hR (by simp) (by have := HL.out; omega) (by have := HL.out; omega);rw [HL.out, hz, hD] at h;refine h.mono ?_;rintro e w' ⟨v, rfl, ho, hb'⟩;obtain ⟨A2, c2, rfl, hrd⟩ := ho.rd qBV;exact ⟨A2, c2, rfl, hrd, hb'⟩))
  have AP := hid (fun W (hb : Below W3.heap.size W3 W) (A' : Option Addr) (c' : Nat) (hR : Rd qBG 2 W.heap.size A' c' [(7, 0), (2, 1)] W) => (show Calls Tryz.prog 27 #[.pointer (some ⟨P, 0, none⟩), .slice A' 2 c'] W fun e w' => ∃ A2 c2, e = .returned (.tuple #[.slice A2 1 c2, .int .i64 0]) /\ Rd encI 1 w'.heap.size A2 c2 [1] w' /\ Below W.heap.size W w' from by
   have h := qFV (ins := 1) (PO.out.then hb) A' c' [(7, 0), (2, 1)] hR (by simp) (by have := HL.out; omega) (by have := HL.out; omega);rw [HL.out, qTK.1, qTK.2] at h;refine h.mono ?_;rintro e w' ⟨v, rfl, ho, hb'⟩;obtain ⟨A2, c2, rfl, hrd⟩ := ho.rd (fun _ => rfl);exact ⟨A2, c2, rfl, hrd, hb'⟩))
  go_wp2_with fail
  have B33 := hid (Below.refl W3.heap.size W3);go_at_call 25
  refine (OF.out _ (B33.out.alloc B33.out.size _) (some ⟨W3.heap.size, 0, none⟩) 1 1 _ E1.out (by decide) (qCL (enc := encI) (size := 1) (fun _ => rfl) [(1 : Int)] W3 3 (by decide))).mono ?_;rintro e w4 ⟨A4, c4, rfl, hr, hb⟩;have Rw4 := hid hr;have Bw4 := hid ((B33.out.alloc B33.out.size (.cells #[.int .i64 1] 3)).trans (hb.mono (by have := B33.out.size; simp only [World.size_alloc]; omega)));clear hr hb;go_wp2_with fail
  go_at_call 25
  refine (OF.out _ (Bw4.out.alloc Bw4.out.size _) (some ⟨w4.heap.size, 0, none⟩) 1 2 _ E2.out (by decide) (qCL (enc := encI) (size := 1) (fun _ => rfl) [(2 : Int)] w4 3 (by decide))).mono ?_;rintro e w5 ⟨A5, c5, rfl, hr, hb⟩;have Rw5 := hid hr;have Bw5 := hid ((Bw4.out.alloc Bw4.out.size (.cells #[.int .i64 2] 3)).trans (hb.mono (by have := Bw4.out.size; simp only [World.size_alloc]; omega)));have R4 := hid (((Rw4.out.below ((Below.refl _ w4).alloc lR (.cells #[.int .i64 2] 3))).more (by simp)).below hb |>.more hb.size);clear hr hb Rw4;go_wp2_with fail
  go_at_call 27
  refine (AP.out w5 Bw5.out A4 c4 R4.out).mono ?_;rintro e w6 ⟨A6, c6, rfl, hr, hb⟩;have R6 := hid hr;have B6 := hid (Bw5.out.trans (hb.mono Bw5.out.size));have R46 := hid ((R4.out.below hb).more hb.size);have R56 := hid ((Rw5.out.below hb).more hb.size);clear hr hb R4 Rw5 Bw5 Bw4 B33 OF AP E1 E2;go_wp2_with fail
  have S1 := hid (fun W A c B d (h : Rd qBG 2 W.heap.size A c [(7, 0), (2, 1)] W) (h' : Rd qBG 2 W.heap.size B d [(7, 0), (2, 1)] W) => (show Calls Tryz.prog 29 #[.slice A 2 c, .slice B 2 d] W fun e w' => e = .returned (.bool true) /\ Below W.heap.size W w' from by have h := qEV A B c d [(7, 0), (2, 1)] [(7, 0), (2, 1)] W (by simp) (by simp) h h'; rw [decide_eq_true rfl] at h; exact h));have S2 := hid (fun W A c B d (h : Rd qBG 2 W.heap.size A c [(6, 0), (1, 2)] W) (h' : Rd qBG 2 W.heap.size B d [(6, 0), (1, 2)] W) => (show Calls Tryz.prog 29 #[.slice A 2 c, .slice B 2 d] W fun e w' => e = .returned (.bool true) /\ Below W.heap.size W w' from by have h := qEV A B c d [(6, 0), (1, 2)] [(6, 0), (1, 2)] W (by simp) (by simp) h h'; rw [decide_eq_true rfl] at h; exact h));have S3 := hid (fun W A c B d (h : Rd encI 1 W.heap.size A c [1] W) (h' : Rd encI 1 W.heap.size B d [1] W) => (show Calls Tryz.prog 30 #[.slice A 1 c, .slice B 1 d] W fun e w' => e = .returned (.bool true) /\ Below W.heap.size W w' from by have h := qD8 A B c d [1] [1] W (by simp) (by simp) h h'; rw [decide_eq_true rfl] at h; exact h));have K1 := hid (fun W => (show Calls Tryz.prog 31 #[.int .u8 5] W fun e w' => e = .returned (.bool true) /\ Below W.heap.size W w' from qD6 5 W));have K2 := hid (fun W => (show Calls Tryz.prog 31 #[.int .u8 6] W fun e w' => e = .returned (.bool false) /\ Below W.heap.size W w' from qD6 6 W));have K3 := hid (fun W => (show Calls Tryz.prog 33 #[.int .u8 6] W fun e w' => e = .returned (.bool true) /\ Below W.heap.size W w' from qD4 6 W));have K4 := hid (fun W => (show Calls Tryz.prog 33 #[.int .u8 9] W fun e w' => e = .returned (.bool false) /\ Below W.heap.size W w' from qD4 9 W));go_at_call 29
  refine (S1.out _ _ _ _ _ ((R46.out.below ((Below.refl _ w6).alloc lR (.cells #[.int .u8 7, .int .i64 0, .int .u8 2, .int .i64 1] 61))).more (by simp)) (qCL (enc := qBG) (size := 2) qBV [(7, 0), (2, 1)] w6 61 (by decide))).mono ?_;rintro e w7 ⟨rfl, hb⟩;have Hw7 := hid (((Below.refl _ w6).alloc lR (.cells #[.int .u8 7, .int .i64 0, .int .u8 2, .int .i64 1] 61)).trans (hb.mono (by simp)));have Bw7 := hid (B6.out.trans (Hw7.out.mono B6.out.size));clear hb;have R57 := hid ((R56.out.below Hw7.out).more Hw7.out.size);have R67 := hid ((R6.out.below Hw7.out).more Hw7.out.size);clear R56 R6 R46;go_wp2_with fail
  go_at_call 29
  refine (S2.out _ _ _ _ _ ((R57.out.below ((Below.refl _ w7).alloc lR (.cells #[.int .u8 6, .int .i64 0, .int .u8 1, .int .i64 2] 61))).more (by simp)) (qCL (enc := qBG) (size := 2) qBV [(6, 0), (1, 2)] w7 61 (by decide))).mono ?_;rintro e w8 ⟨rfl, hb⟩;have Hw8 := hid (((Below.refl _ w7).alloc lR (.cells #[.int .u8 6, .int .i64 0, .int .u8 1, .int .i64 2] 61)).trans (hb.mono (by simp)));have Bw8 := hid (Bw7.out.trans (Hw8.out.mono Bw7.out.size));clear hb;have R68 := hid ((R67.out.below Hw8.out).more Hw8.out.size);clear R57 R67;go_wp2_with fail
  go_at_call 30
  refine (S3.out _ _ _ _ _ ((R68.out.below ((Below.refl _ w8).alloc lR (.cells #[.int .i64 1] 3))).more (by simp)) (qCL (enc := encI) (size := 1) (fun _ => rfl) [(1 : Int)] w8 3 (by decide))).mono ?_;rintro e w9 ⟨rfl, hb⟩;have Bw9 := hid (Bw8.out.trans ((((Below.refl _ w8).alloc lR (.cells #[.int .i64 1] 3)).trans (hb.mono (by simp))).mono Bw8.out.size));clear hb;go_wp2_with fail
  go_at_call 31
  refine (K1.out _).mono ?_;rintro e w10 ⟨rfl, hb⟩;have Bw10 := hid (Bw9.out.trans (hb.mono Bw9.out.size));clear hb;go_wp2_with fail
  go_at_call 31
  refine (K2.out _).mono ?_;rintro e w11 ⟨rfl, hb⟩;have Bw11 := hid (Bw10.out.trans (hb.mono Bw10.out.size));clear hb;go_wp2_with fail
  go_at_call 33
  refine (K3.out _).mono ?_;rintro e w12 ⟨rfl, hb⟩;have Bw12 := hid (Bw11.out.trans (hb.mono Bw11.out.size));clear hb;go_wp2_with fail
  go_at_call 33
  refine (K4.out _).mono ?_;rintro e w13 ⟨rfl, hb⟩;have Bw13 := hid (Bw12.out.trans (hb.mono Bw12.out.size));clear hb;go_wp2_with fail
  go_ret;exact ⟨rfl, B3.out.trans (Bw13.out.mono B3.out.size)⟩
