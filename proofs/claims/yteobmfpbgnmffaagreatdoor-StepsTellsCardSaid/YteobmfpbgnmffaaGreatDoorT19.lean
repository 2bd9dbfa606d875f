/- PkCopyL, PoolMem -/
import Derived.Test.YteobmfpbgnmffaaGreatDoorT18
import Derived.Maps.GroupsBeside
set_option linter.unusedVariables false
set_option linter.unusedSimpArgs false
namespace Go.Proofs.YteobmfpbgnmffaaGreatDoor
section
open Go.RowKit Go.Shelf
def over : List Value -> Nat -> List Value -> List Value
 | xs, _, [] => xs
 | xs, k, v :: l => over (xs.set k v) (k + 1) l
theorem qLU : ∀ (l P Q R : List Value), Q.length = l.length -> over (P ++ (Q ++ R)) P.length l = P ++ (l ++ R)
 | [], P, Q, R, h => by
  obtain rfl : Q = [] := List.eq_nil_of_length_eq_zero h;rfl
 | v :: l, P, [], R, h => by simp at h
 | v :: l, P, q :: Q, R, h => by
  have e1 : (P ++ (q :: Q ++ R)).set P.length v = (P ++ [v]) ++ (Q ++ R) := by simp [List.set_append]
  have e2 := qLU l (P ++ [v]) Q R (by simpa using h);rw [over, e1, show P.length + 1 = (P ++ [v]).length by simp, e2];simp
theorem qRF {α : Type} {enc : α -> List Value} {size : Nat} (he : ∀ x, (enc x).length = size) (m : List α) (j : Nat) (hj : j < m.length) (x : α) : over (m.flatMap enc) (j * size) (enc x) = (m.set j x).flatMap enc := by
 have h1 : m = m.take j ++ m[j] :: m.drop (j + 1) := by rw [List.getElem_cons_drop]; exact (List.take_append_drop j m).symm
 have h2 : m.set j x = m.take j ++ x :: m.drop (j + 1) := by rw [List.set_eq_take_append_cons_drop, if_pos hj]
 have hl : ((m.take j).flatMap enc).length = j * size := by
  have : ∀ l : List α, (l.flatMap enc).length = l.length * size := fun l => by
   induction l with
   | nil => simp
   | cons a l ih => simp [ih, he, Nat.add_mul, Nat.add_comm]
  rw [this, List.length_take, Nat.min_eq_left (Nat.le_of_lt hj)]
 have h3 : m.flatMap enc = (m.take j).flatMap enc ++ (enc m[j] ++ (m.drop (j + 1)).flatMap enc) := by
  have h4 := congrArg (fun l => List.flatMap enc l) h1;simp only [List.flatMap_append, List.flatMap_cons] at h4;exact h4
 rw [h3, h2, <- hl, qLU (enc x) _ _ _ (by rw [he, he])];simp
section
variable {base : Nat} {e : TypeId} {size g n cap : Nat} {W : World}
theorem qCE {xs : List Value} (h : W.ownsRow base e size (.slice (some ⟨g, 0, none⟩) n cap) n xs) (k : Nat) (v : Value) : (W.setCell ⟨g, k, none⟩ v).ownsRow base e size (.slice (some ⟨g, 0, none⟩) n cap) n (xs.set k v) := by
 refine ⟨by rw [List.length_set]; exact h.1, .inr ?_⟩;rcases h.2 with ⟨h2, _⟩ | ⟨g', cap', cur, hv, hg, hh, h1, h2, h3, h4⟩
 ·simp at h2
 ·simp only [Value.slice.injEq, Option.some.injEq, Addr.mk.injEq] at hv;obtain ⟨⟨rfl, _⟩, _, rfl⟩ := hv;refine ⟨g, cap, cur.setIfInBounds k v, rfl, hg, ?_, h1, h2, by simpa using h3, ?_⟩
  ·simp [World.setCell, Array.getElem?_modify, hh]
  ·rw [Array.toList_setIfInBounds, List.take_set, h4]
theorem qF6 : ∀ (l : List Value) (k : Nat) (W : World) (xs : List Value), W.ownsRow base e size (.slice (some ⟨g, 0, none⟩) n cap) n xs -> (setL g k l W).ownsRow base e size (.slice (some ⟨g, 0, none⟩) n cap) n (over xs k l)
 | [], k, W, xs, h => h
 | v :: l, k, W, xs, h => qF6 l (k + 1) _ _ (qCE h k v)
theorem qUL {α : Type} {enc : α -> List Value} {m : List α} (h : Own enc size base e (.slice (some ⟨g, 0, none⟩) n cap) m W) (he : ∀ x, (enc x).length = size) {j : Nat} (hj : j < m.length) (x : α) : Own enc size base e (.slice (some ⟨g, 0, none⟩) n cap) (m.set j x) (setL g (j * size) (enc x) W) := by
 have hn : n = m.length := by
  rcases h.2 with ⟨h2, _⟩ | ⟨g', cap', cur, hv, _⟩
  ·simp at h2
  ·simp only [Value.slice.injEq] at hv; exact hv.2.1
 subst hn;unfold Own at *;rw [List.length_set, <- qRF he m j hj x];exact qF6 _ _ _ _ h
theorem qRZ {α : Type} {enc : α -> List Value} {m : List α} {A : Option Addr} (h : Own enc size base e (.slice A n cap) m W) (hm : 0 < m.length) : ∃ g, A = some ⟨g, 0, none⟩ /\ base <= g /\ g < W.heap.size /\ n = m.length /\ (∀ i, W.frozen? ⟨g, i, none⟩ = false) := by
 rcases h.2 with ⟨_, h2⟩ | ⟨g', cap', cur, hv, hg, hh, _⟩
 ·omega
 ·simp only [Value.slice.injEq] at hv;exact ⟨g', hv.1, hg, (Array.getElem?_eq_some_iff.1 hh).1, hv.2.1, fun i => by simp [World.frozen?, hh]⟩
end
theorem qDR {B R : Nat} (hB : B <= R) : ∀ (l : List Value) (k : Nat) (W : World), Below B W (setL R k l W)
 | [], _, W => Below.refl _ _
 | v :: l, k, W => (bR.setCell (p := ⟨R, k, none⟩) hB v).trans (qDR hB l (k + 1) _)
theorem qGD (R : Nat) (l : List Value) (k : Nat) (W : World) : (setL R k l W).heap.size = W.heap.size := by
 induction l generalizing k W with
 | nil => rfl
 | cons v l ih => rw [setL, ih]; simp [World.setCell]
theorem qOG {base : Nat} {e : TypeId} {g n cap : Nat} {W : World} {m : List RV} (h : Own encR 7 base e (.slice (some ⟨g, 0, none⟩) n cap) m W) {k : Nat} (hk : k < m.length) : W.cell? ⟨g, k * 7, none⟩ = some (.int .u8 m[k].kind) /\ W.cell? ⟨g, k * 7 + 1, none⟩ = some (.string (bs m[k].dep.name)) /\ W.cell? ⟨g, k * 7 + 2, none⟩ = some (.int .u8 m[k].dep.op) /\ W.cell? ⟨g, k * 7 + 3, none⟩ = some (.int .i64 m[k].dep.evr.epoch) /\ W.cell? ⟨g, k * 7 + 4, none⟩ = some (.string (bs m[k].dep.evr.ver)) /\ W.cell? ⟨g, k * 7 + 5, none⟩ = some (.string (bs m[k].dep.evr.rel)) /\ W.cell? ⟨g, k * 7 + 6, none⟩ = some (.slice m[k].addr m[k].args.length m[k].cap) := by
 obtain ⟨A', c', e', hr⟩ := h.rd qCF;simp only [Value.slice.injEq] at e';obtain ⟨b, o, e2, _, hc⟩ := hr.cells hk;rw [<- e'.1] at e2;cases e2
 simp only [Nat.zero_add] at hc;exact ⟨hc 0 _ rfl, hc 1 _ rfl, hc 2 _ rfl, hc 3 _ rfl, hc 4 _ rfl, hc 5 _ rfl, hc 6 _ rfl⟩
theorem qNP {α : Type} {enc : α -> List Value} {size base : Nat} {e : TypeId} {g n cap : Nat} {W : World} {m : List α} (h : Own enc size base e (.slice (some ⟨g, 0, none⟩) n cap) m W) (i : Nat) : W.frozen? ⟨g, i, none⟩ = false := by
 rcases h.2 with ⟨h2, _⟩ | ⟨g', cap', cur, hv, hg, hh, _⟩
 ·cases h2
 ·simp only [Value.slice.injEq, Option.some.injEq, Addr.mk.injEq] at hv;obtain ⟨⟨rfl, _⟩, _⟩ := hv;simp [World.frozen?, hh]
structure PartRow (w0 : World) (base : Nat) (A : Option Addr) (n cap : Nat) (orig m : List RV) (j : Nat) (W : World) : Prop where
 own : Own encR 7 base 39 (.slice A n cap) m W
 tr : qA6 m = qA6 orig
 done : ∀ (k : Nat) (hk : k < m.length), k < j -> TQ (fun b => base <= b /\ b < W.heap.size /\ (Value.slice A n cap).ownBlock ≠ some b) W m[k]
 rest : ∀ k, j <= k -> m[k]? = orig[k]?
 low : w0.heap.size <= base
 old : Below w0.heap.size w0 W
section
variable {w0 : World} {base : Nat} {A : Option Addr} {n cap : Nat} {orig m : List RV} {j : Nat} {W : World}
theorem PartRow.start {W0 : World} (h : Own encR 7 W0.heap.size 39 (.slice A n cap) orig W) (hb : Below w0.heap.size w0 W) (hz : w0.heap.size <= W0.heap.size) : PartRow w0 W0.heap.size A n cap orig orig 0 W :=
 ⟨h, rfl, fun k hk h0 => absurd h0 (Nat.not_lt_zero _), fun _ _ => rfl, hz, hb⟩
theorem PartRow.len (h : PartRow w0 base A n cap orig m j W) : m.length = orig.length := by rw [<- qAD, h.tr, qAD]
theorem PartRow.keep {W' : World} (h : PartRow w0 base A n cap orig m j W) (hs : W.heap.size <= W'.heap.size) (hb : ∀ b, base <= b -> b < W.heap.size -> W'.heap[b]? = W.heap[b]?) (ho : Below w0.heap.size w0 W') : PartRow w0 base A n cap orig m j W' where
 own := qB7 h.own lR (fun g hg => hb g (World.ownsRow.lt h.own g hg).1 (World.ownsRow.lt h.own g hg).2)
 tr := h.tr
 done := fun k hk h1 => (h.done k hk h1).keep (fun b hq => ⟨hq.1, Nat.lt_of_lt_of_le hq.2.1 hs, hq.2.2⟩) fun b hq => hb b hq.1 hq.2.1
 rest := h.rest
 low := h.low
 old := ho
theorem PartRow.call {W' : World} (h : PartRow w0 base A n cap orig m j W) (hb : Below W.heap.size W W') : PartRow w0 base A n cap orig m j W' :=
 h.keep hb.size (fun b _ hl => hb.block b hl) (h.old.trans (hb.mono h.old.size))
theorem PartRow.get (h : PartRow w0 base A n cap orig m j W) (hj : j < m.length) : m[j] = orig[j]'(by have := h.len; omega) := by
 have := h.rest j lR;have hl := h.len;rw [List.getElem?_eq_getElem hj, List.getElem?_eq_getElem (by omega)] at this;exact Option.some.inj this
theorem qQH (l : List RV) (j : Nat) (x : RV) (h : (qA6 l)[j]? = some x.tree) : qA6 (l.set j x) = qA6 l := by
 induction l generalizing j with
 | nil => rfl
 | cons a l ih =>
  cases j with
  | zero => simp [qA6] at h |-; exact h.symm
  | succ j => simp [qA6] at h |-; exact ih j h
theorem PartRow.step {g : Nat} {W2 : World} {rv : RV} (h : PartRow w0 base (some ⟨g, 0, none⟩) n cap orig m j W) (hj : j < m.length) (ht : rv.tree = (m[j]).tree) (hT : TQ (fun b => W.heap.size <= b /\ b < W2.heap.size) W2 rv) (hb : Below W.heap.size W W2) :
  PartRow w0 base (some ⟨g, 0, none⟩) n cap orig (m.set j rv) (j + 1) (setL g (j * 7) (encR rv) W2) := by
 have hg := World.ownsRow.lt h.own g rfl;have h2 := h.call hb;have hblk : ∀ b, b ≠ g -> (setL g (j * 7) (encR rv) W2).heap[b]? = W2.heap[b]? := fun b hne => by
  by_cases hlt : b < W2.heap.size
  ·exact (qBU g (encR rv) (j * 7) W2).block b hlt hne
  ·rw [Array.getElem?_eq_none (by rw [qGD]; omega), Array.getElem?_eq_none (by omega)]
 refine ⟨qUL h2.own qCF hj rv, ?_, fun k hk h1 => ?_, fun k hk => ?_, h.low, h2.old.trans (qDR (by have := h.low; omega) _ _ _)⟩
 ·rw [qQH _ _ _ (by rw [List.getElem?_eq_getElem (by rw [qAD]; exact hj), qB2 m j hj, ht]), h.tr]
 ·have hk' : k < m.length := by simpa using hk
  by_cases hkj : k = j
  ·subst hkj;rw [List.getElem_set_self];refine hT.keep (fun b hq => ⟨by omega, by rw [qGD]; omega, fun e => by have e' : g = b := Option.some.inj e; omega⟩) fun b hq => hblk b (by omega)
  ·rw [List.getElem_set_ne (fun e => hkj e.symm)];exact (h2.done k hk' (by omega)).keep (fun b hq => ⟨hq.1, by rw [qGD]; exact hq.2.1, hq.2.2⟩) fun b hq => hblk b (fun e => hq.2.2 (by rw [e]; rfl))
 ·rw [List.getElem?_set_ne (by omega)];exact h.rest k (by omega)
theorem PartRow.fin (h : PartRow w0 base A n cap orig m j W) (hj : m.length <= j) : ROwn base m (.slice A n cap) W :=
 ⟨h.own, fun a ha => by
  obtain ⟨k, hk, rfl⟩ := List.getElem_of_mem ha;exact h.done k hk (by omega)⟩
end
theorem qAJ.len {cb : Nat} {q : Pk} {i : Nat} {A : Option Addr} {c : Nat} {m m' : List RV} {W : World} (h : qAJ cb (q.setR i A c m) W) (hi : i < 6) (hl : m'.length = m.length) : qAJ cb (q.setR i A c m') W := by
 unfold qAJ PkAt at *;obtain rfl | rfl | rfl | rfl | rfl | rfl : i = 0 \/ i = 1 \/ i = 2 \/ i = 3 \/ i = 4 \/ i = 5 := by omega
 all_goals (simp only [Pk.setR, hl] at h |-; exact h)
theorem qAJ.butR {cb R : Nat} {q : Pk} {W W' : World} (h : qAJ cb q W) (hb : ButR R W W') (hr : cb ≠ R) : qAJ cb q W' := by
 obtain ⟨⟨hl, c0, c1, c2, c3, c4, c5, c6, c7, c8, c9, c10, c11, c12, c13, c14⟩, hf, hlt⟩ := h;have k : ∀ i, W'.cell? ⟨cb, i, none⟩ = W.cell? ⟨cb, i, none⟩ := fun i => hb.cellK (p := ⟨cb, i, none⟩) hlt hr;exact ⟨⟨Nat.lt_of_lt_of_le hl hb.size, (k 0).trans c0, (k 1).trans c1, (k 2).trans c2, (k 3).trans c3, (k 4).trans c4, (k 5).trans c5, (k 6).trans c6, (k 7).trans c7, (k 8).trans c8, (k 9).trans c9, (k 10).trans c10, (k 11).trans c11, (k 12).trans c12, (k 13).trans c13, (k 14).trans c14⟩, fun i hi => (hb.frozenK (p := ⟨cb, i, none⟩) hlt hr).trans (hf i hi), Nat.lt_of_lt_of_le hlt hb.size⟩
theorem Alike.setR {p q : Pk} (h : Alike p q) {i : Nat} (hi : i < 6) (A : Option Addr) (c : Nat) {m : List RV} (hm : qA6 m = qA6 (sixL q i)) : Alike p (q.setR i A c m) := by
 obtain rfl | rfl | rfl | rfl | rfl | rfl : i = 0 \/ i = 1 \/ i = 2 \/ i = 3 \/ i = 4 \/ i = 5 := by omega
 ·exact { h with req := hm.trans h.req }
 ·exact { h with con := hm.trans h.con }
 ·exact { h with rcm := hm.trans h.rcm }
 ·exact { h with sup := hm.trans h.sup }
 ·exact { h with sug := hm.trans h.sug }
 ·exact { h with enh := hm.trans h.enh }
theorem qOE (q : Pk) {i : Nat} (hi : i < 6) (A : Option Addr) (c : Nat) (m : List RV) : sixL (q.setR i A c m) i = m /\ (q.setR i A c m).rA i = A /\ (q.setR i A c m).rC i = c := by
 obtain rfl | rfl | rfl | rfl | rfl | rfl : i = 0 \/ i = 1 \/ i = 2 \/ i = 3 \/ i = 4 \/ i = 5 := by omega
 all_goals exact ⟨rfl, rfl, rfl⟩
theorem qQ8 (q : Pk) {i j : Nat} (hi : i < 6) (hj : j < 6) (hne : j ≠ i) (A : Option Addr) (c : Nat) (m : List RV) : sixL (q.setR i A c m) j = sixL q j /\ (q.setR i A c m).rA j = q.rA j /\ (q.setR i A c m).rC j = q.rC j := by
 obtain rfl | rfl | rfl | rfl | rfl | rfl : i = 0 \/ i = 1 \/ i = 2 \/ i = 3 \/ i = 4 \/ i = 5 := by omega
 all_goals (obtain rfl | rfl | rfl | rfl | rfl | rfl : j = 0 \/ j = 1 \/ j = 2 \/ j = 3 \/ j = 4 \/ j = 5 := by omega)
 all_goals first | (exact absurd rfl hne) | exact ⟨rfl, rfl, rfl⟩
theorem qOR (q : Pk) {i : Nat} (hi : i < 6) (A : Option Addr) (c : Nat) (m : List RV) : (q.setR i A c m).provA = q.provA /\ (q.setR i A c m).provC = q.provC /\ (q.setR i A c m).prov = q.prov /\ (q.setR i A c m).obsA = q.obsA /\ (q.setR i A c m).obsC = q.obsC /\ (q.setR i A c m).obs = q.obs /\ (q.setR i A c m).filesA = q.filesA /\ (q.setR i A c m).filesC = q.filesC /\ (q.setR i A c m).files = q.files := by
 obtain rfl | rfl | rfl | rfl | rfl | rfl : i = 0 \/ i = 1 \/ i = 2 \/ i = 3 \/ i = 4 \/ i = 5 := by omega
 all_goals exact ⟨rfl, rfl, rfl, rfl, rfl, rfl, rfl, rfl, rfl⟩
theorem PkOwn.more {base base' : Nat} {q : Pk} {W : World} (h : PkOwn base q W) (hb : base' <= base) : PkOwn base' q W :=
 have r : ∀ {l : List RV} {v : Value}, ROwn base l v W -> ROwn base' l v W := fun k => ⟨Own.more k.own hb, fun a ha => (k.tr a ha).keep (fun b hq => ⟨Nat.le_trans hb hq.1, hq.2⟩) fun _ _ => rfl⟩
 ⟨Own.more h.prov hb, Own.more h.obs hb, Own.more h.files hb, r h.req, r h.con, r h.rcm, r h.sup, r h.sug, r h.enh⟩
structure CopyAt (w : World) (cb : Nat) (p : Pk) (i : Nat) (q : Pk) (W : World) : Prop where
 box : qAJ cb q W
 alike : Alike p q
 prov : Own encD 5 (cb + 2) 37 (.slice q.provA q.prov.length q.provC) q.prov W
 obs : Own encD 5 (cb + 2) 37 (.slice q.obsA q.obs.length q.obsC) q.obs W
 files : Own qF0 1 (cb + 2) 9 (.slice q.filesA q.files.length q.filesC) q.files W
 done : ∀ j, j < 6 -> j < i -> ROwn (cb + 2) (sixL q j) (.slice (q.rA j) (sixL q j).length (q.rC j)) W
 rest : ∀ j, j < 6 -> i <= j -> sixL q j = sixL p j /\ q.rA j = p.rA j /\ q.rC j = p.rC j
 old : Below w.heap.size w W
 base : w.heap.size <= cb
 room : cb + 2 <= W.heap.size
theorem CopyAt.step {w W W' : World} {cb : Nat} {p q : Pk} {i : Nat} (h : CopyAt w cb p i q W) (hi : i < 6) (hb : ButR cb W W') {A : Option Addr} {c : Nat} {m : List RV} (hx : qAJ cb (q.setR i A c m) W') (hm : qA6 m = qA6 (sixL q i)) (hr : ROwn W.heap.size m (.slice A m.length c) W') :
  CopyAt w cb p (i + 1) (q.setR i A c m) W' := by
 obtain ⟨e1, e2, e3, e4, e5, e6, e7, e8, e9⟩ := qOR q hi A c m;have hcb := h.box.2.2;refine ⟨hx, h.alike.setR hi A c hm, ?_, ?_, ?_, fun j hj hji => ?_, fun j hj hji => ?_, h.old.trans (hb.below h.base hcb), h.base, Nat.le_trans h.room hb.size⟩
 ·rw [e1, e2, e3]; exact h.prov.butR hb (by omega)
 ·rw [e4, e5, e6]; exact h.obs.butR hb (by omega)
 ·rw [e7, e8, e9]; exact h.files.butR hb (by omega)
 ·by_cases hne : j = i
  ·subst hne;obtain ⟨f1, f2, f3⟩ := qOE q hi A c m;rw [f1, f2, f3];exact ⟨Own.more hr.own h.room, fun a ha => (hr.tr a ha).keep (fun b hq => ⟨Nat.le_trans h.room hq.1, hq.2⟩) fun _ _ => rfl⟩
  ·obtain ⟨f1, f2, f3⟩ := qQ8 q hi hj hne A c m;rw [f1, f2, f3];exact (h.done j hj (by omega)).butR hb (by omega)
 ·obtain ⟨f1, f2, f3⟩ := qQ8 q hi hj (by omega) A c m;rw [f1, f2, f3];exact h.rest j hj (by omega)
theorem CopyAt.then {w W W' : World} {cb : Nat} {p q : Pk} {i : Nat} (h : CopyAt w cb p i q W) (hb : Below W.heap.size W W') : CopyAt w cb p i q W' := by
 have hR : ButR cb W W' := .of hb;exact ⟨h.box.then hb, h.alike, h.prov.butR hR (by omega), h.obs.butR hR (by omega), h.files.butR hR (by omega), fun j hj hji => (h.done j hj hji).butR hR (by omega), h.rest, h.old.trans (hb.mono h.old.size), h.base, Nat.le_trans h.room hb.size⟩
theorem CopyAt.start {w W : World} {p : Pk} {cb : Nat} (hx : qAJ cb p W) (hb : Below w.heap.size w W) (hc : w.heap.size <= cb) (hr : cb + 2 <= W.heap.size) {A2 A5 A8 : Option Addr} {k2 k5 k8 : Nat} (o2 : Own encD 5 (cb + 2) 37 (.slice A2 p.prov.length k2) p.prov W) (o5 : Own encD 5 (cb + 2) 37 (.slice A5 p.obs.length k5) p.obs W) (o8 : Own qF0 1 (cb + 2) 9 (.slice A8 p.files.length k8) p.files W) :
  CopyAt w cb p 0 { p with provA := A2, provC := k2, obsA := A5, obsC := k5, filesA := A8, filesC := k8 } (((W.setCell ⟨cb, 6, none⟩ (.slice A2 p.prov.length k2)).setCell ⟨cb, 9, none⟩ (.slice A5 p.obs.length k5)).setCell ⟨cb, 14, none⟩ (.slice A8 p.files.length k8)) := by
 have hR := (((ButR.refl cb W).set 6 (.slice A2 p.prov.length k2)).set 9 (.slice A5 p.obs.length k5)).set 14 (.slice A8 p.files.length k8);refine ⟨((hx.set_prov A2 k2 p.prov).set_obs A5 k5 p.obs).set_files A8 k8 p.files, ⟨rfl, rfl, rfl, rfl, rfl, rfl, rfl, rfl, rfl, rfl, rfl, rfl, rfl, rfl, rfl⟩, o2.butR hR (by omega), o5.butR hR (by omega), o8.butR hR (by omega), fun j _ h => absurd h (Nat.not_lt_zero _), fun j hj _ => ?_, hb.trans (hR.below hc hx.2.2), hc, Nat.le_trans hr hR.size⟩;obtain rfl | rfl | rfl | rfl | rfl | rfl : j = 0 \/ j = 1 \/ j = 2 \/ j = 3 \/ j = 4 \/ j = 5 := by omega
 all_goals exact ⟨rfl, rfl, rfl⟩
theorem CopyAt.row {w W : World} {cb : Nat} {p q : Pk} {i : Nat} (h : CopyAt w cb p i q W) (hL : p.Laid w.heap.size w) (hi : i < 6) : Rd encR 7 W.heap.size (q.rA i) (q.rC i) (sixL q i) W := by
 obtain ⟨e1, e2, e3⟩ := h.rest i hi lR;rw [e1, e2, e3];exact ((qLL hL hi).1.below h.old).more h.old.size
theorem CopyAt.trees {w W : World} {cb : Nat} {p q : Pk} {i : Nat} (h : CopyAt w cb p i q W) (hL : p.Laid w.heap.size w) (hi : i < 6) : ∀ t ∈ sixL q i, RTree w.heap.size w t := by
 obtain ⟨e1, e2, e3⟩ := h.rest i hi lR;rw [e1];exact (qLL hL hi).2
theorem qUP {cb : Nat} {q : Pk} {i : Nat} {A : Option Addr} {c : Nat} {m : List RV} {W : World} (h : qAJ cb (q.setR i A c m) W) (hi : i < 6) : W.cell? ⟨cb, offR i, none⟩ = some (.slice A m.length c) /\ W.frozen? ⟨cb, offR i, none⟩ = false := by
 obtain ⟨e1, e2, e3⟩ := qOE q hi A c m;have h1 := qQ6 h hi;rw [e1, e2, e3] at h1;exact ⟨h1, h.2.1 _ (qOB i)⟩
theorem qPR.butR {gp cb n R : Nat} {offs : Nat -> Nat} {W W' : World} (h : qPR gp cb offs n W) (hb : ButR R W W') (hr : gp ≠ R) : qPR gp cb offs n W' := ⟨Nat.lt_of_lt_of_le h.1 hb.size, h.2.1, fun i hi => (hb.cellK (p := ⟨gp, i, none⟩) h.1 hr).trans (h.2.2 i hi)⟩
theorem ButR.setL_new {R g : Nat} {a : World} (hg : a.heap.size <= g) : ∀ (l : List Value) (k : Nat) (w : World), ButR R a w -> ButR R a (setL g k l w)
 | [], _, w, h => h
 | v :: l, k, w, h => ButR.setL_new hg l (k + 1) _ (h.setNew (p := ⟨g, k, none⟩) hg v)
theorem CopyAt.pkOwn {w W : World} {cb : Nat} {p q : Pk} {i : Nat} (h : CopyAt w cb p i q W) (hi : 6 <= i) : PkOwn (cb + 2) q W :=
 ⟨h.prov, h.obs, h.files, h.done 0 (by omega) (by omega), h.done 1 (by omega) (by omega), h.done 2 (by omega) (by omega), h.done 3 (by omega) (by omega), h.done 4 (by omega) (by omega), h.done 5 (by omega) (by omega)⟩
end
section
open Go.RowKit Go.Shelf
structure Pr where
 pk : Pk
 repo : Int
 prio : Int
def Pr.cells (x : Pr) : List Value := x.pk.cells ++ [.int .i64 x.repo, .int .i64 x.prio]
theorem qGI (x : Pr) : x.cells.length = 17 := rfl
theorem qGM (x : Pr) : ∀ u ∈ x.cells, u.oneCell' = true := by
 intro u hu;simp only [Pr.cells, Pk.cells, List.cons_append, List.nil_append, List.mem_cons, List.not_mem_nil, or_false] at hu;rcases hu with rfl | rfl | rfl | rfl | rfl | rfl | rfl | rfl | rfl | rfl | rfl | rfl | rfl | rfl | rfl | rfl | rfl <;> rfl
theorem qGU (x : Pk) : ∀ u ∈ x.cells, u.oneCell' = true := fun u hu => qGM ⟨x, 0, 0⟩ u (List.mem_append_left _ hu)
theorem qAG {w w' : World} (h : Below w.heap.size w w') (row : Option Nat) : w.grownBy w' row := ⟨h.os, h.tape, h.output, h.size, fun k hk _ => h.block k hk⟩
structure Hangs (No : Nat -> Prop) (q : Pk) (W : World) : Prop where
 lt : ∀ b, No b -> b < W.heap.size
 laid : ∀ W' : World, W.heap.size <= W'.heap.size -> (∀ b, No b -> W'.heap[b]? = W.heap[b]?) -> q.Laid W'.heap.size W'
theorem Hangs.now {No : Nat -> Prop} {q : Pk} {W : World} (h : Hangs No q W) : q.Laid W.heap.size W := h.laid W lR fun _ _ => rfl
theorem Hangs.keep {No No' : Nat -> Prop} {q : Pk} {W W' : World} (h : Hangs No q W) (hs : W.heap.size <= W'.heap.size) (hb : ∀ b, No b -> W'.heap[b]? = W.heap[b]?) (hN : ∀ b, No b -> No' b) (hlt : ∀ b, No' b -> b < W'.heap.size) : Hangs No' q W' :=
 ⟨hlt, fun W2 h2 hb2 => h.laid W2 (Nat.le_trans hs h2) fun b hq => (hb2 b (hN b hq)).trans (hb b hq)⟩
theorem PkOwn.keepB {base : Nat} {q : Pk} {W W' : World} (h : PkOwn base q W) (hs : W.heap.size <= W'.heap.size) (hb : ∀ b, base <= b -> b < W.heap.size -> W'.heap[b]? = W.heap[b]?) : PkOwn base q W' :=
 have o : ∀ {α : Type} {enc : α -> List Value} {size : Nat} {e : TypeId} {v : Value} {l : List α}, Own enc size base e v l W -> Own enc size base e v l W' := fun k => qB7 k lR fun g hg => hb g (World.ownsRow.lt k g hg).1 (World.ownsRow.lt k g hg).2;have r : ∀ {l : List RV} {v : Value}, ROwn base l v W -> ROwn base l v W' := fun k => ⟨o k.own, fun a ha => (k.tr a ha).keep (fun b hq => ⟨hq.1, Nat.lt_of_lt_of_le hq.2.1 hs, hq.2.2⟩) fun b hq => hb b hq.1 hq.2.1⟩
 ⟨o h.prov, o h.obs, o h.files, r h.req, r h.con, r h.rcm, r h.sup, r h.sug, r h.enh⟩
theorem PkOwn.hangs {base B : Nat} {p q : Pk} {W W0 : World} (h : PkOwn base q W) (ha : Alike p q) (hl : p.Laid B W0) : Hangs (fun b => base <= b /\ b < W.heap.size) q W :=
 ⟨fun _ hb => hb.2, fun W' hs hb => (h.keepB hs fun b h1 h2 => hb b ⟨h1, h2⟩).laid ha hl⟩
def qVW (base mb N : Nat) (W : World) : Prop := ∃ D, W.ownsGroups (H := Unit) Tryz.prog 9 base 3 .i64 mb N D
structure PoolSt (w0 : World) (P mb base : Nat) (I : Int) (N : Nat) (L : List Pr) (No : Nat -> Prop) (v : Value) (W : World) : Prop where
 old : Below w0.heap.size w0 W
 loP : w0.heap.size <= P
 loM : w0.heap.size <= mb
 ne : mb ≠ P
 hP : P < base
 hM : mb < base
 hb : base <= W.heap.size
 c0 : W.cell? ⟨P, 0, none⟩ = some v
 c1 : W.cell? ⟨P, 1, none⟩ = some (.int .i64 I)
 c2 : W.cell? ⟨P, 2, none⟩ = some (.map (some mb))
 fz : ∀ i, i < 3 -> W.frozen? ⟨P, i, none⟩ = false
 own : Own Pr.cells 17 base 161 v L W
 hang : ∀ x ∈ L, Hangs No x.pk W
 noR : ∀ g, v.ownBlock = some g -> ¬ No g
 noB : ∀ g, No g -> base <= g /\ g < W.heap.size
 grp : qVW base mb N W
 shun : W.Shuns mb (fun g => No g \/ v.ownBlock = some g)
section
variable {w0 : World} {P mb base : Nat} {I : Int} {N : Nat} {L : List Pr} {No : Nat -> Prop} {v : Value} {W W' : World}
theorem PoolSt.then (h : PoolSt w0 P mb base I N L No v W) (hb : Below W.heap.size W W') : PoolSt w0 P mb base I N L No v W' := by
 have hP : P < W.heap.size := Nat.lt_of_lt_of_le h.hP h.hb;have hM : mb < W.heap.size := Nat.lt_of_lt_of_le h.hM h.hb;have hg := qAG hb none;obtain ⟨D, hD⟩ := h.grp
 exact { h with
  old := h.old.trans (hb.mono h.old.size)
  hb := Nat.le_trans h.hb hb.size
  c0 := (hb.cell (p := ⟨P, 0, none⟩) hP).trans h.c0
  c1 := (hb.cell (p := ⟨P, 1, none⟩) hP).trans h.c1
  c2 := (hb.cell (p := ⟨P, 2, none⟩) hP).trans h.c2
  fz := fun i hi => (hb.frozen (p := ⟨P, i, none⟩) hP).trans (h.fz i hi)
  own := qB7 h.own lR fun g hg => hb.block g (World.ownsRow.lt h.own g hg).2
  hang := fun x hx => (h.hang x hx).keep hb.size (fun b hq => hb.block b (h.noB b hq).2) (fun _ hq => hq) fun b hq => Nat.lt_of_lt_of_le (h.noB b hq).2 hb.size
  noB := fun g hg => ⟨(h.noB g hg).1, Nat.lt_of_lt_of_le (h.noB g hg).2 hb.size⟩
  grp := ⟨D, hD.kept hg (by simp) (h.shun.rowsOff (by simp))⟩
  shun := h.shun.kept hg hM (by simp) }
theorem PoolSt.named {N' : Nat} {row : Option Nat} {D : DataW Unit} {w1 : World} (h : PoolSt w0 P mb base I N L No v W) (hr : ∀ j, row = some j -> base <= j /\ ¬ No j /\ v.ownBlock ≠ some j) (h1 : W.grownBy w1 row) (h2 : w1.grownBy W' (some mb)) (hg : W'.ownsGroups (H := Unit) Tryz.prog 9 base 3 .i64 mb N' D)
  (hs : W'.Shuns mb (fun g => No g \/ v.ownBlock = some g)) : PoolSt w0 P mb base I N' L No v W' := by
 have hP : P < W.heap.size := Nat.lt_of_lt_of_le h.hP h.hb;have blk : ∀ k, k < W.heap.size -> some k ≠ row -> k ≠ mb -> W'.heap[k]? = W.heap[k]? := fun k hk hr hm => (h2.block k (Nat.lt_of_lt_of_le hk h1.size) (fun e => hm (Option.some.inj e))).trans (h1.block k hk hr);have hsz : W.heap.size <= W'.heap.size := Nat.le_trans h1.size h2.size;have pP : W'.heap[P]? = W.heap[P]? := blk P hP (fun e => by have := (hr P e.symm).1; have := h.hP; omega) (fun e => h.ne e.symm);have hg0 : Below w0.heap.size w0 W' := (h.old.grown h1 h.old.size (fun k e => Nat.le_trans h.loP (Nat.le_of_lt (Nat.lt_of_lt_of_le h.hP (hr k e).1)))).grown h2 (Nat.le_trans h.old.size h1.size) (fun k e => by cases e; exact h.loM)
 exact { h with
  old := hg0
  hb := Nat.le_trans h.hb hsz
  c0 := (World.cell?_of_block (w := W) (a := ⟨P, 0, none⟩) pP).trans h.c0
  c1 := (World.cell?_of_block (w := W) (a := ⟨P, 1, none⟩) pP).trans h.c1
  c2 := (World.cell?_of_block (w := W) (a := ⟨P, 2, none⟩) pP).trans h.c2
  fz := fun i hi => (World.frozen?_of_block (w := W) (a := ⟨P, i, none⟩) pP).trans (h.fz i hi)
  own := qB7 h.own lR fun g hg => blk g (World.ownsRow.lt h.own g hg).2 (fun e => (hr g e.symm).2.2 hg) (fun e => by have := (World.ownsRow.lt h.own g hg).1; have := h.hM; omega)
  hang := fun x hx => (h.hang x hx).keep hsz (fun b hq => blk b (h.noB b hq).2 (fun e => (hr b e.symm).2.1 hq) (fun e => by have := (h.noB b hq).1; have := h.hM; omega)) (fun _ hq => hq) fun b hq => Nat.lt_of_lt_of_le (h.noB b hq).2 hsz
  noB := fun g hg => ⟨(h.noB g hg).1, Nat.lt_of_lt_of_le (h.noB g hg).2 hsz⟩
  grp := ⟨D, hg⟩
  shun := hs }
theorem PoolSt.more {w1 : World} {q : Pk} {r p : Int} {NoQ : Nat -> Prop} {v' : Value} (h : PoolSt w0 P mb base I N L No v W) (h1 : W.grownBy w1 v.ownBlock) (ho : Own Pr.cells 17 base 161 v' (L ++ [⟨q, r, p⟩]) w1) (hq : Hangs NoQ q w1) (hNB : ∀ b, NoQ b -> W.heap.size <= b) (hN : ∀ g, v'.ownBlock = some g -> ¬ NoQ g)
  (hl : v'.ownBlock = v.ownBlock \/ ∃ g, v'.ownBlock = some g /\ W.heap.size <= g) : PoolSt w0 P mb base I N (L ++ [⟨q, r, p⟩]) (fun b => No b \/ NoQ b) v' (w1.setCell ⟨P, 0, none⟩ v') := by
 have hP : P < W.heap.size := Nat.lt_of_lt_of_le h.hP h.hb;have hM : mb < W.heap.size := Nat.lt_of_lt_of_le h.hM h.hb;have hrow : ∀ g, v.ownBlock = some g -> base <= g /\ g < W.heap.size := World.ownsRow.lt h.own;have hsz : (w1.setCell ⟨P, 0, none⟩ v').heap.size = w1.heap.size := by simp [World.setCell]
 have hs1 : ∀ b, b ≠ P -> (w1.setCell ⟨P, 0, none⟩ v').heap[b]? = w1.heap[b]? := fun b hb => Below.heap_setCell _ _ _ _ hb;have blk : ∀ k, k < W.heap.size -> v.ownBlock ≠ some k -> k ≠ P -> (w1.setCell ⟨P, 0, none⟩ v').heap[k]? = W.heap[k]? := fun k hk hr hp => (hs1 k hp).trans (h1.block k hk (fun e => hr e.symm));have pP : w1.heap[P]? = W.heap[P]? := h1.block P hP (fun e => by have := (hrow P e.symm).1; have := h.hP; omega);have gP : w1.grownBy (w1.setCell ⟨P, 0, none⟩ v') (some P) := ⟨rfl, rfl, rfl, Nat.le_of_eq hsz.symm, fun k _ hk => hs1 k (fun e => hk (by rw [e]))⟩;obtain ⟨D, hD⟩ := h.grp;have mne : some mb ≠ v.ownBlock := fun e => by have := (hrow mb e.symm).1; have := h.hM; omega
 have hshun : W.Shuns mb (fun g => (No g \/ NoQ g) \/ v'.ownBlock = some g) := h.shun.reno hD fun g hg => by
  rcases hg with (hg | hg) | hg
  ·exact .inl (.inl hg)
  ·exact .inr (hNB g hg)
  ·rcases hl with e | ⟨g', e, hge⟩
   ·exact .inl (.inr (by rw [<- e]; exact hg))
   ·rw [e] at hg; cases hg; exact .inr hge
 have hD1 := hD.kept h1 mne (h.shun.rowsOff fun j hj => .inr hj);have hS1 := hshun.kept h1 hM mne;have cP : ∀ i, (w1.cell? ⟨P, i, none⟩ = W.cell? ⟨P, i, none⟩) := fun i => World.cell?_of_block (w := W) (a := ⟨P, i, none⟩) pP;refine ⟨(h.old.grown h1 h.old.size (fun k e => Nat.le_trans h.loP (Nat.le_of_lt (Nat.lt_of_lt_of_le h.hP (hrow k e).1)))).setCell (p := ⟨P, 0, none⟩) h.loP v', h.loP, h.loM, h.ne, h.hP, h.hM, by rw [hsz]; exact Nat.le_trans h.hb h1.size, qAS ((cP 0).trans h.c0), (qA0 (by simp)).trans ((cP 1).trans h.c1), (qA0 (by simp)).trans ((cP 2).trans h.c2), fun i hi => ?_, ?_, fun x hx => ?_, fun g hg => ?_, fun g hg => ?_, ⟨D, hD1.kept gP (fun e => h.ne (Option.some.inj e)) (hD1.rowsAbove fun j hj => by cases hj; exact h.hP)⟩, hS1.kept gP (Nat.lt_of_lt_of_le hM h1.size) (fun e => h.ne (Option.some.inj e))⟩
 ·rw [World.frozen?_setCell];exact (World.frozen?_of_block (w := W) (a := ⟨P, i, none⟩) pP).trans (h.fz i hi)
 ·exact qB7 ho lR fun g hg => hs1 g (fun e => by have := (World.ownsRow.lt ho g hg).1; have := h.hP; omega)
 ·rcases List.mem_append.1 hx with hx | hx
  ·exact (h.hang x hx).keep (by rw [hsz]; exact h1.size) (fun b hq => blk b (h.noB b hq).2 (fun e => h.noR b e hq) (fun e => by have := (h.noB b hq).1; have := h.hP; omega)) (fun _ hq => .inl hq) fun b hb => by
    rw [hsz];rcases hb with hb | hb
    ·exact Nat.lt_of_lt_of_le (h.noB b hb).2 h1.size
    ·exact hq.lt b hb
  ·simp at hx; subst hx;exact hq.keep (by rw [hsz]; exact Nat.le_refl _) (fun b hb => hs1 b (fun e => by have := hNB b hb; omega)) (fun _ hb => .inr hb) fun b hb => by
    rw [hsz];rcases hb with hb | hb
    ·exact Nat.lt_of_lt_of_le (h.noB b hb).2 h1.size
    ·exact hq.lt b hb
 ·rintro (hn | hn)
  ·rcases hl with e | ⟨g', e, hge⟩
   ·exact h.noR g (by rw [<- e]; exact hg) hn
   ·rw [e] at hg; cases hg;have := (h.noB _ hn).2;omega
  ·exact hN g hg hn
 ·rw [hsz];rcases hg with hg | hg
  ·exact ⟨(h.noB g hg).1, Nat.lt_of_lt_of_le (h.noB g hg).2 h1.size⟩
  ·exact ⟨Nat.le_trans h.hb (hNB g hg), hq.lt g hg⟩
end
structure PoolAt (P : Nat) (I : Int) (L : List Pr) (W : World) : Prop where
 lt : P < W.heap.size
 row : ∃ A c, W.cell? ⟨P, 0, none⟩ = some (.slice A L.length c) /\ Rd Pr.cells 17 W.heap.size A c L W
 c1 : W.cell? ⟨P, 1, none⟩ = some (.int .i64 I)
 laid : ∀ x ∈ L, x.pk.Laid W.heap.size W
theorem PoolAt.then {P : Nat} {I : Int} {L : List Pr} {W W' : World} (h : PoolAt P I L W) (hb : Below W.heap.size W W') : PoolAt P I L W' := by
 obtain ⟨A, c, h0, hr⟩ := h.row;exact ⟨Nat.lt_of_lt_of_le h.lt hb.size, ⟨A, c, (hb.cell (p := ⟨P, 0, none⟩) h.lt).trans h0, (hr.below hb).more hb.size⟩, (hb.cell (p := ⟨P, 1, none⟩) h.lt).trans h.c1, fun x hx => (h.laid x hx).calls hb⟩
theorem PoolSt.at_ {w0 : World} {P mb base : Nat} {I : Int} {N : Nat} {L : List Pr} {No : Nat -> Prop} {v : Value} {W : World} (h : PoolSt w0 P mb base I N L No v W) : PoolAt P I L W := by
 obtain ⟨A, c, e, hr⟩ := h.own.rd qGI;exact ⟨Nat.lt_of_lt_of_le h.hP h.hb, ⟨A, c, e ▸ h.c0, hr⟩, h.c1, fun x hx => (h.hang x hx).now⟩
