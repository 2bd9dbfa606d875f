/- DepOfL, RichAtom, RichBracket, RichBrk, RichCatch, RichClone, RichMeasure, RichWords, RichLarge, RichBx, RichCopy, RichCopy9, RefCopied, RegInv -/
import Derived.Test.YteobmfpbgnmffaaGreatDoorT08
import Derived.Shelf.Strings.BuilderX
set_option linter.unusedVariables false
set_option maxHeartbeats 16000000
set_option maxRecDepth 100000
open Go.Lib (hid)
set_option linter.unusedSimpArgs false
namespace Go.Proofs.YteobmfpbgnmffaaGreatDoor
open Go.RowKit Go.Shelf
section
def ZV : Value := .tuple #[.agg #[.string ⟨#[]⟩, .int .u8 0, .int .i64 0, .string ⟨#[]⟩, .string ⟨#[]⟩], .int .i64 4]
end
section
theorem Box7.past {m : Nat} {a0 a1 a2 a3 a4 a5 a6 : Value} {W W' : World} (h : Box7 m a0 a1 a2 a3 a4 a5 a6 W) (hb : Below (m + 1) W W') : Box7 m a0 a1 a2 a3 a4 a5 a6 W' := by
 obtain ⟨⟨h0, h1, h2, h3, h4, h5, h6⟩, ⟨f0, f1, f2, f3, f4, f5, f6⟩, hl⟩ := h;have hc : ∀ i, W'.cell? ⟨m, i, none⟩ = W.cell? ⟨m, i, none⟩ := fun i => hb.cell (p := ⟨m, i, none⟩) (Nat.lt_succ_self m);have hf : ∀ i, W'.frozen? ⟨m, i, none⟩ = W.frozen? ⟨m, i, none⟩ := fun i => hb.frozen (p := ⟨m, i, none⟩) (Nat.lt_succ_self m);exact ⟨⟨(hc 0).trans h0, (hc 1).trans h1, (hc 2).trans h2, (hc 3).trans h3, (hc 4).trans h4, (hc 5).trans h5, (hc 6).trans h6⟩, ⟨(hf 0).trans f0, (hf 1).trans f1, (hf 2).trans f2, (hf 3).trans f3, (hf 4).trans f4, (hf 5).trans f5, (hf 6).trans f6⟩, Nat.lt_of_lt_of_le hl hb.size⟩
end
section
theorem qCF (t : RV) : (encR t).length = 7 := rfl
theorem qFJ (t : RV) : ∀ u ∈ encR t, u.oneCell' = true := by
 intro u hu;simp only [encR, List.mem_cons, List.not_mem_nil, or_false] at hu;rcases hu with rfl | rfl | rfl | rfl | rfl | rfl | rfl <;> rfl
def zBox (m : Nat) (W : World) : Prop := Box7 m (.int .u8 0) (.string ⟨#[]⟩) (.int .u8 0) (.int .i64 0) (.string ⟨#[]⟩) (.string ⟨#[]⟩) (.slice none 0 0) W
section
variable {w0 W wr w' : World} {R e o m m2 n n' : Nat} {k k' : Int} {l : List RV} {v : Value} {ws ws' : List Tok}
theorem qPN {a0 a1 a2 a3 a4 a5 a6 : Value} (h : Box7 m a0 a1 a2 a3 a4 a5 a6 W) (u : Value) : Box7 m a0 a1 a2 a3 a4 a5 u (W.setCell ⟨m, 6, none⟩ u) := by
 obtain ⟨⟨h0, h1, h2, h3, h4, h5, h6⟩, ⟨f0, f1, f2, f3, f4, f5, f6⟩, hl⟩ := h;unfold Box7;refine ⟨⟨?_, ?_, ?_, ?_, ?_, ?_, ?_⟩, ⟨?_, ?_, ?_, ?_, ?_, ?_, ?_⟩, by simpa [World.setCell] using hl⟩
 all_goals simp [go_sem, h0, h1, h2, h3, h4, h5, h6, f0, f1, f2, f3, f4, f5, f6]
end
end
section
theorem qR4 (w : World) (t : RV) : Rd encR 7 (w.heap.size + 1) (some ⟨w.heap.size, 0, none⟩) 1 [t] (w.alloc (.cells #[.int .u8 t.kind, .string (bs t.dep.name), .int .u8 t.dep.op, .int .i64 t.dep.evr.epoch, .string (bs t.dep.evr.ver), .string (bs t.dep.evr.rel), .slice t.addr t.args.length t.cap] 39)) := by
 refine ⟨Nat.le_refl _, by decide, fun k hk => ⟨w.heap.size, 0, rfl, Nat.lt_succ_self _, fun j u hu => ?_⟩⟩;have hk0 : k = 0 := by simp at hk; omega
 subst hk0;rw [Nat.zero_mul, Nat.add_zero, Nat.zero_add];refine (World.cell?_alloc_at _ _ _ _ rfl).trans ?_;rw [<- Array.getElem?_toList];exact hu
end
section
theorem tm3 (a b c : Value) : #[a, b, c] ++ Array.replicate 19 undef = #[a, b, c, undef, undef, undef, undef, undef, undef, undef, undef, undef, undef, undef, undef, undef, undef, undef, undef, undef, undef, undef] := by
 apply Array.ext';rw [Array.toList_append, Array.toList_replicate];rfl
end
section
section
variable {P : Program} {α : Type} {enc : α -> List Value} (w : World)
theorem qAT {ops : Array Oper} {rest : List Oper} {o : Oper} {a : Act} {Q : Exit -> Act -> World -> Prop} (hgd : o.guard = none) (s x : Operand) (t : TypeId)
  (ho : o.op = .call { callee := .builtin .append, args := #[s, x], argTypes := #[t, t] })
  (base : Nat) (e : TypeId) (i : TypeInfo) (z : Value) (size bytes : Nat) (ht : P.underlying t = some (.slice e)) (hi : P.info? e = some i) (hz : i.zero = some z) (hsize : i.size = size) (hby : i.bytes = bytes) (hzc : z.cells.size = size) (hs0 : 0 < size)
  (he : ∀ x, (enc x).length = size) (h1 : ∀ x, ∀ u ∈ enc x, u.oneCell' = true)
  (v : Value) (n : Nat) (xs : List Value) (hs : a.eval s = v) (hown : w.ownsRow base e size v n xs) (B : Nat) (A : Option Addr) (c : Nat) (D : List α) (m : Nat) (hm : m = D.length) (hx : a.eval x = .slice A m c) (hT : Rd enc size B A c D w) (hn : n + D.length <= 1000000) (hbytes : bytes <= 1000) (hbase : base <= w.heap.size)
  (h : ∀ v' w', w'.ownsRow base e size v' (n + D.length) (xs ++ D.flatMap enc) -> w.grownBy w' v.ownBlock -> (v'.ownBlock = v.ownBlock \/ v'.ownBlock = some w.heap.size) -> wpList P ops Q rest (a.put o.dst v') w') :
  wpList P ops Q (o :: rest) a w := by
 subst hm;refine wpList_plain hgd fun _ hK => ?_;obtain ⟨v', w', hrun, r1, r2, r3⟩ := qD2 (P := P) w base t o.type e i z size bytes ht hi hz hsize hby hzc hs0 he h1 v n xs hown B A c D hT hn hbytes hbase;unfold Oper.wp;simp [execOp, ho, resolve, invoke, builtin, hs, hx, hrun, Result.andThen];exact hK _ _ (h v' w' r1 r2 r3)
end
end
section
theorem qHB {l : List RT} {k : Nat} (hk : k < l.length) : qCD (l.take (k + 1)) = max (qCD (l.take k)) l[k].deep := by rw [qBQ l k hk, qPD]; simp [qCD]
theorem qC1 : ∀ (l : List RT) (k : Nat), qAB (l.take k) <= qAB l
 | [], k => by simp [qAB]
 | a :: l, 0 => by simp [qAB]
 | a :: l, k + 1 => by have := qC1 l k; simp only [List.take_succ_cons, qAB]; omega
theorem qCC : ∀ t : RT, t.deep <= t.parts
 | .mk k d l => by
  simp only [RT.deep, RT.parts];split
  ·omega
  ·have := deepL_parts l; omega
where
 deepL_parts : ∀ l : List RT, qCD l <= qAB l
  | [] => by simp [qCD]
  | a :: l => by have := qCC a; have := deepL_parts l; simp only [qCD, qAB]; omega
end
section
theorem qCB : ∀ {l : List RT} {i : Nat} (h : i < l.length), l[i].parts <= qAB l
 | a :: l, 0, h => by simp [qAB]
 | a :: l, i + 1, h => by have := qCB (l := l) (i := i) (by simpa using h); simp only [List.getElem_cons_succ, qAB]; omega
end
section
theorem qF7 {l : List RT} {k : Nat} (hk : k < l.length) : qAB (l.take (k + 1)) = qAB (l.take k) + l[k].parts := by rw [qBQ l k hk, qHL]; simp [qAB]
end
section
structure BX (a : RV) (m : Nat) (W : World) : Prop where
 box : Box7 m (.int .u8 a.kind) (.string (bs a.dep.name)) (.int .u8 a.dep.op) (.int .i64 a.dep.evr.epoch) (.string (bs a.dep.evr.ver)) (.string (bs a.dep.evr.rel)) (.slice a.addr a.args.length a.cap) W
 tree : RTree W.heap.size W a
theorem BX.then {W W' : World} {a : RV} {m : Nat} (h : BX a m W) (hb : Below W.heap.size W W') : BX a m W' :=
 ⟨h.box.past (hb.mono h.box.2.2), (h.tree.keeps hb).more hb.size⟩
theorem BX.alloc {W : World} {a : RV} {m : Nat} (h : BX a m W) (o : Obj) : BX a m (W.alloc o) := h.then (bR.alloc lR o)
theorem BX.new {w : World} {a : RV} (ha : RTree w.heap.size w a) : BX a w.heap.size (w.alloc (.cells #[.int .u8 a.kind, .string (bs a.dep.name), .int .u8 a.dep.op, .int .i64 a.dep.evr.epoch, .string (bs a.dep.evr.ver), .string (bs a.dep.evr.rel), .slice a.addr a.args.length a.cap] 39)) :=
 ⟨Box7.new w _ _ _ _ _ _ _ _, (ha.keeps (bR.alloc lR _)).more (by simp)⟩
end
section
structure Cp (w : World) (t : RV) (l : List RV) (v : Value) (wr : World) : Prop where
 old : Below w.heap.size w wr
 inp : Box7 w.heap.size (.int .u8 t.kind) (.string (bs t.dep.name)) (.int .u8 t.dep.op) (.int .i64 t.dep.evr.epoch) (.string (bs t.dep.evr.ver)) (.string (bs t.dep.evr.rel)) (.slice t.addr t.args.length t.cap) wr
 res : zBox (w.heap.size + 1) wr
 out : Box7 (w.heap.size + 2) (.int .u8 t.kind) (.string (bs t.dep.name)) (.int .u8 t.dep.op) (.int .i64 t.dep.evr.epoch) (.string (bs t.dep.evr.ver)) (.string (bs t.dep.evr.rel)) v wr
 own : Own encR 7 (w.heap.size + 3) 39 v l wr
 tr : ∀ a ∈ l, TQ (fun b => w.heap.size + 3 <= b /\ b < wr.heap.size /\ v.ownBlock ≠ some b) wr a
section
variable {w wr w' : World} {t : RV} {l : List RV} {v : Value}
theorem Cp.call (h : Cp w t l v wr) (hb : Below wr.heap.size wr w') : Cp w t l v w' where
 old := h.old.trans (hb.mono h.old.size)
 inp := h.inp.past (hb.mono h.inp.2.2)
 res := h.res.past (hb.mono h.res.2.2)
 out := h.out.past (hb.mono h.out.2.2)
 own := by
  have ho := h.own;unfold Own at *;refine ⟨ho.1, ?_⟩;rcases ho.2 with h2 | ⟨g, cap, cur, hv, hg, hh, r⟩
  ·exact .inl h2
  ·have hl : g < wr.heap.size := (Array.getElem?_eq_some_iff.1 hh).1;exact .inr ⟨g, cap, cur, hv, hg, by rw [hb.block g hl]; exact hh, r⟩
 tr := fun a ha => (h.tr a ha).keep (fun b hq => ⟨hq.1, Nat.lt_of_lt_of_le hq.2.1 hb.size, hq.2.2⟩) fun b hq => hb.block b hq.2.1
theorem Cp.held {w6 : World} {cs : Obj} (h : Cp w t l v wr) (hg : (wr.alloc cs).grownBy w6 v.ownBlock) : w6.cell? ⟨w.heap.size + 2, 6, none⟩ = some v /\ w6.frozen? ⟨w.heap.size + 2, 6, none⟩ = false /\ w.heap.size + 2 < w6.heap.size := by
 have hm2 := h.out.2.2;have hb : w6.heap[w.heap.size + 2]? = wr.heap[w.heap.size + 2]? := (hg.block (w.heap.size + 2) (by simp; omega) (fun e => by have := (World.ownsRow.lt h.own _ e.symm).1; omega)).trans (Below.heap_alloc _ _ _ hm2);have hz := hg.size;refine ⟨(World.cell?_of_block (w := wr) (a := ⟨w.heap.size + 2, 6, none⟩) hb).trans h.out.1.2.2.2.2.2.2, (World.frozen?_of_block (w := wr) (a := ⟨w.heap.size + 2, 6, none⟩) hb).trans h.out.2.1.2.2.2.2.2.2, by simp at hz; omega⟩
theorem Cp.arg {rv : RV} {w6 : World} {v' : Value} {cs : Obj} (h : Cp w t l v wr) (hT : TQ (fun b => w'.heap.size <= b /\ b < wr.heap.size) wr rv) (hw : w.heap.size + 3 <= w'.heap.size) (hv : ∀ b, v.ownBlock = some b -> b < w'.heap.size)
  (ho : w6.ownsRow (w.heap.size + 3) 39 7 v' (l.length + 1) (l.flatMap encR ++ encR rv)) (hg : (wr.alloc cs).grownBy w6 v.ownBlock) (hv' : v'.ownBlock = v.ownBlock \/ v'.ownBlock = some (wr.alloc cs).heap.size) : Cp w t (l ++ [rv]) v' (w6.setCell ⟨w.heap.size + 2, 6, none⟩ v') := by
 have hm2 := h.out.2.2;have hsz : wr.heap.size + 1 = (wr.alloc cs).heap.size := by simp
 have hr : ∀ q, v.ownBlock = some q -> w.heap.size + 3 <= q := fun q e => (World.ownsRow.lt h.own q e).1;have hG : ∀ {B : Nat}, B <= w.heap.size + 3 -> Below B (wr.alloc cs) w6 := fun hB => bR.grown hg (by omega) (fun k e => Nat.le_trans hB (hr k e));have hA : ∀ {B : Nat}, B <= w.heap.size + 3 -> Below B wr w6 := fun hB => (bR.alloc (by omega) cs).trans (hG hB);have hblk : ∀ b, b < wr.heap.size -> v.ownBlock ≠ some b -> w6.heap[b]? = wr.heap[b]? := fun b hb hne => (hg.block b (by omega) (fun e => hne e.symm)).trans (Below.heap_alloc _ _ _ hb);have hset : ∀ b, b ≠ w.heap.size + 2 -> (w6.setCell ⟨w.heap.size + 2, 6, none⟩ v').heap[b]? = w6.heap[b]? := fun b hb => Below.heap_setCell _ _ _ _ hb;have hzs : (w6.setCell ⟨w.heap.size + 2, 6, none⟩ v').heap.size = w6.heap.size := by simp [World.setCell]
 have hz6 := hg.size;have hz0 := h.old.size;have hS : ∀ {B : Nat}, B <= w.heap.size + 2 -> Below B wr (w6.setCell ⟨w.heap.size + 2, 6, none⟩ v') := fun hB => (hA (by omega)).setCell (p := ⟨w.heap.size + 2, 6, none⟩) hB v';have hQ : ∀ b, b < wr.heap.size -> v.ownBlock ≠ some b -> v'.ownBlock ≠ some b := fun b hb hne => by
  rcases hv' with e | e
  ·rw [e]; exact hne
  ·rw [e]; simp; omega
 have haway : v'.ownBlock ≠ some (w.heap.size + 2) := hQ _ hm2 (fun e => by have := hr _ e; omega);refine ⟨h.old.trans (hS (by omega)), h.inp.past (hS (by omega)), h.res.past (hS (by omega)), qPN (h.out.past (hA (by omega))) v', ownsRow_setCell_other (Own.snoc ho) (a := ⟨w.heap.size + 2, 6, none⟩) haway v', ?_⟩;intro a ha;rcases List.mem_append.1 ha with ha | ha
 ·exact (h.tr a ha).keep (fun b hq => ⟨hq.1, by omega, hQ b hq.2.1 hq.2.2⟩) fun b hq => (hset b (by omega)).trans (hblk b hq.2.1 hq.2.2)
 ·simp at ha; subst ha;exact hT.keep (fun b hq => ⟨by omega, by omega, hQ b hq.2 (fun e => by have := hv b e; omega)⟩) fun b hq => (hset b (by omega)).trans (hblk b hq.2 (fun e => by have := hv b e; omega))
end
def qCG (t : RV) (w : World) (e : Ending) (w' : World) : Prop :=
 ∃ (A : Option Addr) (c : Nat) (l : List RV), e = .returned (RV.node t.kind t.dep A c l).val /\ qA6 l = qA6 t.args /\ Own encR 7 w.heap.size 39 (.slice A l.length c) l w' /\
  (∀ a ∈ l, TQ (fun b => w.heap.size <= b /\ b < w'.heap.size /\ (Value.slice A l.length c).ownBlock ≠ some b) w' a) /\ Below w.heap.size w w'
theorem qB7 {α : Type} {enc : α -> List Value} {size base base' : Nat} {e : TypeId} {v : Value} {l : List α} {w w' : World} (h : Own enc size base e v l w) (hb : base' <= base) (hk : ∀ g, v.ownBlock = some g -> w'.heap[g]? = w.heap[g]?) : Own enc size base' e v l w' := by
 unfold Own at *;refine ⟨h.1, ?_⟩;rcases h.2 with h2 | ⟨g, cap, cur, hv, hg, hh, r⟩
 ·exact .inl h2
 ·exact .inr ⟨g, cap, cur, hv, by omega, by rw [hk g (by rw [hv]; rfl)]; exact hh, r⟩
theorem qCG.tq {t : RV} {w w' : World} {e : Ending} (hd : t.dep.wf) (h : qCG t w e w') : ∃ rv : RV, e = .returned rv.val /\ rv.tree = t.tree /\ TQ (fun b => w.heap.size <= b /\ b < w'.heap.size) w' rv /\ Below w.heap.size w w' := by
 obtain ⟨A, c, l, he, ht, ho, hs, hb⟩ := h;refine ⟨_, he, by rw [qAX t]; simp only [RV.tree]; rw [ht], ?_, hb⟩;obtain ⟨A', c', hv, hr⟩ := ho.rd qCF;cases hv
 refine .mk hd hr.1 hr.2.1 (fun k hk => ?_) fun a ha => (hs a ha).keep (fun b hq => ⟨hq.1, hq.2.1⟩) fun _ _ => rfl;obtain ⟨b, off, e', hlt, hc⟩ := hr.2.2 k hk;have e2 : A = some ⟨b, off, none⟩ := e';exact ⟨b, off, e', ⟨(World.ownsRow.lt ho b (by rw [e2]; rfl)).1, hlt⟩, hc⟩
theorem Cp.start {w : World} {t : RV} : Cp w t [] (.slice none 0 0) (((w.alloc (.cells #[.int .u8 t.kind, .string (bs t.dep.name), .int .u8 t.dep.op, .int .i64 t.dep.evr.epoch, .string (bs t.dep.evr.ver), .string (bs t.dep.evr.rel), .slice t.addr t.args.length t.cap] 39)).alloc (.cells #[.int .u8 0, .string ⟨#[]⟩, .int .u8 0, .int .i64 0, .string ⟨#[]⟩, .string ⟨#[]⟩, .slice none 0 0] 39)).alloc (.cells #[.int .u8 t.kind, .string (bs t.dep.name), .int .u8 t.dep.op, .int .i64 t.dep.evr.epoch, .string (bs t.dep.evr.ver), .string (bs t.dep.evr.rel), .slice none 0 0] 39)) := by
 generalize hO1 : (.cells #[.int .u8 t.kind, .string (bs t.dep.name), .int .u8 t.dep.op, .int .i64 t.dep.evr.epoch, .string (bs t.dep.evr.ver), .string (bs t.dep.evr.rel), .slice t.addr t.args.length t.cap] 39 : Obj) = o1;generalize hO2 : (.cells #[.int .u8 0, .string ⟨#[]⟩, .int .u8 0, .int .i64 0, .string ⟨#[]⟩, .string ⟨#[]⟩, .slice none 0 0] 39 : Obj) = o2;generalize hO3 : (.cells #[.int .u8 t.kind, .string (bs t.dep.name), .int .u8 t.dep.op, .int .i64 t.dep.evr.epoch, .string (bs t.dep.evr.ver), .string (bs t.dep.evr.rel), .slice none 0 0] 39 : Obj) = o3;have z1 : (w.alloc o1).heap.size = w.heap.size + 1 := by simp
 have z2 : ((w.alloc o1).alloc o2).heap.size = w.heap.size + 2 := by simp
 have b1 : ∀ {B : Nat}, B <= w.heap.size -> Below B w (w.alloc o1) := fun hB => bR.alloc hB _;have b2 : ∀ {B : Nat}, B <= w.heap.size + 1 -> Below B (w.alloc o1) ((w.alloc o1).alloc o2) := fun hB => bR.alloc (by omega) _;have b3 : ∀ {B : Nat}, B <= w.heap.size + 2 -> Below B ((w.alloc o1).alloc o2) (((w.alloc o1).alloc o2).alloc o3) := fun hB => bR.alloc (by omega) _;refine ⟨(b1 lR).trans ((b2 (by omega)).trans (b3 (by omega))), ?_, ?_, ?_, Own.nil_ _ _ _, fun a ha => by simp at ha⟩
 ·have h := Box7.new w (.int .u8 t.kind) (.string (bs t.dep.name)) (.int .u8 t.dep.op) (.int .i64 t.dep.evr.epoch) (.string (bs t.dep.evr.ver)) (.string (bs t.dep.evr.rel)) (.slice t.addr t.args.length t.cap) 39;rw [hO1] at h;exact (h.past (b2 (by omega))).past (b3 (by omega))
 ·have h := Box7.new (w.alloc o1) (.int .u8 0) (.string ⟨#[]⟩) (.int .u8 0) (.int .i64 0) (.string ⟨#[]⟩) (.string ⟨#[]⟩) (.slice none 0 0) 39;rw [hO2, z1] at h;exact h.past (b3 (by omega))
 ·have h := Box7.new ((w.alloc o1).alloc o2) (.int .u8 t.kind) (.string (bs t.dep.name)) (.int .u8 t.dep.op) (.int .i64 t.dep.evr.epoch) (.string (bs t.dep.evr.ver)) (.string (bs t.dep.evr.rel)) (.slice none 0 0) 39;rw [hO3, z2] at h;exact h
end
section
theorem qHN : ∀ (f : Nat) (t : RV) (w : World), t.ht <= f -> t.tree.parts <= 1000000 -> RTree w.heap.size w t -> Calls Tryz.prog 122 #[t.val] w (qCG t w)
 | 0, t, w, hf, _, _ => absurd hf (by rw [qBS]; omega)
 | f + 1, t, w, hf, hp, ha => by
  have IH := hid (fun x W h1 h2 h3 => qHN f x W h1 h2 h3);have HA := hid ha.rrow;have HF := hid (show htL t.args <= f by rw [qBS] at hf; omega);have HP := hid (show 1 + qAB (qA6 t.args) <= 1000000 by rw [qAX t, RT.parts] at hp; exact hp);have HL := hid (show t.args.length <= 999999 by have h1 := HP.out; have h2 := qCX (qA6 t.args); rw [qAD] at h2; omega);have hm := ha.row.len;have C0 := hid (Cp.start (w := w) (t := t));have hz0 : (0 : Nat) = 0 := rfl;unfold RV.val;clear ha hf hp hz0
  go_enter Tryz.func122, Tryz.ntmps122
  go_wp2_with fail
  go_loopw [4] (fun iv wr => ∃ (i : Nat) (l : List RV) (v : Value), i <= t.args.length /\ iv = .int .i64 (i : Int) /\ qA6 l = (qA6 t.args).take i /\ Cp w t l v wr) (fun iv _ => t.args.length - (intOf iv).toNat)
  case atStart => exact ⟨0, [], .slice none 0 0, Nat.zero_le _, rfl, by simp [qA6], C0.out⟩
  case round =>
   obtain ⟨i, l, v, hi, rfl, hl, hC⟩ := hrel;rename World => wr
   have C := hid hC;have HTL := hid hl;clear hC hl C0;obtain ⟨⟨a0, a1, a2, a3, a4, a5, a6⟩, _, al⟩ := id C.out.inp;by_cases hlt : i < t.args.length
   ·have TA := ((HA.out.below C.out.old).2 _ (List.getElem_mem hlt)).more C.out.old.size;have hwf := TA.wf;have hht := Nat.le_trans (qDH (List.getElem_mem hlt)) HF.out;have hkt : i < (qA6 t.args).length := by rw [qAD]; exact hlt
    have hpp := qCB (l := qA6 t.args) hkt;rw [qB2 t.args i hlt] at hpp;have HC := hid (fun (W : World) (hb : Below wr.heap.size wr W) => (IH.out t.args[i] W hht (by have := HP.out; omega) ((TA.keeps hb).more hb.size)).mono fun e w' h => qCG.tq hwf h);obtain ⟨b, o, hadr, hb, e0, e1, e2, e3, e4, e5, e6⟩ := (HA.out.below C.out.old).at_ hlt
    rw [hadr] at a6 |-;have HTN := hid (show ∀ rv : RV, rv.tree = t.args[i].tree -> qA6 (l ++ [rv]) = (qA6 t.args).take (i + 1) from fun rv h => by rw [qFR, HTL.out, qBQ _ _ hkt, qB2 t.args i hlt]; simp only [qA6, h]);have HLL := hid (show l.length <= 999999 by have h1 := congrArg List.length HTL.out; rw [qAD, List.length_take, qAD] at h1; have := HL.out; omega);have HV := hid (show ∀ b, v.ownBlock = some b -> b < wr.drew.heap.size from fun b hb => (World.ownsRow.lt C.out.own b hb).2);obtain ⟨⟨g0, g1, g2, g3, g4, g5, g6⟩, ⟨f0, f1, f2, f3, f4, f5, f6⟩, gl⟩ := id C.out.out;have i0 : (0 : Int) <= (i : Int) := by omega
    have i1 : (i : Int) < (t.args.length : Int) := by omega
    unfold RV.val at HC;clear TA hwf hht hkt hpp IH;generalize t.args[i] = x at *;generalize t.args.length = n at *;go_wp2_with fail
    go_region_law (first | (refine qE1 (P := Tryz.prog) _ rfl _ _ 25 rfl (w.heap.size + 3) 39 _ _ 7 _ (by rfl) (by rfl) (by rfl) (by rfl) (by rfl) (by rfl) (by decide) qCF qFJ v _ _ rfl (World.ownsRow.alloc C8.out.own _) (w8.heap.size + 1) (some ⟨w8.heap.size, 0, none⟩) 1 [rv2] 1 rfl rfl (qR4 w8 rv2) (by have := HLL.out; simp; omega) (by decide) (by have := C8.out.old.size; have := C8.out.out.2.2; simp; omega) ?_; intro v2 w9 ho2 hg2 hv2; simp only [List.length_cons, List.length_nil, Nat.zero_add, List.flatMap_cons, List.flatMap_nil, List.append_nil] at ho2; obtain ⟨y6, z6, zl⟩ := C8.out.held hg2; obtain ⟨AA, cc, rfl⟩ := qAF ho2) | (go_simp; go_at_call 122; refine (HC.out _ bR.drew).mono ?_; rintro en w8 ⟨rv2, rfl, hrt2, hT2, hB8⟩; have C8 := hid ((C.out.call bR.drew).call hB8); have q6 := C8.out.out.1.2.2.2.2.2.2; have el := C8.out.out.2.2; have HT2 := hid hT2; have HRT := hid hrt2; clear hT2 hB8 hrt2; (try unfold RV.val); (try dsimp only)))
    all_goals
     have C9 := hid (C8.out.arg HT2.out (by have := C.out.out.2.2; show w.heap.size + 3 <= wr.heap.size; omega) HV.out ho2 hg2 hv2);have HS := hid (HTN.out rv2 HRT.out);clear y6 z6 zl q6 el ho2 hg2 hv2 HT2 C8 a0 a1 a2 a3 a4 a5 a6 al e0 e1 e2 e3 e4 e5 e6 g0 g1 g2 g3 g4 g5 g6 f0 f1 f2 f3 f4 f5 f6 gl;generalize w9.setCell ⟨w.heap.size + 2, 6, none⟩ (.slice AA (l.length + 1) cc) = w10 at *;go_wp2_with fail
     go_roundw
     case rel => exact ⟨i + 1, l ++ [rv2], .slice AA (l.length + 1) cc, by omega, by go_num, HS.out, C9.out⟩
     case measure => simp [intOf]; omega
   ·obtain rfl : i = t.args.length := by omega
    have HFULL := hid (show qA6 l = qA6 t.args by rw [HTL.out, List.take_of_length_le (by rw [qAD]; exact Nat.le_refl _)]);have i1 : ¬ (t.args.length : Int) < (t.args.length : Int) := by omega
    obtain ⟨AA, cc, hv⟩ := qAF C.out.own;subst hv;obtain ⟨⟨g0, g1, g2, g3, g4, g5, g6⟩, _, gl⟩ := id C.out.out;obtain ⟨⟨r0, r1, r2, r3, r4, r5, r6⟩, ⟨k0, k1, k2, k3, k4, k5, k6⟩, rl⟩ := id C.out.res;clear hlt IH HTL;go_wp2_with fail
    have XF := C.out.res.store (.int .u8 t.kind) (.string (bs t.dep.name)) (.int .u8 t.dep.op) (.int .i64 t.dep.evr.epoch) (.string (bs t.dep.evr.ver)) (.string (bs t.dep.evr.rel)) (.slice AA l.length cc);have hz := qGF (w.heap.size + 1) (.int .u8 t.kind) (.string (bs t.dep.name)) (.int .u8 t.dep.op) (.int .i64 t.dep.evr.epoch) (.string (bs t.dep.evr.ver)) (.string (bs t.dep.evr.rel)) (.slice AA l.length cc) wr;have hk : ∀ b, b ≠ w.heap.size + 1 -> (qD9 (w.heap.size + 1) (.int .u8 t.kind) (.string (bs t.dep.name)) (.int .u8 t.dep.op) (.int .i64 t.dep.evr.epoch) (.string (bs t.dep.evr.ver)) (.string (bs t.dep.evr.rel)) (.slice AA l.length cc) wr).heap[b]? = wr.heap[b]? := fun b hb => qF8 _ _ _ _ _ _ _ _ _ hb;unfold qD9 at XF;obtain ⟨⟨j0, j1, j2, j3, j4, j5, j6⟩, _⟩ := XF;refine bodyPost_ret (v := .agg #[.int .u8 t.kind, .string (bs t.dep.name), .int .u8 t.dep.op, .int .i64 t.dep.evr.epoch, .string (bs t.dep.evr.ver), .string (bs t.dep.evr.rel), .slice AA l.length cc]) (by simp [results, Tryz.results122, go_sem, j0, j1, j2, j3, j4, j5, j6]; try rfl) rfl ?_
    exact ⟨AA, cc, l, rfl, HFULL.out, qB7 C.out.own (by omega) (fun g hg => hk g (by have := (World.ownsRow.lt C.out.own g hg).1; omega)),
     fun a ha => (C.out.tr a ha).keep (fun b hq => ⟨by omega, by have h1 := hq.2.1; exact Nat.lt_of_lt_of_eq h1 hz.symm, hq.2.2⟩) fun b hq => hk b (by omega),
     C.out.old.trans (qF4 (by omega) bR _ _ _ _ _ _ _)⟩
end
section
structure CS (w : World) (l : List RV) (v : Value) (wr : World) : Prop where
 old : Below w.heap.size w wr
 own : Own encR 7 w.heap.size 39 v l wr
 tr : ∀ a ∈ l, TQ (fun b => w.heap.size <= b /\ b < wr.heap.size /\ v.ownBlock ≠ some b) wr a
theorem CS.call {w wr w' : World} {l : List RV} {v : Value} (h : CS w l v wr) (hb : Below wr.heap.size wr w') : CS w l v w' where
 old := h.old.trans (hb.mono h.old.size)
 own := qB7 h.own lR (fun g hg => hb.block g (World.ownsRow.lt h.own g hg).2)
 tr := fun a ha => (h.tr a ha).keep (fun b hq => ⟨hq.1, Nat.lt_of_lt_of_le hq.2.1 hb.size, hq.2.2⟩) fun b hq => hb.block b hq.2.1
theorem CS.arg {w w' wr w6 : World} {l : List RV} {v v' : Value} {rv : RV} {cs : Obj} (h : CS w l v wr) (hT : TQ (fun b => w'.heap.size <= b /\ b < wr.heap.size) wr rv) (hw : w.heap.size <= w'.heap.size) (hv : ∀ b, v.ownBlock = some b -> b < w'.heap.size)
  (ho : w6.ownsRow w.heap.size 39 7 v' (l.length + 1) (l.flatMap encR ++ encR rv)) (hg : (wr.alloc cs).grownBy w6 v.ownBlock) (hv' : v'.ownBlock = v.ownBlock \/ v'.ownBlock = some (wr.alloc cs).heap.size) : CS w (l ++ [rv]) v' w6 := by
 have hsz : wr.heap.size + 1 = (wr.alloc cs).heap.size := by simp
 have hr : ∀ q, v.ownBlock = some q -> w.heap.size <= q := fun q e => (World.ownsRow.lt h.own q e).1;have hz0 := h.old.size;have hz6 := hg.size;have hA : Below w.heap.size wr w6 := (bR.alloc hz0 cs).trans (bR.grown hg (by omega) (fun k e => hr k e));have hblk : ∀ b, b < wr.heap.size -> v.ownBlock ≠ some b -> w6.heap[b]? = wr.heap[b]? := fun b hb hne => (hg.block b (by omega) (fun e => hne e.symm)).trans (Below.heap_alloc _ _ _ hb);have hQ : ∀ b, b < wr.heap.size -> v.ownBlock ≠ some b -> v'.ownBlock ≠ some b := fun b hb hne => by
  rcases hv' with e | e
  ·rw [e]; exact hne
  ·rw [e]; simp; omega
 refine ⟨h.old.trans hA, Own.snoc ho, fun a ha => ?_⟩;rcases List.mem_append.1 ha with ha | ha
 ·exact (h.tr a ha).keep (fun b hq => ⟨hq.1, by omega, hQ b hq.2.1 hq.2.2⟩) fun b hq => hblk b hq.2.1 hq.2.2
 ·simp at ha; subst ha;exact hT.keep (fun b hq => ⟨by omega, by omega, hQ b hq.2 (fun e => by have := hv b e; omega)⟩) fun b hq => hblk b hq.2 (fun e => by have := hv b e; omega)
def qNK (l : List RV) (w : World) (e : Ending) (w' : World) : Prop := ∃ (A : Option Addr) (c : Nat) (l' : List RV), e = .returned (.slice A l'.length c) /\ qA6 l' = qA6 l /\ CS w l' (.slice A l'.length c) w'
theorem qCA (l : List RV) (A : Option Addr) (c : Nat) (w : World) (hp : qAB (qA6 l) <= 900000) (hl : RRow w.heap.size w A c l) : Calls Tryz.prog 67 #[.slice A l.length c] w (qNK l w) := by
 have HA := hid hl;have HP := hid hp;have HN := hid (show l.length <= 900000 by have h1 := qCX (qA6 l); rw [qAD] at h1; omega);have hm : l.length <= 9223372036854775807 := by have := HN.out; omega
 clear hl hp
 go_enter Tryz.func67, Tryz.ntmps67
 go_wp2_with fail
 go_loopw [3, 4] (fun v iv wr => ∃ (i : Nat) (l' : List RV), i <= l.length /\ iv = .int .i64 (i : Int) /\ qA6 l' = (qA6 l).take i /\ CS w l' v wr) (fun _ iv _ => l.length - (intOf iv).toNat)
 case atStart => exact ⟨0, [], Nat.zero_le _, rfl, by simp [qA6], Below.refl _ _, Own.nil_ _ _ _, fun a ha => by simp at ha⟩
 case round =>
  obtain ⟨i, l', hi, rfl, htl, hC⟩ := hrel;rename World => wr
  rename Value => v
  have C := hid hC;have HTL := hid htl;clear hC htl;obtain ⟨AA, cc, hv⟩ := qAF C.out.own;subst hv;by_cases hlt : i < l.length
  ·have TA := ((HA.out.below C.out.old).2 _ (List.getElem_mem hlt)).more C.out.old.size;have hwf := TA.wf;have hkt : i < (qA6 l).length := by rw [qAD]; exact hlt
   have hpp := qCB (l := qA6 l) hkt;rw [qB2 l i hlt] at hpp;have HC := hid ((qHN l[i].ht l[i] wr lR (by have := HP.out; omega) TA).mono fun e w' h => qCG.tq hwf h);obtain ⟨b, o, rfl, hb, e0, e1, e2, e3, e4, e5, e6⟩ := (HA.out.below C.out.old).at_ hlt
   have HTN := hid (show ∀ rv : RV, rv.tree = l[i].tree -> qA6 (l' ++ [rv]) = (qA6 l).take (i + 1) from fun rv h => by rw [qFR, HTL.out, qBQ _ _ hkt, qB2 l i hlt]; simp only [qA6, h]);have HLL := hid (show l'.length <= 900000 by have h1 := congrArg List.length HTL.out; rw [qAD, List.length_take, qAD] at h1; have := HN.out; omega);have i0 : (0 : Int) <= (i : Int) := by omega
   have i1 : (i : Int) < (l.length : Int) := by omega
   unfold RV.val at HC;clear TA hwf hkt hpp;generalize l[i] = x at *;generalize l.length = n at *;go_wp2_with fail
   go_at_call 122
   refine HC.out.mono ?_;rintro en w8 ⟨rv2, rfl, hrt2, hT2, hB8⟩;have C8 := hid (C.out.call hB8);have HS := hid (HTN.out rv2 hrt2);have HT2 := hid hT2;have HV := hid (show ∀ b, (Value.slice AA l'.length cc).ownBlock = some b -> b < wr.heap.size from fun b hb => (World.ownsRow.lt C.out.own b hb).2);have RL := hid (qR4 w8 rv2);clear hB8 hT2 hrt2 e0 e1 e2 e3 e4 e5 e6 HC HTN;go_wp2_with (at_builtin; refine qAT (P := Tryz.prog) _ rfl _ _ 25 rfl w.heap.size 39 _ _ 7 _ (by rfl) (by rfl) (by rfl) (by rfl) (by rfl) (by rfl) (by decide) qCF qFJ _ l'.length (l'.flatMap encR) rfl (World.ownsRow.alloc C8.out.own _) _ (some ⟨w8.heap.size, 0, none⟩) 1 [rv2] 1 rfl rfl RL.out (by have := HLL.out; simp; omega) (by decide) (by have := C8.out.old.size; simp; omega) ?_; intro v2 w9 ho2 hg2 hv2; simp only [List.length_cons, List.length_nil, Nat.zero_add, List.flatMap_cons, List.flatMap_nil, List.append_nil] at ho2; have C9 := hid (C8.out.arg HT2.out C.out.old.size HV.out ho2 hg2 hv2); obtain ⟨A2, c2, rfl⟩ := qAF ho2; clear ho2 hg2 hv2)
   go_roundw
   case rel => exact ⟨i + 1, l' ++ [rv2], by omega, by go_num, HS.out, C9.out⟩
   case measure => simp [intOf]; omega
  ·obtain rfl : i = l.length := by omega
   have HE := hid (show qA6 l' = qA6 l by rw [HTL.out, List.take_of_length_le (by rw [qAD]; exact Nat.le_refl _)]);have i1 : ¬ (l.length : Int) < (l.length : Int) := by omega
   clear hlt;go_wp2_with fail
   go_ret;exact ⟨AA, cc, l', rfl, HE.out, C.out⟩
end
section
section
variable {P : Program} {ops : Array Oper} {Q : Exit -> Act -> World -> Prop} {md : Region.Mode}
def qAY (md : Region.Mode) (ops : Array Oper) : Bool := (List.range ops.size).all fun i => ((ops[i]?).map fun o => o.after.all fun e => !Region.binds md e || decide (e.on < i)).getD false
def qBN (l : Array Bool) : Nat := (l.toList.filter (· == false)).length
theorem qCH : ∀ (l : List Bool) (i : Nat), l[i]? = some false -> ((l.set i true).filter (· == false)).length + 1 = (l.filter (· == false)).length
 | [], i, h => by simp at h
 | b :: l, 0, h => by simp at h; subst h; simp
 | b :: l, i + 1, h => by
  have := qCH l i (by simpa using h);rw [List.set_cons_succ, List.filter_cons, List.filter_cons];cases b <;> simp only [beq_self_eq_true, if_true, List.length_cons, show (true == false) = false from rfl, Bool.false_eq_true, if_false] <;> omega
theorem qCN {listed : Array Bool} {i : Nat} (h : i ∈ Region.ready md ops listed) : i < ops.size /\ listed.getD i true = false /\ ∃ o, ops[i]? = some o /\ ∀ e ∈ o.after, Region.binds md e = true -> listed.getD e.on false = true := by
 unfold Region.ready at h;rw [List.mem_filter, List.mem_range] at h;obtain ⟨h1, h2⟩ := h;simp only [Bool.and_eq_true, Bool.not_eq_true'] at h2;obtain ⟨h3, h4⟩ := h2;refine ⟨h1, h3, ops[i], Array.getElem?_eq_getElem h1, fun e he hb => ?_⟩;rw [Array.getElem?_eq_getElem h1, Option.map_some, Option.getD_some] at h4;have h5 := Array.all_eq_true'.1 h4 e he
 simpa [hb] using h5
theorem qFY {listed : Array Bool} (hb : qAY md ops = true) (hs : listed.size = ops.size) (h : Region.ready md ops listed = []) : ∀ i, i < ops.size -> listed.getD i true = true := by
 intro i
 induction i using Nat.strongRecOn with
 | _ i ih =>
  intro hi;refine Classical.byContradiction fun hn => ?_;have hn' : listed.getD i true = false := by simpa using hn
  have hm : i ∈ Region.ready md ops listed := by
   unfold Region.ready;rw [List.mem_filter, List.mem_range];refine ⟨hi, ?_⟩;rw [hn', Array.getElem?_eq_getElem hi, Option.map_some, Option.getD_some];simp only [Bool.not_false, Bool.true_and];refine Array.all_eq_true'.2 fun e he => ?_;unfold qAY at hb;have h1 := List.all_eq_true.1 hb i (List.mem_range.2 hi);rw [Array.getElem?_eq_getElem hi, Option.map_some, Option.getD_some] at h1;have h2 := Array.all_eq_true'.1 h1 e he
   cases hbd : Region.binds md e with
   | false => simp
   | true =>
    simp [hbd] at h2;have h3 := ih e.on h2 (by omega);have h4 : e.on < listed.size := by omega
    simp only [Array.getD, h4, dite_true] at h3 |-
    simpa using h3
  rw [h] at hm;cases hm
theorem qDX {listed : Array Bool} {n : Nat} (hs : listed.size = n) (h : ∀ i, i < n -> listed.getD i true = true) : listed = Array.replicate n true := by
 apply Array.ext
 ·simp [hs]
 ·intro i h1 h2;have := h i (by omega);simp only [Array.getD, h1, dite_true] at this
  simpa using this
theorem qD5 {l : List Bool} (h : (l.filter (· == false)).length = 0) : ∀ b ∈ l, b = true := by
 intro b hb
 cases b with
 | true => rfl
 | false =>
  have h1 : false ∈ l.filter (· == false) := List.mem_filter.2 ⟨hb, rfl⟩;rw [List.eq_nil_of_length_eq_zero h] at h1;cases h1
theorem qK2 {J : Array Bool -> Act -> World -> Prop} (hb : qAY md ops = true)
  (hstep : ∀ (i : Nat) (o : Oper) (listed : Array Bool) (a : Act) (w : World), i < ops.size -> ops[i]? = some o -> listed.size = ops.size -> (∀ e ∈ o.after, Region.binds md e = true -> listed.getD e.on false = true) -> J listed a w ->
   ∀ K : Act -> World -> Prop, (∀ a' w', J (listed.setIfInBounds i true) a' w' -> K a' w') -> if Region.wanted o (yielded ops a.tmps) = true then Oper.wp P o a w K Q else K (a.put o.dst undef) w)
  (hdone : ∀ a w, J (Array.replicate ops.size true) a w -> Q .normal a w) :
  ∀ (fuel : Nat) (listed : Array Bool) (a : Act) (w : World), listed.size = ops.size -> qBN listed <= fuel -> J listed a w -> wpAny P md ops Q fuel listed a w
 | 0, listed, a, w, hs, hf, hJ => by
  have hall : ∀ i, i < ops.size -> listed.getD i true = true := fun i hi => by
   have h1 := qD5 (Nat.le_zero.1 hf) (listed[i]'(by omega)) (by simp);have h2 : i < listed.size := by omega
   simp only [Array.getD, h2, dite_true];exact h1
  refine ⟨?_, hdone a w (by rw [<- qDX hs hall]; exact hJ)⟩;refine List.eq_nil_iff_forall_not_mem.2 fun i hi => ?_;obtain ⟨h1, h2, _⟩ := qCN hi;rw [hall i h1] at h2;cases h2
 | fuel + 1, listed, a, w, hs, hf, hJ => by
  refine ⟨fun hr => hdone a w (by rw [<- qDX hs (qFY hb hs hr)]; exact hJ), fun i hi => ?_⟩;obtain ⟨h1, h2, o, ho, he⟩ := qCN hi;have hst := hstep i o listed a w h1 ho hs he hJ (wpAny P md ops Q fuel (listed.setIfInBounds i true)) (fun a' w' hj => qK2 hb hstep hdone fuel _ a' w' (by simpa using hs) (by
   have h3 : i < listed.size := by omega
   have h4 : listed.toList[i]? = some false := by
    simp only [Array.getD, h3, dite_true] at h2;rw [List.getElem?_eq_getElem (by simpa using h3)]
    simpa using h2
   have h5 := qCH _ _ h4;unfold qBN at hf |-;rw [Array.toList_setIfInBounds];omega) hj)
  unfold wpOp;simp only [ho];by_cases hw : Region.wanted o (yielded ops a.tmps) = true
  ·rw [if_pos hw] at hst |-; exact .inl hst
  ·rw [if_neg hw] at hst |-; exact hst
theorem qEF {J : Array Bool -> Act -> World -> Prop} {id : Nat} {a : Act} {w : World} (hm : P.follows .mixedOrders = true) (hb : qAY .any ops = true)
  (h0 : J (Array.replicate ops.size false) a w.drew)
  (hstep : ∀ (i : Nat) (o : Oper) (listed : Array Bool) (a : Act) (w : World), i < ops.size -> ops[i]? = some o -> listed.size = ops.size -> (∀ e ∈ o.after, Region.binds .any e = true -> listed.getD e.on false = true) -> J listed a w ->
   ∀ K : Act -> World -> Prop, (∀ a' w', J (listed.setIfInBounds i true) a' w' -> K a' w') -> if Region.wanted o (yielded ops a.tmps) = true then Oper.wp P o a w K Q else K (a.put o.dst undef) w)
  (hdone : ∀ a w, J (Array.replicate ops.size true) a w -> Q .normal a w) : (Code.region id ops true).wp P Q a w :=
 wp_region_any hm (qK2 hb hstep hdone _ _ _ _ (by simp) (by unfold qBN; exact Nat.le_trans (List.length_filter_le _ _) (by simp)) h0)
end
def upd (vs : Nat -> Value) (i : Nat) (v : Value) : Nat -> Value := fun k => if k = i then v else vs k
def qA2 : List Oper -> Nat -> (Nat -> Value) -> Act -> Act
 | [], _, _, a => a
 | o :: l, k, vs, a => qA2 l (k + 1) vs (a.put o.dst (vs k))
theorem qPY (a : Act) (d : Option Tmp) (u v : Value) : (a.put d u).put d v = a.put d v := by
 cases d with
 | none => rfl
 | some d =>
  show ({ a with tmps := (a.tmps.setIfInBounds d u).setIfInBounds d v } : Act) = { a with tmps := a.tmps.setIfInBounds d v }
  congr 1
  simp
theorem qEZ : ∀ (l : List Oper) (k : Nat) (vs : Nat -> Value) (a : Act) (d : Option Tmp) (v : Value), (∀ o ∈ l, ∀ x, o.dst = some x -> d ≠ some x) -> (qA2 l k vs a).put d v = qA2 l k vs (a.put d v)
 | [], _, _, _, _, _, _ => rfl
 | o :: l, k, vs, a, d, v, h => by
  rw [qA2, qA2, qEZ l (k + 1) vs _ d v (fun o' ho => h o' (List.mem_cons_of_mem _ ho)), Act.put_comm a (vs k) v (fun x hx => h o (List.mem_cons_self ..) x hx)]
theorem qE8 : ∀ (l : List Oper) (k : Nat) (vs vs' : Nat -> Value) (a : Act), (∀ j, k <= j -> vs j = vs' j) -> qA2 l k vs a = qA2 l k vs' a
 | [], _, _, _, _, _ => rfl
 | o :: l, k, vs, vs', a, h => by
  rw [qA2, qA2, h k lR, qE8 l (k + 1) vs vs' _ (fun j hj => h j (by omega))]
theorem qC5 : ∀ (l : List Oper) (k : Nat) (vs : Nat -> Value) (a : Act) (i : Nat) (o : Oper) (v : Value), l[i]? = some o -> (l.map (·.dst)).Nodup -> (qA2 l k vs a).put o.dst v = qA2 l k (upd vs (k + i) v) a
 | [], _, _, _, _, _, _, h, _ => by simp at h
 | o' :: l, k, vs, a, 0, o, v, h, hn => by
  have e : o' = o := by simpa using h
  subst e;rw [List.map_cons, List.nodup_cons] at hn;rw [qA2, qEZ l (k + 1) vs _ o'.dst v (fun o ho x hx hd => hn.1 (by rw [hd, <- hx]; exact List.mem_map_of_mem ho)), qPY, qA2];have e1 : upd vs (k + 0) v k = v := by simp [upd]
  rw [e1];exact qE8 l (k + 1) _ _ _ (fun j hj => by simp [upd]; omega)
 | o' :: l, k, vs, a, i + 1, o, v, h, hn => by
  rw [List.map_cons, List.nodup_cons] at hn;rw [qA2, qA2, qC5 l (k + 1) vs _ i o v (by simpa using h) hn.2];have e1 : upd vs (k + (i + 1)) v k = vs k := by simp [upd]
  rw [e1, show k + 1 + i = k + (i + 1) by omega]
section
variable {P : Program} {ops : Array Oper} {Q : Exit -> Act -> World -> Prop}
theorem qC2 {PP : Nat -> Value -> World -> Prop} {id : Nat} {a : Act} {w : World} (hm : P.follows .mixedOrders = true) (hb : qAY .any ops = true) (hn : (ops.toList.map (·.dst)).Nodup)
  (hmono : ∀ i v w w', PP i v w -> Below w.heap.size w w' -> PP i v w') (vs0 : Nat -> Value) (h0 : qA2 ops.toList 0 vs0 a = a)
  (hstep : ∀ (i : Nat) (o : Oper) (vs : Nat -> Value) (w' : World), i < ops.size -> ops[i]? = some o -> (∀ e ∈ o.after, Region.binds .any e = true -> PP e.on (vs e.on) w') -> Below w.heap.size w w' ->
   ∀ K : Act -> World -> Prop, (∀ v w'', PP i v w'' -> Below w'.heap.size w' w'' -> K ((qA2 ops.toList 0 vs a).put o.dst v) w'') -> if Region.wanted o (yielded ops (qA2 ops.toList 0 vs a).tmps) = true then Oper.wp P o (qA2 ops.toList 0 vs a) w' K Q else K ((qA2 ops.toList 0 vs a).put o.dst undef) w')
  (hdone : ∀ vs w', (∀ i, i < ops.size -> PP i (vs i) w') -> Below w.heap.size w w' -> Q .normal (qA2 ops.toList 0 vs a) w') : (Code.region id ops true).wp P Q a w := by
 refine qEF (J := fun listed a' w' => ∃ vs, a' = qA2 ops.toList 0 vs a /\ Below w.heap.size w w' /\ ∀ i, listed.getD i false = true -> PP i (vs i) w') hm hb ⟨vs0, h0.symm, bR.drew, fun i hi => ?_⟩ ?_ ?_
 ·exfalso;by_cases h : i < ops.size
  iterate 2 ·simp [Array.getD, h] at hi
 ·rintro i o listed a' w' hi ho hs he ⟨vs, rfl, hB, hP⟩ K hK;refine hstep i o vs w' hi ho (fun e hem hbd => hP _ (he e hem hbd)) hB K (fun v w'' hv hb' => hK _ _ ⟨upd vs i v, ?_, hB.trans (hb'.mono hB.size), fun j hj => ?_⟩)
  ·have := qC5 ops.toList 0 vs a i o v (by simpa using ho) hn;rw [this]; simp
  ·by_cases hji : j = i
   ·subst hji; simp [upd]; exact hv
   ·simp only [upd, hji, if_false];refine hmono _ _ _ _ (hP j ?_) hb';rw [Array.getD_eq_getD_getElem?] at hj |-;rw [Array.getElem?_setIfInBounds] at hj
    simpa [show ¬ i = j from fun e => hji e.symm] using hj
 ·rintro a' w' ⟨vs, rfl, hB, hP⟩;exact hdone vs w' (fun i hi => hP i (by simp [Array.getD, hi])) hB
end
