/- PoolPkg, RegInvIn -/
import Derived.Test.YteobmfpbgnmffaaGreatDoorT28
set_option linter.unusedVariables false
set_option maxHeartbeats 16000000
set_option maxRecDepth 100000
open Go.Lib (hid)
set_option linter.unusedSimpArgs false
namespace Go.Proofs.YteobmfpbgnmffaaGreatDoor
section
open Go.RowKit Go.Shelf
theorem qK5 {b c : Nat} (h : b ≠ c) : ∀ (l : List Value) (i : Nat) (W : World), (setL c i l W).heap[b]? = W.heap[b]?
 | [], _, _ => rfl
 | v :: l, i, W => by rw [setL, qK5 h l]; exact Below.heap_setCell _ _ _ _ h
theorem qJG {c : Nat} : ∀ (l : List Value) (i : Nat) (W : World), (setL c i l W).heap.size = W.heap.size
 | [], _, _ => rfl
 | v :: l, i, W => by rw [setL, qJG l]; simp [World.setCell]
theorem qL8 {P : Nat} {I : Int} {L : List Pr} {w : World} (hp : Pool P I L w) {k : Nat} (hk : k < L.length) (hn0 : L.length <= 1000000) : Calls Tryz.prog 48 #[.pointer (some ⟨P, 0, none⟩), .int .i64 (k : Int)] w fun e w' => ∃ q : Pk, e = .returned (.tuple #[q.val, .int .i64 0]) /\ Alike L[k].pk q /\ PkOwn (w.heap.size + 1) q w' /\ Below w.heap.size w w' := by
 have hn : L.length <= 1000000 := hn0;obtain ⟨A, c, h0, hr⟩ := hp.at_.row;have HRD := hid hr;have hlt := hp.at_.lt;obtain ⟨x, hx⟩ : ∃ x, L[k].pk = x := ⟨_, rfl⟩;have LX := hid (fun W (hb : Below w.heap.size w W) => show x.Laid W.heap.size W from hx ▸ (hp.then hb).at_.laid _ (List.getElem_mem hk));have FX := hid (show x.few from hx ▸ (hp.may _ (List.getElem_mem hk)).2);have CP := hid (fun W (h : x.Laid W.heap.size W) => qHE x W h FX.out);unfold Pk.val at CP;have IS := hid (fun A c (W : World) => qMQ A c (k : Int) L.length W hn);rw [hx];obtain ⟨b, o, hA, hrest⟩ := hr.cells hk;clear hrest;have CE := hid (fun W (hb : Below w.heap.size w W) => qIG (hr.below hb) hk hA hx);obtain ⟨n, hn9⟩ : ∃ n, n = L.length := ⟨_, rfl⟩;rw [<- hn9] at h0 IS hn;have k0 : (0 : Int) <= (k : Int) := by omega
 have k1 : (k : Int) < (n : Int) := by omega
 have F1 := hid (show decide (0 <= (k : Int) /\ (k : Int) < (n : Int)) = true from decide_eq_true ⟨k0, k1⟩);subst hA;clear hp hr hx hk hn9 hn hn0 HRD;have B0 := (Below.refl w.heap.size w).alloc lR (.cells #[.string ⟨#[]⟩, .int .i64 0, .string ⟨#[]⟩, .string ⟨#[]⟩, .int .u8 0, .string ⟨#[]⟩, .slice none 0 0, .slice none 0 0, .slice none 0 0, .slice none 0 0, .slice none 0 0, .slice none 0 0, .slice none 0 0, .slice none 0 0, .slice none 0 0] 28);have C0 := hid ((B0.cell (p := ⟨P, 0, none⟩) hlt).trans h0);have B0 := hid B0;have Z0 := hid (qAJ.new w)
 go_enter Tryz.func48, Tryz.ntmps48
 go_wp2_with fail
 go_at_call 102
 refine (IS.out _ _ _).mono ?_;rintro e w1 ⟨rfl, h⟩;rw [F1.out];have S1 := hid (show w.heap.size + 1 <= w1.heap.size by have := h.size; simpa using this);have B1 := hid (B0.out.trans (h.mono B0.out.size));have Z1 := hid (Z0.out.then h);have c0 := (h.cell (p := ⟨P, 0, none⟩) (Nat.lt_of_lt_of_le hlt B0.out.size)).trans C0.out;obtain ⟨d0, d1, d2, d3, d4, d5, d6, d7, d8, d9, d10, d11, d12, d13, d14⟩ := CE.out _ B1.out;clear h B0 Z0 C0 h0 F1;go_wp2_with fail
 go_at_call 16
 refine (CP.out _ (LX.out _ B1.out)).mono ?_;rintro e w2 ⟨q, rfl, ha, hq, h⟩;have B2 := hid (B1.out.trans (h.mono B1.out.size));have Z2 := hid (Z1.out.then h);have HA := hid ha;have HQ := hid (hq.more S1.out);clear h ha hq B1 Z1 S1 c0 d0 d1 d2 d3 d4 d5 d6 d7 d8 d9 d10 d11 d12 d13 d14;obtain ⟨⟨zl, z0, z1, z2, z3, z4, z5, z6, z7, z8, z9, z10, z11, z12, z13, z14⟩, fz, _⟩ := Z2.out;have f0 := fz 0 (by omega);have f1 := fz 1 (by omega);have f2 := fz 2 (by omega);have f3 := fz 3 (by omega);have f4 := fz 4 (by omega);have f5 := fz 5 (by omega);have f6 := fz 6 (by omega);have f7 := fz 7 (by omega);have f8 := fz 8 (by omega);have f9 := fz 9 (by omega);have f10 := fz 10 (by omega);have f11 := fz 11 (by omega);have f12 := fz 12 (by omega);have f13 := fz 13 (by omega);have f14 := fz 14 (by omega);have R1 := hid (Z2.out.set q);have R3 := hid (qDR (B := w.heap.size) (R := w.heap.size) lR q.cells 0 w2);have RQ := hid (HQ.out.keepB (W' := setL w.heap.size 0 q.cells w2) (by rw [qJG]; exact Nat.le_refl _) (fun b h1 _ => qK5 (show b ≠ w.heap.size by omega) _ _ _));clear fz zl HQ;unfold zPk at z0 z1 z2 z3 z4 z5 z6 z7 z8 z9 z10 z11 z12 z13 z14;go_wp2_with fail
 obtain ⟨Y, hY⟩ : ∃ Y, Y = setL w.heap.size 0 q.cells w2 := ⟨_, rfl⟩;have hY2 := hY;simp only [setL, Pk.cells, Nat.zero_add, Nat.reduceAdd] at hY2;rw [<- hY2];rw [<- hY] at R1 R3 RQ;clear hY hY2 z0 z1 z2 z3 z4 z5 z6 z7 z8 z9 z10 z11 z12 z13 z14;obtain ⟨⟨_, c0, c1, c2, c3, c4, c5, c6, c7, c8, c9, c10, c11, c12, c13, c14⟩, _, _⟩ := R1.out;refine bodyPost_ret (v := .tuple #[q.val, .int .i64 0]) (by simp [Pk.val, results, Tryz.results48, go_sem, c0, c1, c2, c3, c4, c5, c6, c7, c8, c9, c10, c11, c12, c13, c14]; try rfl) rfl ?_;exact ⟨q, rfl, HA.out, RQ.out, B2.out.trans R3.out⟩
theorem qCZ {P : Nat} {I : Int} {L : List Pr} {w : World} (hp : Pool P I L w) {k : Nat} (hk : k < L.length) (hn0 : L.length <= 1000000) : Calls Tryz.prog 48 #[.pointer (some ⟨P, 0, none⟩), .int .i64 (k : Int)] w fun e w' => ∃ q : Pk, e = .returned (.tuple #[q.val, .int .i64 0]) /\ Alike L[k].pk q /\ Below w.heap.size w w' :=
 (qL8 hp hk hn0).mono fun e w' ⟨q, h1, h2, _, h4⟩ => ⟨q, h1, h2, h4⟩
end
section
open Go.RowKit Go.Shelf
section
variable {F : Fence} {nF : Nat} {P : Program} {ops : Array Oper} {Q : Exit -> Act -> World -> Prop} {md : Region.Mode}
theorem qF2 {J : Array Bool -> Act -> World -> Prop} (hb : qAY md ops = true)
  (hstep : ∀ (i : Nat) (o : Oper) (listed : Array Bool) (a : Act) (w : World), i < ops.size -> ops[i]? = some o -> listed.size = ops.size -> listed.getD i true = false -> (∀ e ∈ o.after, Region.binds md e = true -> listed.getD e.on false = true) -> J listed a w ->
   ∀ K : Act -> World -> Prop, (∀ a' w', J (listed.setIfInBounds i true) a' w' -> K a' w') -> if Region.wanted o (yielded ops a.tmps) = true then Oper.wpIn F nF P o a w K Q else (∀ f, o.about P w a.eval = some f -> F.fn f) /\ K (a.put o.dst undef) w)
  (hdone : ∀ a w, J (Array.replicate ops.size true) a w -> Q .normal a w) :
  ∀ (fuel : Nat) (listed : Array Bool) (a : Act) (w : World), listed.size = ops.size -> qBN listed <= fuel -> J listed a w -> wpAnyIn F nF P md ops Q fuel listed a w
 | 0, listed, a, w, hs, hf, hJ => by
  have hall : ∀ i, i < ops.size -> listed.getD i true = true := fun i hi => by
   have h1 := qD5 (Nat.le_zero.1 hf) (listed[i]'(by omega)) (by simp);have h2 : i < listed.size := by omega
   simp only [Array.getD, h2, dite_true];exact h1
  refine ⟨?_, hdone a w (by rw [<- qDX hs hall]; exact hJ)⟩;refine List.eq_nil_iff_forall_not_mem.2 fun i hi => ?_;obtain ⟨h1, h2, _⟩ := qCN hi;rw [hall i h1] at h2;cases h2
 | fuel + 1, listed, a, w, hs, hf, hJ => by
  refine ⟨fun hr => hdone a w (by rw [<- qDX hs (qFY hb hs hr)]; exact hJ), fun i hi => ?_⟩;obtain ⟨h1, h2, o, ho, he⟩ := qCN hi;have hst := hstep i o listed a w h1 ho hs h2 he hJ (wpAnyIn F nF P md ops Q fuel (listed.setIfInBounds i true)) (fun a' w' hj => qF2 hb hstep hdone fuel _ a' w' (by simpa using hs) (by
   have h3 : i < listed.size := by omega
   have h4 : listed.toList[i]? = some false := by
    simp only [Array.getD, h3, dite_true] at h2;rw [List.getElem?_eq_getElem (by simpa using h3)]
    simpa using h2
   have h5 := qCH _ _ h4;unfold qBN at hf |-;rw [Array.toList_setIfInBounds];omega) hj)
  unfold wpOpIn;simp only [ho];exact hst
theorem qAC {PP : Nat -> Value -> World -> Prop} {id : Nat} {a : Act} {w : World} (n : Nat) (hm : P.follows .mixedOrders = true) (hb : qAY .any ops = true) (ht : qBM n ops = true) (hn : ((ops.toList.take n).map (·.dst)).Nodup) (hsz : n <= ops.size)
  (hmono : ∀ i v w w', PP i v w -> Below w.heap.size w w' -> PP i v w') (vs0 : Nat -> Value) (h0 : qA2 (ops.toList.take n) 0 vs0 a = a)
  (hstep : ∀ (i : Nat) (o : Oper) (vs : Nat -> Value) (w' : World), i < n -> ops[i]? = some o -> (∀ e ∈ o.after, Region.binds .any e = true -> PP e.on (vs e.on) w') -> Below w.heap.size w w' ->
   ∀ K : Act -> World -> Prop, (∀ v w'', PP i v w'' -> Below w'.heap.size w' w'' -> K ((qA2 (ops.toList.take n) 0 vs a).put o.dst v) w'') -> if Region.wanted o (yielded ops (qA2 (ops.toList.take n) 0 vs a).tmps) = true then Oper.wpIn F nF P o (qA2 (ops.toList.take n) 0 vs a) w' K Q else (∀ f, o.about P w' (qA2 (ops.toList.take n) 0 vs a).eval = some f -> F.fn f) /\ K ((qA2 (ops.toList.take n) 0 vs a).put o.dst undef) w')
  (hrest : ∀ vs w', (∀ i, i < n -> PP i (vs i) w') -> Below w.heap.size w w' -> wpListIn F nF P ops Q (ops.toList.drop n) (qA2 (ops.toList.take n) 0 vs a) w') : (Code.region id ops true).wpIn F nF P Q a w := by
 let Clo : Array Bool -> Prop := fun listed => ∀ j o, ops[j]? = some o -> listed.getD j false = true -> ∀ e ∈ o.after, Region.binds .any e = true -> listed.getD e.on false = true
 refine wpIn_region_any hm (qF2 (J := fun listed a' w' => Clo listed /\ ((∃ vs, a' = qA2 (ops.toList.take n) 0 vs a /\ Below w.heap.size w w' /\ (∀ i, i < n -> listed.getD i false = true -> PP i (vs i) w') /\ ∀ i, n <= i -> listed.getD i false = false) \/ (∃ m, n < m /\ (∀ i, i < ops.size -> listed.getD i false = decide (i < m)) /\ m <= ops.size /\ wpListIn F nF P ops Q (ops.toList.drop m) a' w'))) hb ?_ ?_ _ _ _ _ (by simp) (by unfold qBN; exact Nat.le_trans (List.length_filter_le _ _) (by simp)) ?_)
 ·rintro i o listed a' w' hi ho hs hun he ⟨hc, hJ⟩ K hK;have hunl : listed.getD i false = false := by
   have h3 : i < listed.size := by omega
   simp only [Array.getD, h3, dite_true] at hun |-;exact hun
  have hclo : Clo (listed.setIfInBounds i true) := by
   intro j o' ho' hj e hem hbd;rw [qAL] at hj |-;by_cases hji : i = j
   ·subst hji;rw [ho] at ho';cases ho'
    rw [he e hem hbd]; rfl
   ·have hj2 : listed.getD j false = true := by simpa [hji] using hj
    rw [hc j o' ho' hj2 e hem hbd]; rfl
  have nxt : ∀ m, m = i -> n <= m -> (∀ j, j < ops.size -> listed.getD j false = decide (j < m)) -> wpListIn F nF P ops Q (ops.toList.drop m) a' w' -> if Region.wanted o (yielded ops a'.tmps) = true then Oper.wpIn F nF P o a' w' K Q else (∀ f, o.about P w' a'.eval = some f -> F.fn f) /\ K (a'.put o.dst undef) w' := by
   rintro m rfl hnm hl hw;have hd : ops.toList.drop m = o :: ops.toList.drop (m + 1) := by
    have h1 : m < ops.toList.length := by simpa using hi
    rw [List.drop_eq_getElem_cons h1]
    congr 1
    have : ops[m] = o := by rw [Array.getElem?_eq_getElem hi] at ho; exact Option.some.inj ho
    simpa using this
   rw [hd] at hw
   have go : ∀ a2 w2, wpListIn F nF P ops Q (ops.toList.drop (m + 1)) a2 w2 -> K a2 w2 := fun a2 w2 h2 => hK a2 w2 ⟨hclo, .inr ⟨m + 1, by omega, fun j hj => by
    rw [qAL, hl j hj];by_cases h1 : j < m
    ·simp [h1]; omega
    ·by_cases h2 : j = m
     ·subst h2; simp; omega
     ·have h3 : ¬ m = j := fun e => h2 e.symm;simp [h1, h3]; omega, by omega, h2⟩⟩
   unfold wpListIn at hw;split
   ·rename_i hwt
    rw [if_pos hwt] at hw;exact Oper.wpIn_mono go hw
   ·rename_i hwt
    rw [if_neg hwt] at hw;exact ⟨hw.1, go _ _ hw.2⟩
  by_cases hin : i < n
  ·rcases hJ with ⟨vs, rfl, hB, hP, hF⟩ | ⟨m, hm1, hl, _⟩
   ·have hst := hstep i o vs w' hin ho (fun e hem hbd => hP _ (by have := qET hb hi ho hem hbd; omega) (he e hem hbd)) hB K (fun v w'' hv hb' => hK _ _ ⟨hclo, .inl ⟨upd vs i v, ?_, hB.trans (hb'.mono hB.size), fun j hj hjl => ?_, fun j hj => ?_⟩⟩)
    ·exact hst
    ·have := qC5 (ops.toList.take n) 0 vs a i o v (by rw [List.getElem?_take]; simp [hin]; simpa using ho) hn;rw [this]; simp
    ·by_cases hji : j = i
     ·subst hji; simp [upd]; exact hv
     ·simp only [upd, hji, if_false];refine hmono _ _ _ _ (hP j hj ?_) hb';rw [qAL] at hjl;have : ¬ i = j := fun e => hji e.symm
      simpa [this] using hjl
    ·rw [qAL, hF j hj];have : ¬ i = j := by omega
     simp [this]
   ·rw [hl i hi] at hunl;have := of_decide_eq_false hunl;omega
  ·have hall : ∀ j, j < i -> listed.getD j false = true := by
    intro j hj;unfold qBM at ht;have h1 := List.all_eq_true.1 ht i (List.mem_range.2 hi);rw [decide_eq_false hin, Bool.false_or] at h1;have h2 := List.all_eq_true.1 h1 j (List.mem_range.2 hj);exact qB5 hc _ i j o ho he h2
   rcases hJ with ⟨vs, rfl, hB, hP, hF⟩ | ⟨m, hm1, hl, hm2, hw⟩
   ·have hin2 : n = i := by
     refine Classical.byContradiction fun hne => ?_;have := hall n (by omega);rw [hF n lR] at this;cases this
    refine nxt n hin2 lR (fun j hj => ?_) (hrest vs w' (fun j hj => hP j hj (hall j (by omega))) hB);by_cases h1 : j < n
    ·rw [decide_eq_true h1]; exact hall j (by omega)
    ·rw [decide_eq_false h1]; exact hF j (by omega)
   ·have him : m = i := by
     rw [hl i hi] at hunl;have h1 := of_decide_eq_false hunl;refine Classical.byContradiction fun hne => ?_;have h2 := hall m (by omega);rw [hl m (by omega)] at h2;have := of_decide_eq_true h2;omega
    exact nxt m him (by omega) hl hw
 ·rintro a' w' ⟨_, hJ⟩;have hrep : ∀ i, i < ops.size -> (Array.replicate ops.size true).getD i false = true := fun i hi => by simp [Array.getD, hi]
  rcases hJ with ⟨vs, rfl, hB, hP, hF⟩ | ⟨m, hm1, hl, hm2, hw⟩
  ·have hge : n = ops.size := by
    refine Classical.byContradiction fun hne => ?_;have h1 := hF n lR;rw [hrep n (by omega)] at h1;cases h1
   have := hrest vs w' (fun j hj => hP j hj (hrep j (by omega))) hB;rw [List.drop_eq_nil_of_le (by simp [hge])] at this;exact this
  ·have hge : m = ops.size := by
    refine Classical.byContradiction fun hne => ?_;have h1 := hl m (by omega);rw [hrep m (by omega)] at h1;have := of_decide_eq_true h1.symm;omega
   rw [List.drop_eq_nil_of_le (by simp [hge])] at hw;exact hw
 ·refine ⟨fun j o ho hj => ?_, .inl ⟨vs0, h0.symm, bR.drew, fun i hi hj => ?_, fun i hi => ?_⟩⟩
  ·exfalso;by_cases h : j < ops.size
   iterate 2 ·simp [Array.getD, h] at hj
  ·exfalso;by_cases h : i < ops.size
   iterate 2 ·simp [Array.getD, h] at hj
  ·by_cases h : i < ops.size
   iterate 2 ·simp [Array.getD, h]
end
