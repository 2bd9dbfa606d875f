/- StAll, RegInv5, StGoAt -/
import Derived.Test.YteobmfpbgnmffaaGreatDoorT30
set_option linter.unusedVariables false
set_option maxRecDepth 100000
set_option linter.unusedSimpArgs false
namespace Go.Proofs.YteobmfpbgnmffaaGreatDoor
open Go.RowKit Go.Shelf
section
structure ChAt (cb P I0 n : Nat) (inb : List Bool) (X : Nat -> Prop) (W : World) : Prop where
 c0 : W.cell? ⟨cb, 0, none⟩ = some (.pointer (some ⟨P, 0, none⟩))
 c1 : ∃ A c, W.cell? ⟨cb, 1, none⟩ = some (.slice A n c) /\ ∀ k, k < n -> ∃ b o, A = some ⟨b, o, none⟩ /\ ¬ X b /\ W.cell? ⟨b, o + k, none⟩ = some (.bool (inb.getD k false))
 cp : W.cell? ⟨P, 1, none⟩ = some (.int .i64 (I0 : Int))
 xc : ¬ X cb
 xp : ¬ X P
theorem ChAt.kx {cb P I0 n : Nat} {inb : List Bool} {X : Nat -> Prop} {W W' : World} (h : ChAt cb P I0 n inb X W) (k : KX X W W') : ChAt cb P I0 n inb X W' := by
 obtain ⟨A, c, h1, h2⟩ := h.c1;exact ⟨k.cell h.xc h.c0, ⟨A, c, k.cell h.xc h1, fun j hj => by
  obtain ⟨b, o, e, hx, hc⟩ := h2 j hj;exact ⟨b, o, e, hx, k.cell hx hc⟩⟩, k.cell h.xp h.cp, h.xc, h.xp⟩
theorem ChAt.then {cb P I0 n : Nat} {inb : List Bool} {X : Nat -> Prop} {W W' : World} (h : ChAt cb P I0 n inb X W) (hb : Below W.heap.size W W') : ChAt cb P I0 n inb X W' := h.kx (KX.of hb)
theorem ChAt.weak {cb P I0 n : Nat} {inb : List Bool} {X X' : Nat -> Prop} {W : World} (h : ChAt cb P I0 n inb X W) (hX : ∀ b, X' b -> X b) : ChAt cb P I0 n inb X' W := by
 obtain ⟨A, c, h1, h2⟩ := h.c1;exact ⟨h.c0, ⟨A, c, h1, fun j hj => by
  obtain ⟨b, o, e, hx, hc⟩ := h2 j hj;exact ⟨b, o, e, fun hb => hx (hX b hb), hc⟩⟩, h.cp, fun hb => h.xc (hX cb hb), fun hb => h.xp (hX P hb)⟩
theorem qFS (cb : Nat) (a b : Int) (w : World) : Calls Tryz.prog 84 #[.pointer (some ⟨cb, 0, none⟩), .int .i64 a, .int .i64 b] w fun e w' => e = .returned (.func (.func 131) #[] #[.pointer (some ⟨w.heap.size + 1, 0, none⟩), .pointer (some ⟨w.heap.size + 2, 0, none⟩), .pointer (some ⟨w.heap.size, 0, none⟩)]) /\
  w'.cell? ⟨w.heap.size + 1, 0, none⟩ = some (.int .i64 a) /\ w'.cell? ⟨w.heap.size + 2, 0, none⟩ = some (.int .i64 b) /\ w'.cell? ⟨w.heap.size, 0, none⟩ = some (.pointer (some ⟨cb, 0, none⟩)) /\ Below w.heap.size w w' /\ w'.heap.size = w.heap.size + 3 := by
 go_enter Tryz.func84, Tryz.ntmps84
 go_wp2_with fail
 go_ret;refine ⟨rfl, ?_, ?_, ?_, ?_, by simp⟩
 iterate 3 ·simp [go_sem]
 ·exact (((Below.refl _ w).alloc lR _).alloc (by simp) _).alloc (by simp; omega) _
theorem qE7 (nF fb tb xb cb P n I0 a b9 : Nat) (inb : List Bool) (X : Nat -> Prop) (w : World) (hab : a <= b9) (hbn : b9 <= n) (hn : n <= 1000000) (hx : ¬ X fb /\ ¬ X tb /\ ¬ X xb) (hfb : w.cell? ⟨fb, 0, none⟩ = some (.int .i64 (a : Int))) (htb : w.cell? ⟨tb, 0, none⟩ = some (.int .i64 (b9 : Int))) (hxb : w.cell? ⟨xb, 0, none⟩ = some (.pointer (some ⟨cb, 0, none⟩))) (hc : ChAt cb P I0 n inb X w) :
  SeqStopsK Fence.wide nF Tryz.prog 131 #[.pointer (some ⟨fb, 0, none⟩), .pointer (some ⟨tb, 0, none⟩), .pointer (some ⟨xb, 0, none⟩)] (qEX (inb := inb) (I := I0) (a := a) (b := b9)) (KX X) (fun ys => ys.map (fun x => x.1) = chgl inb I0 a b9) (fun pre => pre.map (fun x => x.1) <+: chgl inb I0 a b9) (b9 - a) w := by
 intro l J Jx W hW hA _ hY h0;have hk : KX X w W := KX.of hW;have hC := hc.kx hk;obtain ⟨A, c, h1, h2⟩ := hC.c1;exact qP3 l nF fb tb xb cb P n c I0 a b9 A inb X J Jx (fun pre A' B' hb hj => hA pre A' B' none hj (qAG hb none) (fun _ h => by cases h)) hY W hab hbn hn ⟨hx.1, hx.2.1, hx.2.2, hC.xc, hC.xp⟩ (hk.cell hx.1 hfb) (hk.cell hx.2.1 htb) (hk.cell hx.2.2 hxb) hC.c0 h1 h2 hC.cp h0
end
section
section
variable {P : Program} {ops : Array Oper} {Q : Exit -> Act -> World -> Prop} {md : Region.Mode}
theorem qEC {PP : Nat -> Value -> World -> Prop} {Bx By : Nat -> World -> Prop} {id : Nat} {a : Act} {w : World} (n sA s : Nat) (hm : P.follows .mixedOrders = true) (hb : qAY .any ops = true) (ht : qBM n ops = true) (hn : ((ops.toList.take n).map (·.dst)).Nodup) (hsz : n <= ops.size) (hsn : s < n) (hAn : sA < n) (hAs : sA ≠ s)
  (hdep : ((ops[s]?).map fun o' => o'.after.any fun e => Region.binds .any e && e.on == sA).getD false = true)
  (hmono : ∀ i v w' w'', i ≠ s -> i ≠ sA -> PP i v w' -> Below w'.heap.size w' w'' -> PP i v w'') (hmonoS : ∀ i v w' w'' g, i ≠ s -> i ≠ sA -> PP i v w' -> w.heap.size <= g -> w'.grownBy w'' (some g) -> PP i v w'')
  (hBx : ∀ g w' w'', Bx g w' -> Below w'.heap.size w' w'' -> Bx g w'') (hBy : ∀ g w' w'', By g w' -> Below w'.heap.size w' w'' -> By g w'') (vs0 : Nat -> Value) (h0 : qA2 (ops.toList.take n) 0 vs0 a = a)
  (hstep : ∀ (i : Nat) (o : Oper) (vs : Nat -> Value) (w' : World), i < n -> i ≠ s -> i ≠ sA -> ops[i]? = some o -> (∀ e ∈ o.after, Region.binds .any e = true -> e.on ≠ s -> e.on ≠ sA -> PP e.on (vs e.on) w') -> Below w.heap.size w w' ->
   ∀ K : Act -> World -> Prop, (∀ v w'', PP i v w'' -> Below w'.heap.size w' w'' -> K ((qA2 (ops.toList.take n) 0 vs a).put o.dst v) w'') -> if Region.wanted o (yielded ops (qA2 (ops.toList.take n) 0 vs a).tmps) = true then Oper.wp P o (qA2 (ops.toList.take n) 0 vs a) w' K Q else K ((qA2 (ops.toList.take n) 0 vs a).put o.dst undef) w')
  (hstepA : ∀ (o : Oper) (vs : Nat -> Value) (w' : World), ops[sA]? = some o -> Below w.heap.size w w' ->
   ∀ K : Act -> World -> Prop, (∀ g w'', w.heap.size <= g -> Bx g w'' -> Below w'.heap.size w' w'' -> K ((qA2 (ops.toList.take n) 0 vs a).put o.dst (.pointer (some ⟨g, 0, none⟩))) w'') -> if Region.wanted o (yielded ops (qA2 (ops.toList.take n) 0 vs a).tmps) = true then Oper.wp P o (qA2 (ops.toList.take n) 0 vs a) w' K Q else K ((qA2 (ops.toList.take n) 0 vs a).put o.dst undef) w')
  (hstepS : ∀ (o : Oper) (vs : Nat -> Value) (w' : World) (g : Nat), ops[s]? = some o -> (∀ e ∈ o.after, Region.binds .any e = true -> e.on ≠ s -> e.on ≠ sA -> PP e.on (vs e.on) w') -> vs sA = .pointer (some ⟨g, 0, none⟩) -> w.heap.size <= g -> Bx g w' -> Below w.heap.size w w' ->
   ∀ K : Act -> World -> Prop, (∀ v w'', By g w'' -> w'.grownBy w'' (some g) -> K ((qA2 (ops.toList.take n) 0 vs a).put o.dst v) w'') -> if Region.wanted o (yielded ops (qA2 (ops.toList.take n) 0 vs a).tmps) = true then Oper.wp P o (qA2 (ops.toList.take n) 0 vs a) w' K Q else K ((qA2 (ops.toList.take n) 0 vs a).put o.dst undef) w')
  (hrest : ∀ vs w' g, (∀ i, i < n -> i ≠ s -> i ≠ sA -> PP i (vs i) w') -> vs sA = .pointer (some ⟨g, 0, none⟩) -> w.heap.size <= g -> By g w' -> Below w.heap.size w w' -> wpList P ops Q (ops.toList.drop n) (qA2 (ops.toList.take n) 0 vs a) w') : (Code.region id ops true).wp P Q a w := by
 let Clo : Array Bool -> Prop := fun listed => ∀ j o, ops[j]? = some o -> listed.getD j false = true -> ∀ e ∈ o.after, Region.binds .any e = true -> listed.getD e.on false = true
 refine wp_region_any hm (qCV (J := fun listed a' w' => Clo listed /\ ((∃ vs, a' = qA2 (ops.toList.take n) 0 vs a /\ (Below w.heap.size w w' /\ (listed.getD sA false = true -> listed.getD s false = false -> ∃ g, vs sA = .pointer (some ⟨g, 0, none⟩) /\ w.heap.size <= g /\ Bx g w') /\ (listed.getD s false = true -> ∃ g, vs sA = .pointer (some ⟨g, 0, none⟩) /\ w.heap.size <= g /\ By g w')) /\ (∀ i, i < n -> i ≠ s -> i ≠ sA -> listed.getD i false = true -> PP i (vs i) w') /\ ∀ i, n <= i -> listed.getD i false = false) \/ (∃ m, n < m /\ (∀ i, i < ops.size -> listed.getD i false = decide (i < m)) /\ m <= ops.size /\ wpList P ops Q (ops.toList.drop m) a' w'))) hb ?_ ?_ _ _ _ _ (by simp) (by unfold qBN; exact Nat.le_trans (List.length_filter_le _ _) (by simp)) ?_)
 ·rintro i o listed a' w' hi ho hs hun he ⟨hc, hJ⟩ K hK;have hunl : listed.getD i false = false := by
   have h3 : i < listed.size := by omega
   simp only [Array.getD, h3, dite_true] at hun |-;exact hun
  have hclo : Clo (listed.setIfInBounds i true) := by
   intro j o' ho' hj e hem hbd;rw [qAL] at hj |-;by_cases hji : i = j
   ·subst hji;rw [ho] at ho';cases ho'
    rw [he e hem hbd]; rfl
   ·have hj2 : listed.getD j false = true := by simpa [hji] using hj
    rw [hc j o' ho' hj2 e hem hbd]; rfl
  have nxt : ∀ m, m = i -> n <= m -> (∀ j, j < ops.size -> listed.getD j false = decide (j < m)) -> wpList P ops Q (ops.toList.drop m) a' w' -> if Region.wanted o (yielded ops a'.tmps) = true then Oper.wp P o a' w' K Q \/ (o.asks P a' w' /\ LetsOut Q) else K (a'.put o.dst undef) w' := by
   rintro m rfl hnm hl hw;have hd : ops.toList.drop m = o :: ops.toList.drop (m + 1) := by
    have h1 : m < ops.toList.length := by simpa using hi
    rw [List.drop_eq_getElem_cons h1]
    congr 1
    have : ops[m] = o := by rw [Array.getElem?_eq_getElem hi] at ho; exact Option.some.inj ho
    simpa using this
   rw [hd] at hw
   have go : ∀ a2 w2, wpList P ops Q (ops.toList.drop (m + 1)) a2 w2 -> K a2 w2 := fun a2 w2 h2 => hK a2 w2 ⟨hclo, .inr ⟨m + 1, by omega, fun j hj => by
    rw [qAL, hl j hj];by_cases h1 : j < m
    ·simp [h1]; omega
    ·by_cases h2 : j = m
     ·subst h2; simp; omega
     ·have h3 : ¬ m = j := fun e => h2 e.symm;simp [h1, h3]; omega, by omega, h2⟩⟩
   unfold wpList at hw;split
   ·rename_i hwt
    rw [if_pos hwt] at hw;rcases hw with h1 | h1
    ·exact .inl (Oper.wp_mono go h1)
    ·exact .inr h1
   ·rename_i hwt
    rw [if_neg hwt] at hw;exact go _ _ hw
  by_cases hin : i < n
  ·rcases hJ with ⟨vs, rfl, hB, hP, hF⟩ | ⟨m, hm1, hl, _⟩
   ·have fill : ∀ v, (qA2 (ops.toList.take n) 0 vs a).put o.dst v = qA2 (ops.toList.take n) 0 (upd vs i v) a := fun v => by
     have := qC5 (ops.toList.take n) 0 vs a i o v (by rw [List.getElem?_take]; simp [hin]; simpa using ho) hn;rw [this]; simp
    have low : ∀ j, n <= j -> (listed.setIfInBounds i true).getD j false = false := fun j hj => by
     rw [qAL, hF j hj];have : ¬ i = j := by omega
     simp [this]
    have was : ∀ j, j ≠ i -> (listed.setIfInBounds i true).getD j false = listed.getD j false := fun j hj => by
     rw [qAL];have : ¬ i = j := fun e => hj e.symm;simp [this]
    have now : (listed.setIfInBounds i true).getD i false = true := by
     rw [qAL];have : i < listed.size := by omega
     simp [this]
    have hed : ∀ e ∈ o.after, Region.binds .any e = true -> e.on ≠ s -> e.on ≠ sA -> PP e.on (vs e.on) w' := fun e hem hbd h1 h2 => hP _ (by have := qET hb hi ho hem hbd; omega) h1 h2 (he e hem hbd);obtain ⟨hB, hX, hY⟩ := hB;by_cases his : i = s
    ·subst his;obtain ⟨g, hg, hgw, hbx⟩ := hX (by
      rw [ho, Option.map_some, Option.getD_some] at hdep;obtain ⟨x, hx, h3⟩ := Array.any_eq_true.1 hdep;simp only [Bool.and_eq_true, beq_iff_eq] at h3;have h4 := he _ (Array.getElem_mem hx) h3.1;rw [h3.2] at h4;exact h4) hunl
     have hst := hstepS o vs w' g ho hed hg hgw hbx hB K (fun v w'' hv hb' => hK _ _ ⟨hclo, .inl ⟨upd vs i v, fill v, ⟨hB.grown hb' hB.size (fun k e => by cases e; exact hgw), fun _ h => (by rw [now] at h; cases h), fun _ => ⟨g, by simp only [upd, hAs, if_false]; exact hg, hgw, hv⟩⟩, fun j hj hjs hjA hjl => by
      simp only [upd, hjs, if_false];exact hmonoS _ _ _ _ g hjs hjA (hP j hj hjs hjA (by rw [was j hjs] at hjl; exact hjl)) hgw hb', low⟩⟩)
     split
     ·rename_i hwt; rw [if_pos hwt] at hst; exact .inl hst
     ·rename_i hwt; rw [if_neg hwt] at hst; exact hst
    ·by_cases hiA : i = sA
     ·subst hiA;have hsf : listed.getD s false = false := by
       refine Classical.byContradiction fun hne => ?_;have h1 : listed.getD s false = true := by simpa using hne
       cases hso : ops[s]? with
       | none => rw [hso] at hdep; simp at hdep
       | some o2 =>
        rw [hso, Option.map_some, Option.getD_some] at hdep;obtain ⟨x, hx, h3⟩ := Array.any_eq_true.1 hdep;simp only [Bool.and_eq_true, beq_iff_eq] at h3;have h4 := hc _ o2 hso h1 _ (Array.getElem_mem hx) h3.1;rw [h3.2, hunl] at h4;cases h4
      have hst := hstepA o vs w' ho hB K (fun g w'' hgw hv hb' => hK _ _ ⟨hclo, .inl ⟨upd vs i (.pointer (some ⟨g, 0, none⟩)), fill _, ⟨hB.trans (hb'.mono hB.size), fun _ _ => ⟨g, by simp [upd], hgw, hv⟩, fun h => by rw [was s (fun e => hAs e.symm), hsf] at h; cases h⟩, fun j hj hjs hjA hjl => by
       simp only [upd, hjA, if_false];exact hmono _ _ _ _ hjs hjA (hP j hj hjs hjA (by rw [was j hjA] at hjl; exact hjl)) hb', low⟩⟩)
      split
      ·rename_i hwt; rw [if_pos hwt] at hst; exact .inl hst
      ·rename_i hwt; rw [if_neg hwt] at hst; exact hst
     ·have hst := hstep i o vs w' hin his hiA ho hed hB K (fun v w'' hv hb' => hK _ _ ⟨hclo, .inl ⟨upd vs i v, fill v, ⟨hB.trans (hb'.mono hB.size), fun h1 h2 => by
       rw [was sA (fun e => hiA e.symm)] at h1;rw [was s (fun e => his e.symm)] at h2;obtain ⟨g, e1, e2, e3⟩ := hX h1 h2;exact ⟨g, by simp only [upd, show ¬ sA = i from fun e => hiA e.symm, if_false]; exact e1, e2, hBx _ _ _ e3 hb'⟩, fun h1 => by
       rw [was s (fun e => his e.symm)] at h1;obtain ⟨g, e1, e2, e3⟩ := hY h1;exact ⟨g, by simp only [upd, show ¬ sA = i from fun e => hiA e.symm, if_false]; exact e1, e2, hBy _ _ _ e3 hb'⟩⟩, fun j hj hjs hjA hjl => by
       by_cases hji : j = i
       ·subst hji; simp [upd]; exact hv
       ·simp only [upd, hji, if_false];exact hmono _ _ _ _ hjs hjA (hP j hj hjs hjA (by rw [was j hji] at hjl; exact hjl)) hb', low⟩⟩)
      split
      ·rename_i hwt; rw [if_pos hwt] at hst; exact .inl hst
      ·rename_i hwt; rw [if_neg hwt] at hst; exact hst
   ·rw [hl i hi] at hunl;have := of_decide_eq_false hunl;omega
  ·have hall : ∀ j, j < i -> listed.getD j false = true := by
    intro j hj;unfold qBM at ht;have h1 := List.all_eq_true.1 ht i (List.mem_range.2 hi);rw [decide_eq_false hin, Bool.false_or] at h1;have h2 := List.all_eq_true.1 h1 j (List.mem_range.2 hj);exact qB5 hc _ i j o ho he h2
   rcases hJ with ⟨vs, rfl, hB, hP, hF⟩ | ⟨m, hm1, hl, hm2, hw⟩
   ·have hin2 : n = i := by
     refine Classical.byContradiction fun hne => ?_;have := hall n (by omega);rw [hF n lR] at this;cases this
    refine nxt n hin2 lR (fun j hj => ?_) (by
     obtain ⟨g, e1, e2, e3⟩ := hB.2.2 (hall s (by omega));exact hrest vs w' g (fun j hj hjs hjA => hP j hj hjs hjA (hall j (by omega))) e1 e2 e3 hB.1)
    by_cases h1 : j < n
    ·rw [decide_eq_true h1]; exact hall j (by omega)
    ·rw [decide_eq_false h1]; exact hF j (by omega)
   ·have him : m = i := by
     rw [hl i hi] at hunl;have h1 := of_decide_eq_false hunl;refine Classical.byContradiction fun hne => ?_;have h2 := hall m (by omega);rw [hl m (by omega)] at h2;have := of_decide_eq_true h2;omega
    exact nxt m him (by omega) hl hw
 ·rintro a' w' ⟨_, hJ⟩;have hrep : ∀ i, i < ops.size -> (Array.replicate ops.size true).getD i false = true := fun i hi => by simp [Array.getD, hi]
  rcases hJ with ⟨vs, rfl, hB, hP, hF⟩ | ⟨m, hm1, hl, hm2, hw⟩
  ·have hge : n = ops.size := by
    refine Classical.byContradiction fun hne => ?_;have h1 := hF n lR;rw [hrep n (by omega)] at h1;cases h1
   obtain ⟨g, e1, e2, e3⟩ := hB.2.2 (hrep s (by omega));have := hrest vs w' g (fun j hj hjs hjA => hP j hj hjs hjA (hrep j (by omega))) e1 e2 e3 hB.1;rw [List.drop_eq_nil_of_le (by simp [hge])] at this;exact this
  ·have hge : m = ops.size := by
    refine Classical.byContradiction fun hne => ?_;have h1 := hl m (by omega);rw [hrep m (by omega)] at h1;have := of_decide_eq_true h1.symm;omega
   rw [List.drop_eq_nil_of_le (by simp [hge])] at hw;exact hw
 ·refine ⟨fun j o ho hj => ?_, .inl ⟨vs0, h0.symm, ⟨bR.drew, fun h => by
   exfalso;by_cases h9 : sA < ops.size
   ·simp [Array.getD, h9] at h
   ·simp [Array.getD, h9] at h, fun h => by
   exfalso;by_cases h9 : s < ops.size
   ·simp [Array.getD, h9] at h
   ·simp [Array.getD, h9] at h⟩, fun i hi _ _ hj => ?_, fun i hi => ?_⟩⟩
  ·exfalso;by_cases h : j < ops.size
   iterate 2 ·simp [Array.getD, h] at hj
  ·exfalso;by_cases h : i < ops.size
   iterate 2 ·simp [Array.getD, h] at hj
  ·by_cases h : i < ops.size
   iterate 2 ·simp [Array.getD, h]
end
end
section
structure GoAt (w : World) (cb k g kb hz : Nat) (q : Pk) (r kd : Int) (W : World) : Prop where
 old : Below w.heap.size w W
 c2 : W.cell? ⟨w.heap.size, 0, none⟩ = some (.pointer (some ⟨cb, 0, none⟩))
 k3 : W.cell? ⟨w.heap.size + 1, 0, none⟩ = some (.int .i64 (k : Int))
 r4 : W.cell? ⟨w.heap.size + 1 + 1, 0, none⟩ = some (.int .u8 r)
 rf : W.frozen? ⟨w.heap.size + 1 + 1, 0, none⟩ = false
 k7 : W.cell? ⟨kb, 0, none⟩ = some (.int .u8 kd)
 kf : W.frozen? ⟨kb, 0, none⟩ = false
 nm : W.cell? ⟨g, 0, none⟩ = some (.string q.name)
 hz : w.heap.size + 3 <= hz /\ g < hz /\ kb < hz /\ w.heap.size + 3 <= g /\ w.heap.size + 3 <= kb /\ g ≠ kb /\ hz <= W.heap.size
theorem GoAt.past {w W W' : World} {cb k g kb hz : Nat} {q : Pk} {r kd : Int} (h : GoAt w cb k g kb hz q r kd W) (hb : Below hz W W') : GoAt w cb k g kb hz q r kd W' := by
 obtain ⟨z1, z2, z3, z4, z5, z6, z7⟩ := h.hz;exact ⟨h.old.trans (hb.mono (by omega)), (hb.cell (p := ⟨w.heap.size, 0, none⟩) (by show w.heap.size < hz; omega)).trans h.c2, (hb.cell (p := ⟨w.heap.size + 1, 0, none⟩) (by show w.heap.size + 1 < hz; omega)).trans h.k3, (hb.cell (p := ⟨w.heap.size + 1 + 1, 0, none⟩) (by show w.heap.size + 1 + 1 < hz; omega)).trans h.r4, (hb.frozen (p := ⟨w.heap.size + 1 + 1, 0, none⟩) (by show w.heap.size + 1 + 1 < hz; omega)).trans h.rf, (hb.cell (p := ⟨kb, 0, none⟩) z3).trans h.k7, (hb.frozen (p := ⟨kb, 0, none⟩) z3).trans h.kf, (hb.cell (p := ⟨g, 0, none⟩) z2).trans h.nm, z1, z2, z3, z4, z5, z6, Nat.le_trans z7 hb.size⟩
theorem GoAt.setR {w W : World} {cb k g kb hz : Nat} {q : Pk} {r kd : Int} (h : GoAt w cb k g kb hz q r kd W) (r' : Int) : GoAt w cb k g kb hz q r' kd (W.setCell ⟨w.heap.size + 1 + 1, 0, none⟩ (.int .u8 r')) := by
 obtain ⟨z1, z2, z3, z4, z5, z6, z7⟩ := h.hz;have ne : ∀ b, b ≠ w.heap.size + 1 + 1 -> (⟨w.heap.size + 1 + 1, 0, none⟩ : Addr) ≠ ⟨b, 0, none⟩ := fun b hb e => by simp only [Addr.mk.injEq] at e; exact hb e.1.symm
 exact ⟨h.old.setCell (p := ⟨w.heap.size + 1 + 1, 0, none⟩) (by show w.heap.size <= w.heap.size + 1 + 1; omega) _, (qA0 (ne _ (by omega))).trans h.c2, (qA0 (ne _ (by omega))).trans h.k3, qAS h.r4, (World.frozen?_setCell _ _ _ _).trans h.rf, (qA0 (ne _ (by omega))).trans h.k7, (World.frozen?_setCell _ _ _ _).trans h.kf, (qA0 (ne _ (by omega))).trans h.nm, z1, z2, z3, z4, z5, z6, by simpa [World.setCell] using z7⟩
theorem GoAt.setK {w W : World} {cb k g kb hz : Nat} {q : Pk} {r kd : Int} (h : GoAt w cb k g kb hz q r kd W) (k' : Int) : GoAt w cb k g kb hz q r k' (W.setCell ⟨kb, 0, none⟩ (.int .u8 k')) := by
 obtain ⟨z1, z2, z3, z4, z5, z6, z7⟩ := h.hz;have ne : ∀ b, b ≠ kb -> (⟨kb, 0, none⟩ : Addr) ≠ ⟨b, 0, none⟩ := fun b hb e => by simp only [Addr.mk.injEq] at e; exact hb e.1.symm
 exact ⟨h.old.setCell (p := ⟨kb, 0, none⟩) (by show w.heap.size <= kb; omega) _, (qA0 (ne _ (by omega))).trans h.c2, (qA0 (ne _ (by omega))).trans h.k3, (qA0 (ne _ (by omega))).trans h.r4, (World.frozen?_setCell _ _ _ _).trans h.rf, qAS h.k7, (World.frozen?_setCell _ _ _ _).trans h.kf, (qA0 (ne _ z6)).trans h.nm, z1, z2, z3, z4, z5, z6, by simpa [World.setCell] using z7⟩
theorem GoAt.own {β : Type} {w : World} {cb k g kb hz B : Nat} {q : Pk} {r kd : Int} (hB : hz <= B) : OwnFrom B (fun (_ : β) W => GoAt w cb k g kb hz q r kd W) := fun s A C row hs hg hr =>
 hs.past ((Below.refl hz A).grown hg hs.hz.2.2.2.2.2.2 (fun j e => Nat.le_trans hB (hr j e).1))
theorem GoAt.start {w V W : World} {cb k g : Nat} {q : Pk} (hb : Below w.heap.size w W) (hz : V.heap.size = w.heap.size + 3) (hv : Below V.heap.size V W) (h2 : V.cell? ⟨w.heap.size, 0, none⟩ = some (.pointer (some ⟨cb, 0, none⟩))) (h3 : V.cell? ⟨w.heap.size + 1, 0, none⟩ = some (.int .i64 (k : Int))) (h4 : V.cell? ⟨w.heap.size + 1 + 1, 0, none⟩ = some (.int .u8 0) /\ V.frozen? ⟨w.heap.size + 1 + 1, 0, none⟩ = false) (hg : w.heap.size + 3 <= g) (hx : qAJ g q W) :
  GoAt w cb k g W.heap.size (W.heap.size + 1) q 0 6 (W.alloc (.cells #[.int .u8 6] 5)) := by
 have hsz := hv.size;have hgl := hx.2.2;have B := (Below.refl W.heap.size W).alloc lR (.cells #[.int .u8 6] 5);have hv2 := hv.alloc hsz (.cells #[.int .u8 6] 5);exact ⟨hb.alloc hb.size _, (hv2.cell (p := ⟨w.heap.size, 0, none⟩) (by show w.heap.size < V.heap.size; omega)).trans h2, (hv2.cell (p := ⟨w.heap.size + 1, 0, none⟩) (by show w.heap.size + 1 < V.heap.size; omega)).trans h3, (hv2.cell (p := ⟨w.heap.size + 1 + 1, 0, none⟩) (by show w.heap.size + 1 + 1 < V.heap.size; omega)).trans h4.1, (hv2.frozen (p := ⟨w.heap.size + 1 + 1, 0, none⟩) (by show w.heap.size + 1 + 1 < V.heap.size; omega)).trans h4.2, by simp [go_sem], by simp [go_sem], (B.cell (p := ⟨g, 0, none⟩) hgl).trans hx.1.2.1, by omega, by omega, by omega, hg, by omega, by omega, by simp⟩
