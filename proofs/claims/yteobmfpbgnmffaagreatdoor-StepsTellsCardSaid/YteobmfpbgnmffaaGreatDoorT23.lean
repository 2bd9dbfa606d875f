/- PoolNew, RegInv6 -/
import Derived.Test.YteobmfpbgnmffaaGreatDoorT22
set_option linter.unusedVariables false
set_option maxHeartbeats 16000000
set_option maxRecDepth 100000
open Go.Lib (hid)
set_option linter.unusedSimpArgs false
namespace Go.Proofs.YteobmfpbgnmffaaGreatDoor
section
open Go.RowKit Go.Shelf
def rpOk (r : Rp) : Bool := decide (0 <= r.prio) && decide (r.prio <= 1024) && r.pk.all mayP
def qB8 (repos : List Rp) (ins : List Pk) : Int := if 16 < repos.length \/ 256 < ins.length + qBK repos then 40 else if ins.all mayP && repos.all rpOk then 0 else 4
theorem qD3 {repos : List Rp} {ins : List Pk} (h : 16 < repos.length \/ 256 < ins.length + qBK repos) : qB8 repos ins = 40 := if_pos h
theorem qG7 {repos : List Rp} {ins : List Pk} (h : ¬ (16 < repos.length \/ 256 < ins.length + qBK repos)) : qB8 repos ins = if ins.all mayP && repos.all rpOk then 0 else 4 := if_neg h
def allP (repos : List Rp) (ins : List Pk) : List Pk := ins ++ repos.flatMap Rp.pk
def qAI (l : List Pk) (L : List Pr) : Prop := L.length = l.length /\ ∀ (i : Nat) (h : i < l.length) (h' : i < L.length), Alike l[i] L[i].pk
theorem qAI.of {l : List Pk} {L : List Pr} {rp pr : Int} (h : qCT l L rp pr) : qAI l L := ⟨h.1, fun i h1 h2 => (h.2 i h1 h2).1⟩
theorem qAI.app {l l2 : List Pk} {L L2 : List Pr} {rp pr : Int} (h : qAI l L) (h2 : qCT l2 L2 rp pr) : qAI (l ++ l2) (L ++ L2) := by
 refine ⟨by rw [List.length_append, List.length_append, h.1, h2.1], fun i hi hi' => ?_⟩;by_cases hlt : i < l.length
 ·rw [List.getElem_append_left hlt, List.getElem_append_left (by rw [h.1]; exact hlt)];exact h.2 i hlt (by rw [h.1]; exact hlt)
 ·rw [List.getElem_append_right (by omega), List.getElem_append_right (by rw [h.1]; omega)];rw [List.length_append] at hi hi';have h3 := h2.2 (i - l.length) (by omega) (by have := h2.1; omega);simp only [h.1];exact h3.1
theorem qIE (l : List Rp) (ins : List Pk) : (allP l ins).length = ins.length + qBK l := by
 unfold allP qBK;rw [List.length_append, List.length_flatMap]
theorem qJ2 {l : List Rp} {ins : List Pk} {k : Nat} (hk : k < l.length) : allP (l.take (k + 1)) ins = allP (l.take k) ins ++ l[k].pk := by
 unfold allP;rw [List.take_succ_eq_append_getElem hk, List.flatMap_append];simp
theorem qMJ {l : List Rp} {ins : List Pk} {r : Rp} (hr : r ∈ l) {x : Pk} (hx : x ∈ r.pk) : x ∈ allP l ins := List.mem_append_right _ (List.mem_flatMap.2 ⟨r, hr, hx⟩)
theorem qDZ (l : List Rp) (k : Nat) : qBK (l.take k) <= qBK l := by
 have h : qBK l = qBK (l.take k) + qBK (l.drop k) := by
  unfold qBK;rw [<- List.sum_append, <- List.map_append, List.take_append_drop]
 omega
def qD0 (repos : List Rp) (ins : List Pk) (w : World) (e : Ending) (w' : World) : Prop :=
 (qB8 repos ins = 0 -> ∃ (P : Nat) (L : List Pr), e = .returned (.tuple #[.pointer (some ⟨P, 0, none⟩), .int .i64 0]) /\ PoolAt P (ins.length : Int) L w' /\ qAI (allP repos ins) L) /\ (qB8 repos ins ≠ 0 -> e = .returned (.tuple #[.pointer none, .int .i64 (qB8 repos ins)])) /\ Below w.heap.size w w'
theorem qD0.no {repos : List Rp} {ins : List Pk} {w w' : World} {n : Int} (h : qB8 repos ins = n) (hn : n ≠ 0) (hb : Below w.heap.size w w') : qD0 repos ins w (.returned (.tuple #[.pointer none, .int .i64 n])) w' :=
 ⟨fun e => absurd (h.symm.trans e) hn, fun _ => by rw [h], hb⟩
theorem PoolSt.start {w0 W : World} (hb : Below w0.heap.size w0 W) (I : Int) : PoolSt w0 (W.heap.size + 1) W.heap.size (W.heap.size + 2) I 0 [] (fun _ => False) (.slice none 0 0) ((W.alloc (.map #[] 0)).alloc (.cells #[.slice none 0 0, .int .i64 I, .map (some W.heap.size)] 126)) := by
 have z1 : (W.alloc (.map #[] 0)).heap.size = W.heap.size + 1 := by simp
 have c : ∀ i v, (#[.slice none 0 0, .int .i64 I, .map (some W.heap.size)] : Array Value)[i]? = some v -> ((W.alloc (.map #[] 0)).alloc (.cells #[.slice none 0 0, .int .i64 I, .map (some W.heap.size)] 126)).cell? ⟨W.heap.size + 1, i, none⟩ = some v := fun i v hv => (World.cell?_alloc_at _ _ _ _ z1.symm).trans hv
 have G0 : (W.alloc (.map #[] 0)).ownsGroups (H := Unit) Tryz.prog 9 (W.heap.size + 2) 3 .i64 W.heap.size 0 (.map []) :=
  ⟨#[], 0, (Go.MapKept.heap_alloc W _).1, ⟨by simp, Go.MapKept.stamped_empty 0, by simp⟩, Nat.le_refl _, rfl, by omega, by simp, by simp⟩
 have S0 := World.Shuns_made W (fun g => False \/ (Value.slice none 0 0).ownBlock = some g);have ga := World.grownBy_alloc (W.alloc (.map #[] 0)) (.cells #[.slice none 0 0, .int .i64 I, .map (some W.heap.size)] 126) none;exact ⟨(hb.alloc hb.size _).alloc (by rw [z1]; have := hb.size; omega) _, Nat.le_succ_of_le hb.size, hb.size, by omega, by omega, by omega, by simp, c 0 _ rfl, c 1 _ rfl, c 2 _ rfl, fun i hi => by simp [go_sem], Own.nil_ _ _ _, by simp, by simp [Value.ownBlock], fun g h => h.elim, ⟨_, G0.kept ga (by simp) (S0.rowsOff (by simp))⟩, S0.kept ga (by simp) (by simp)⟩
theorem qFU (RA : Option Addr) (rc : Nat) (repos : List Rp) (IA : Option Addr) (ic : Nat) (ins : List Pk) (w : World) (hI : PkIn w) (hr : RpRow w.heap.size w RA rc repos) (hi : PRow w.heap.size w IA ic ins) (hd : ∀ x ∈ allP repos ins, x.deepOk /\ x.few) (ht : ins.length + qBK repos <= 1000000) (hk : repos.length <= 1000000) :
  Calls Tryz.prog 23 #[.slice RA repos.length rc, .slice IA ins.length ic] w (qD0 repos ins w) := by
 have HR := hid (fun W (hb : Below w.heap.size w W) => hr.calls hb);have HRW := hid hr;have HIN := hid hi;have HD := hid hd;have HI := hid hI;obtain ⟨ni, hni⟩ : ∃ n, n = ins.length := ⟨_, rfl⟩;obtain ⟨nr, hnr⟩ : ∃ n, n = repos.length := ⟨_, rfl⟩;have HNI := hid hni;have HNR := hid hnr;rw [<- hni] at ht |-;rw [<- hnr] at hk |-;have HT := hid ht;have hni2 : ni <= 1000000 := by omega
 clear hr hi hd hI hni hnr;have hmm : ∀ (t : TypeId) (w : World), (Instr.makeMap t none).run Tryz.prog w = .ok (.map (some w.heap.size)) (w.alloc (.map #[] 0)) := fun _ _ => rfl
 go_enter Tryz.func23, Tryz.ntmps23
 go_wp2_with fail
 go_loopw [6, 18] (fun n iv wr => ∃ (i m : Nat), i <= nr /\ iv = .int .i64 (i : Int) /\ n = .int .i64 (m : Int) /\ m = ni + qBK (repos.take i) /\ Below w.heap.size w wr) (fun _ iv _ => nr - (intOf iv).toNat)
 case atStart => exact ⟨0, ni, Nat.zero_le _, rfl, rfl, by simp [qBK], Below.refl _ _⟩
 case round =>
  obtain ⟨i, m, hi, rfl, rfl, hm, hB⟩ := hrel;rename World => wr
  have HM := hid hm;have HB := hid hB;have hmb : m <= 1000000 := by have := qDZ repos i; have := HT.out; omega
  clear hm hB;by_cases hlt : i < nr
  ·have hil : i < repos.length := by have := HNR.out; omega
   obtain ⟨b, o, hadr, hbl, d0, d1⟩ := (HR.out wr HB.out).at_ hil
   have HM2 := hid (show m + (repos[i]).pk.length = ni + qBK (repos.take (i + 1)) by rw [qBZ repos i hil, HM.out]; omega);have hpb : (repos[i]).pk.length <= 1000000 := by have h1 := qDZ repos (i + 1); have h2 := qBZ repos i hil; have := HT.out; omega
   generalize repos[i] = r at *;obtain ⟨np, hnp⟩ : ∃ np, np = r.pk.length := ⟨_, rfl⟩;rw [<- hnp] at d1 HM2 hpb;subst hadr;clear hnp hil;have j0 : (0 : Int) <= (i : Int) := by omega
   have j1 : (i : Int) < (nr : Int) := by omega
   have B2 := hid (HB.out.alloc HB.out.size (.cells #[.int .i64 r.prio, .slice r.A np r.c] 66));go_wp2_with fail
   go_roundw
   case rel => exact ⟨i + 1, m + np, by omega, by go_num, by go_num, HM2.out, B2.out⟩
   case measure => simp [intOf]; omega
  ·obtain rfl : i = nr := by omega
   have HMT := hid (show m = ni + qBK repos by rw [HM.out, List.take_of_length_le (by have := HNR.out; omega)]);have j1 : ¬ (i : Int) < (i : Int) := by omega
   clear HM;by_cases q0 : (16 : Int) < (i : Int)
   ·have EE := hid (show qB8 repos ins = 40 from qD3 (.inl (by have := HNR.out; omega)));go_wp2_with fail
    go_ret2
    exact qD0.no EE.out (by decide) HB.out
   by_cases q1 : (256 : Int) < (m : Int)
   ·have EE := hid (show qB8 repos ins = 40 from qD3 (.inr (by have := HNI.out; have := HMT.out; omega)));go_wp2_with fail
    go_ret2
    exact qD0.no EE.out (by decide) HB.out
   have ER := hid (show qB8 repos ins = if ins.all mayP && repos.all rpOk then 0 else 4 from qG7 (by have := HNR.out; have := HNI.out; have := HMT.out; omega));have SS := hid (PoolSt.start HB.out (ni : Int));have HT2 := hid (show ins.length + qBK repos <= 256 by have := HNI.out; have := HMT.out; omega);have HM9 := hid (show ∀ (k : Nat) (hk : k <= repos.length) (L : List Pr), qAI (allP (repos.take k) ins) L -> L.length = ins.length + qBK (repos.take k) from fun k hk L h => by rw [h.1, qIE]);have AD := hid (fun (P mb base : Nat) (I : Int) (L : List Pr) (No : Nat -> Prop) (v : Value) A c (l : List Pk) rp pr (W : World) (h1 : PRow w.heap.size w A c l) (h2 : ∀ x ∈ l, x.deepOk /\ x.few) h3 h4 => qKY (w0 := w) HI.out (P := P) (mb := mb) (base := base) (I := I) (L := L) (No0 := No) (v0 := v) A c l rp pr W h1 h2 h3 h4);clear hmb HMT HR;go_wp2_with fail
   generalize (wr.alloc (.map #[] 0)).alloc (.cells #[.slice none 0 0, .int .i64 (ni : Int), .map (some wr.heap.size)] 126) = w1 at *;generalize wr.heap.size + 1 = P at *;generalize wr.heap.size + 2 = base at *;generalize wr.heap.size = mb at *;have AD0 := AD.out P mb base ni [] _ _ IA ic ins (-1) 1025 w1 HIN.out (fun x hx => HD.out x (List.mem_append_left _ hx)) SS.out (by have := HT2.out; simp; omega);rw [<- HNI.out] at AD0;have AD0 := hid AD0;clear q1;refine AD0.out.mono ?_;rintro en w2 ⟨hy, hn, hb⟩;have B2 := hid hb;clear hb SS AD0 HB;cases hm : ins.all mayP
   ·obtain rfl := hn hm;have EE := hid (show qB8 repos ins = 4 by rw [ER.out, hm]; rfl);clear hy hn hm;go_wp2_with fail
    go_ret2
    exact qD0.no EE.out (by decide) B2.out
   ·obtain ⟨rfl, L1, No, v, hS, hC⟩ := hy hm;rw [List.nil_append] at hS;have S1 := hid hS;have C1 := hid (qAI.of hC);have ER := hid (show qB8 repos ins = if repos.all rpOk then 0 else 4 by rw [ER.out, hm]; simp);clear hy hn hm hS hC;go_wp2_with fail
    go_loopw [48] (fun iv wx => ∃ (k : Nat) (L : List Pr) (No : Nat -> Prop) (v : Value), k <= i /\ iv = .int .i64 (k : Int) /\ PoolSt w P mb base (ni : Int) L.length L No v wx /\ qAI (allP (repos.take k) ins) L /\ Hid (∀ r ∈ repos.take k, rpOk r = true)) (fun iv _ => i - (intOf iv).toNat)
    case atStart => exact ⟨0, L1, No, v, Nat.zero_le _, rfl, S1.out, by simpa [allP] using C1.out, hid (by simp)⟩
    case round =>
     obtain ⟨k, L, No, v, hk2, rfl, hS, hA, HOK⟩ := hrel;rename World => wx
     have S := hid hS;have AA := hid hA;clear hS hA S1 C1;by_cases hlt2 : k < i
     ·have hkl : k < repos.length := by have := HNR.out; omega
      obtain ⟨b, o, hadr, hbl, d0, d1⟩ := (HRW.out.calls S.out.old).at_ hkl
      have PR := hid (HRW.out.pks _ (List.getElem_mem hkl));have DR := hid (show ∀ x ∈ (repos[k]).pk, x.deepOk /\ x.few from fun x hx => HD.out x (qMJ (List.getElem_mem hkl) hx));have HLN := hid (show L.length + (repos[k]).pk.length <= 256 by have h1 := qDZ repos (k + 1); have h2 := qBZ repos k hkl; have h3 := HM9.out k (Nat.le_of_lt hkl) L AA.out; have := HT2.out; omega);have WF := HRW.out.wf _ (List.getElem_mem hkl);have BAD := hid (show rpOk (repos[k]) = false -> qB8 repos ins = 4 from fun h => by rw [ER.out, if_neg]; intro h2; rw [List.all_eq_true.1 h2 _ (List.getElem_mem hkl)] at h; cases h);have NXT := hid (fun (h : rpOk (repos[k]) = true) => show ∀ r ∈ repos.take (k + 1), rpOk r = true from fun r hr => by
       rw [List.take_succ_eq_append_getElem hkl] at hr;rcases List.mem_append.1 hr with hr | hr
       ·exact HOK.out r hr
       ·simp at hr; subst hr; exact h)
      have ALL := hid (fun (L2 : List Pr) rp pr (h : qCT (repos[k]).pk L2 rp pr) => show qAI (allP (repos.take (k + 1)) ins) (L ++ L2) by rw [qJ2 hkl]; exact AA.out.app h);generalize repos[k] = r at *;obtain ⟨np, hnp⟩ : ∃ np, np = r.pk.length := ⟨_, rfl⟩;rw [<- hnp] at d1 HLN;have HNP := hid hnp;subst hadr;clear hnp hkl;have j0 : (0 : Int) <= (k : Int) := by omega
      have j2 : (k : Int) < (i : Int) := by omega
      have S2 := hid (S.out.then ((Below.refl wx.heap.size wx).alloc lR (.cells #[.int .i64 r.prio, .slice r.A np r.c] 66)));by_cases q2 : r.prio < 0
      ·have EE := hid (BAD.out (by simp [rpOk]; intro h; omega));clear WF;go_wp2_with fail
       go_ret2
       exact qD0.no EE.out (by decide) S2.out.old
      by_cases q3 : 1024 < r.prio
      ·have EE := hid (BAD.out (by simp [rpOk]; intro h; omega));clear WF;go_wp2_with fail
       go_ret2
       exact qD0.no EE.out (by decide) S2.out.old
      have RP := hid (show rpOk r = r.pk.all mayP by simp [rpOk]; intro _; omega);have AD0 := AD.out P mb base ni L _ _ r.A r.c r.pk (k : Int) r.prio _ PR.out DR.out S2.out (by have := HLN.out; have := HNP.out; omega);rw [<- HNP.out] at AD0;have AD0 := hid AD0;clear WF S;go_wp2_with fail
      go_at_call 82
      refine AD0.out.mono ?_;rintro en w3 ⟨hy, hn, hb⟩;have B3 := hid hb;clear hb S2 AD0;cases hm : r.pk.all mayP
      ·obtain rfl := hn hm;have EE := hid (BAD.out (by rw [RP.out]; exact hm));clear hy hn hm;go_wp2_with fail
       go_ret2
       exact qD0.no EE.out (by decide) B3.out
      ·obtain ⟨rfl, L2, No2, v2, hS, hC⟩ := hy hm;have S3 := hid hS;have A3 := hid (ALL.out L2 _ _ hC);have N3 := hid (NXT.out (by rw [RP.out]; exact hm));clear hy hn hm hS hC;go_wp2_with fail
       go_roundw
       case rel => exact ⟨k + 1, L ++ L2, No2, v2, by omega, by go_num, S3.out, A3.out, hid N3.out⟩
       case measure => simp [intOf]; omega
     ·obtain rfl : k = i := by omega
      have j2 : ¬ (k : Int) < (k : Int) := by omega
      have EE := hid (show qB8 repos ins = 0 by rw [ER.out, if_pos]; exact List.all_eq_true.2 fun r hr => HOK.out r (by rw [List.take_of_length_le (by have := HNR.out; omega)]; exact hr));have AE := hid (show qAI (allP repos ins) L by have := AA.out; rwa [List.take_of_length_le (by have := HNR.out; omega)] at this);go_wp2_with fail
      go_ret2
      exact ⟨fun _ => ⟨P, L, rfl, HNI.out ▸ S.out.at_, AE.out⟩, (fun h => absurd EE.out h), S.out.old⟩
end
section
open Go.RowKit Go.Shelf
theorem qH6 : ∀ (l : List Oper) (k : Nat) (vs : Nat -> Value) (a : Act) (i : Nat) (o : Oper) (v : Value), l[i]? = some o -> (l.filterMap (·.dst)).Nodup -> (qA2 l k vs a).put o.dst v = qA2 l k (upd vs (k + i) v) a
 | [], _, _, _, _, _, _, h, _ => by simp at h
 | o' :: l, k, vs, a, 0, o, v, h, hn => by
  have e : o' = o := by simpa using h
  subst e;have e2 : qA2 l (k + 1) (upd vs (k + 0) v) (a.put o'.dst v) = qA2 l (k + 1) vs (a.put o'.dst v) := qE8 l (k + 1) _ _ _ (fun j hj => by simp [upd]; omega);have e1 : upd vs (k + 0) v k = v := by simp [upd]
  rw [qA2, qA2, e1, e2]
  cases hd : o'.dst with
  | none => rfl
  | some d =>
   rw [List.filterMap_cons, hd, List.nodup_cons] at hn;rw [qEZ l (k + 1) vs _ (some d) v (fun o ho x hx hd2 => hn.1 (List.mem_filterMap.2 ⟨o, ho, by rw [hx, <- hd2]⟩)), qPY]
 | o' :: l, k, vs, a, i + 1, o, v, h, hn => by
  have hn2 : (l.filterMap (·.dst)).Nodup := by
   rw [List.filterMap_cons] at hn
   cases hd : o'.dst with
   | none => rw [hd] at hn; exact hn
   | some d => rw [hd, List.nodup_cons] at hn; exact hn.2
  have e1 : upd vs (k + (i + 1)) v k = vs k := by simp [upd]
  rw [qA2, qA2, qH6 l (k + 1) vs _ i o v (by simpa using h) hn2, e1, show k + 1 + i = k + (i + 1) by omega]
section
variable {P : Program} {ops : Array Oper} {Q : Exit -> Act -> World -> Prop} {md : Region.Mode}
theorem qE4 {PP : Nat -> (Nat -> Value) -> World -> Prop} {Rel : Nat -> World -> World -> Prop} {Pre : Nat -> World -> Prop} {G : World -> Prop} {id : Nat} {a : Act} {w : World} (n : Nat) (hm : P.follows .mixedOrders = true) (hb : qAY .any ops = true) (ht : qBM n ops = true) (hn : ((ops.toList.take n).filterMap (·.dst)).Nodup) (hsz : n <= ops.size)
  (hG : ∀ j w1 w2, j < n -> Rel j w1 w2 -> G w1 -> G w2) (hmono : ∀ i j vs w1 w2, i ≠ j -> qEW ops ops.size i j = false -> G w1 -> PP i vs w1 -> Rel j w1 w2 -> PP i vs w2) (hloc : ∀ i j vs v w', i ≠ j -> qEW ops ops.size j i = false -> PP j vs w' -> PP j (upd vs i v) w') (hpre : ∀ i j w1 w2, i ≠ j -> qEW ops ops.size j i = false -> G w1 -> Pre i w1 -> Rel j w1 w2 -> Pre i w2) (hG0 : G w.drew) (hP0 : ∀ i, i < n -> Pre i w.drew) (vs0 : Nat -> Value) (h0 : qA2 (ops.toList.take n) 0 vs0 a = a)
  (hstep : ∀ (i : Nat) (o : Oper) (vs : Nat -> Value) (w' : World), i < n -> ops[i]? = some o -> (∀ e ∈ o.after, Region.binds .any e = true -> PP e.on vs w') -> G w' -> Pre i w' ->
   ∀ K : Act -> World -> Prop, (∀ v w'', PP i (upd vs i v) w'' -> Rel i w' w'' -> K ((qA2 (ops.toList.take n) 0 vs a).put o.dst v) w'') -> if Region.wanted o (yielded ops (qA2 (ops.toList.take n) 0 vs a).tmps) = true then Oper.wp P o (qA2 (ops.toList.take n) 0 vs a) w' K Q else K ((qA2 (ops.toList.take n) 0 vs a).put o.dst undef) w')
  (hrest : ∀ vs w', (∀ i, i < n -> PP i vs w') -> G w' -> wpList P ops Q (ops.toList.drop n) (qA2 (ops.toList.take n) 0 vs a) w') : (Code.region id ops true).wp P Q a w := by
 let Clo : Array Bool -> Prop := fun listed => ∀ j o, ops[j]? = some o -> listed.getD j false = true -> ∀ e ∈ o.after, Region.binds .any e = true -> listed.getD e.on false = true
 refine wp_region_any hm (qCV (J := fun listed a' w' => Clo listed /\ ((∃ vs, a' = qA2 (ops.toList.take n) 0 vs a /\ G w' /\ (∀ i, i < n -> listed.getD i false = true -> PP i vs w') /\ (∀ i, i < n -> listed.getD i false = false -> Pre i w') /\ ∀ i, n <= i -> listed.getD i false = false) \/ (∃ m, n < m /\ (∀ i, i < ops.size -> listed.getD i false = decide (i < m)) /\ m <= ops.size /\ wpList P ops Q (ops.toList.drop m) a' w'))) hb ?_ ?_ _ _ _ _ (by simp) (by unfold qBN; exact Nat.le_trans (List.length_filter_le _ _) (by simp)) ?_)
 ·rintro i o listed a' w' hi ho hs hun he ⟨hc, hJ⟩ K hK;have hunl : listed.getD i false = false := by
   have h3 : i < listed.size := by omega
   simp only [Array.getD, h3, dite_true] at hun |-;exact hun
  have hclo : Clo (listed.setIfInBounds i true) := by
   intro j o' ho' hj e hem hbd;rw [qAL] at hj |-;by_cases hji : i = j
   ·subst hji;rw [ho] at ho';cases ho'
    rw [he e hem hbd]; rfl
   ·have hj2 : listed.getD j false = true := by simpa [hji] using hj
    rw [hc j o' ho' hj2 e hem hbd]; rfl
  have nxt : ∀ m, m = i -> n <= m -> (∀ j, j < ops.size -> listed.getD j false = decide (j < m)) -> wpList P ops Q (ops.toList.drop m) a' w' -> if Region.wanted o (yielded ops a'.tmps) = true then Oper.wp P o a' w' K Q \/ (o.asks P a' w' /\ LetsOut Q) else K (a'.put o.dst undef) w' := by
   rintro m rfl hnm hl hw;have hd : ops.toList.drop m = o :: ops.toList.drop (m + 1) := by
    have h1 : m < ops.toList.length := by simpa using hi
    rw [List.drop_eq_getElem_cons h1]
    congr 1
    have : ops[m] = o := by rw [Array.getElem?_eq_getElem hi] at ho; exact Option.some.inj ho
    simpa using this
   rw [hd] at hw
   have go : ∀ a2 w2, wpList P ops Q (ops.toList.drop (m + 1)) a2 w2 -> K a2 w2 := fun a2 w2 h2 => hK a2 w2 ⟨hclo, .inr ⟨m + 1, by omega, fun j hj => by
    rw [qAL, hl j hj];by_cases h1 : j < m
    ·simp [h1]; omega
    ·by_cases h2 : j = m
     ·subst h2; simp; omega
     ·have h3 : ¬ m = j := fun e => h2 e.symm;simp [h1, h3]; omega, by omega, h2⟩⟩
   unfold wpList at hw;split
   ·rename_i hwt
    rw [if_pos hwt] at hw;rcases hw with h1 | h1
    ·exact .inl (Oper.wp_mono go h1)
    ·exact .inr h1
   ·rename_i hwt
    rw [if_neg hwt] at hw;exact go _ _ hw
  by_cases hin : i < n
  ·rcases hJ with ⟨vs, rfl, hB, hP, hR, hF⟩ | ⟨m, hm1, hl, _⟩
   ·have hst := hstep i o vs w' hin ho (fun e hem hbd => hP _ (by have := qET hb hi ho hem hbd; omega) (he e hem hbd)) hB (hR i hin hunl) K (fun v w'' hv hb' => hK _ _ ⟨hclo, .inl ⟨upd vs i v, ?_, hG i _ _ hin hb' hB, fun j hj hjl => ?_, fun j hj hjl => ?_, fun j hj => ?_⟩⟩)
    ·split
     ·rename_i hwt; rw [if_pos hwt] at hst; exact .inl hst
     ·rename_i hwt; rw [if_neg hwt] at hst; exact hst
    ·have := qH6 (ops.toList.take n) 0 vs a i o v (by rw [List.getElem?_take]; simp [hin]; simpa using ho) hn;rw [this]; simp
    ·by_cases hji : j = i
     ·subst hji; exact hv
     ·have hji2 : ¬ i = j := fun e => hji e.symm;have hjl2 : listed.getD j false = true := by
       rw [qAL] at hjl
       simpa [hji2] using hjl
      have hwf : qEW ops ops.size j i = false := by
       cases hwt : qEW ops ops.size j i
       ·rfl
       ·exfalso;have hjs : j < ops.size := by omega
        have := qB5 hc ops.size j i ops[j] (Array.getElem?_eq_getElem hjs) (hc j ops[j] (Array.getElem?_eq_getElem hjs) hjl2) hwt;rw [hunl] at this;cases this
      exact hloc _ _ _ _ _ hji2 hwf (hmono _ _ _ _ _ hji hwf hB (hP j hj hjl2) hb')
    ·have hji : j ≠ i := by
      rintro rfl;rw [qAL] at hjl;have h4 : j < listed.size := by omega
      simp [h4] at hjl
     have hji2 : ¬ i = j := fun e => hji e.symm;have hjl2 : listed.getD j false = false := by
      rw [qAL] at hjl
      simpa [hji2] using hjl
     refine hpre _ _ _ _ hji ?_ hB (hR j hj hjl2) hb';cases hwt : qEW ops ops.size i j
     ·rfl
     ·have := qB5 hc ops.size i j o ho he hwt;rw [hjl2] at this;cases this
    ·rw [qAL, hF j hj];have : ¬ i = j := by omega
     simp [this]
   ·rw [hl i hi] at hunl;have := of_decide_eq_false hunl;omega
  ·have hall : ∀ j, j < i -> listed.getD j false = true := by
    intro j hj;unfold qBM at ht;have h1 := List.all_eq_true.1 ht i (List.mem_range.2 hi);rw [decide_eq_false hin, Bool.false_or] at h1;have h2 := List.all_eq_true.1 h1 j (List.mem_range.2 hj);exact qB5 hc _ i j o ho he h2
   rcases hJ with ⟨vs, rfl, hB, hP, hR, hF⟩ | ⟨m, hm1, hl, hm2, hw⟩
   ·have hin2 : n = i := by
     refine Classical.byContradiction fun hne => ?_;have := hall n (by omega);rw [hF n lR] at this;cases this
    refine nxt n hin2 lR (fun j hj => ?_) (hrest vs w' (fun j hj => hP j hj (hall j (by omega))) hB);by_cases h1 : j < n
    ·rw [decide_eq_true h1]; exact hall j (by omega)
    ·rw [decide_eq_false h1]; exact hF j (by omega)
   ·have him : m = i := by
     rw [hl i hi] at hunl;have h1 := of_decide_eq_false hunl;refine Classical.byContradiction fun hne => ?_;have h2 := hall m (by omega);rw [hl m (by omega)] at h2;have := of_decide_eq_true h2;omega
    exact nxt m him (by omega) hl hw
 ·rintro a' w' ⟨_, hJ⟩;have hrep : ∀ i, i < ops.size -> (Array.replicate ops.size true).getD i false = true := fun i hi => by simp [Array.getD, hi]
  rcases hJ with ⟨vs, rfl, hB, hP, hR, hF⟩ | ⟨m, hm1, hl, hm2, hw⟩
  ·have hge : n = ops.size := by
    refine Classical.byContradiction fun hne => ?_;have h1 := hF n lR;rw [hrep n (by omega)] at h1;cases h1
   have := hrest vs w' (fun j hj => hP j hj (hrep j (by omega))) hB;rw [List.drop_eq_nil_of_le (by simp [hge])] at this;exact this
  ·have hge : m = ops.size := by
    refine Classical.byContradiction fun hne => ?_;have h1 := hl m (by omega);rw [hrep m (by omega)] at h1;have := of_decide_eq_true h1.symm;omega
   rw [List.drop_eq_nil_of_le (by simp [hge])] at hw;exact hw
 ·refine ⟨fun j o ho hj => ?_, .inl ⟨vs0, h0.symm, hG0, fun i hi hj => ?_, fun i hi _ => hP0 i hi, fun i hi => ?_⟩⟩
  ·exfalso;by_cases h : j < ops.size
   iterate 2 ·simp [Array.getD, h] at hj
  ·exfalso;by_cases h : i < ops.size
   iterate 2 ·simp [Array.getD, h] at hj
  ·by_cases h : i < ops.size
   iterate 2 ·simp [Array.getD, h]
end
