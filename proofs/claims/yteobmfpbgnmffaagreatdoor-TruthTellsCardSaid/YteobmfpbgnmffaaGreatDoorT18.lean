/- RegInv4, PoolMem2, IxMem -/
import Derived.Test.YteobmfpbgnmffaaGreatDoorT17
set_option linter.unusedVariables false
set_option maxRecDepth 100000
set_option linter.unusedSimpArgs false
namespace Go.Proofs.YteobmfpbgnmffaaGreatDoor
section
open Go.RowKit Go.Shelf
section
variable {P:Program}{ops:Array Oper}{Q:Exit->Act->World->Prop}{md:Region.Mode}
theorem qB7 {PP:Nat->Value->World->Prop}{RelS:World->World->Prop}{id:Nat}{a:Act}{w:World}(n s:Nat)(hm:P.follows .mixedOrders=true)(hb:qB0 .any ops=true)(ht:qBF n ops=true)(hn:((ops.toList.take n).map (·.dst)).Nodup)(hsz:n<=ops.size)(hsn:s<n)
  (hmono:∀i v w' w'',(Below w.heap.size w w' \/ RelS w w')->PP i v w'->Below w'.heap.size w' w''->PP i v w'') (hmonoS:∀i v w' w'',i≠s->Below w.heap.size w w'->PP i v w'->RelS w' w''->PP i v w'')
  (hS2:∀b c,RelS w b->Below b.heap.size b c->RelS w c) (hS3:∀b c,Below w.heap.size w b->RelS b c->RelS w c) (vs0:Nat->Value) (h0:qA4 (ops.toList.take n) 0 vs0 a=a)
  (hstep:∀(i:Nat) (o:Oper) (vs:Nat->Value) (w':World),i<n->i≠s->ops[i]?=some o->(∀e∈o.after,Region.binds .any e=true->PP e.on (vs e.on) w')->(Below w.heap.size w w' \/ RelS w w')->(((ops[s]?).map fun o'=>o'.after.any fun e=>Region.binds .any e && e.on == i).getD false=true->Below w.heap.size w w') ->
   ∀K:Act->World->Prop,(∀v w'',PP i v w''->Below w'.heap.size w' w''->K ((qA4 (ops.toList.take n) 0 vs a).put o.dst v) w'')->if Region.wanted o (yielded ops (qA4 (ops.toList.take n) 0 vs a).tmps)=true then Oper.wp P o (qA4 (ops.toList.take n) 0 vs a) w' K Q else K ((qA4 (ops.toList.take n) 0 vs a).put o.dst undef) w')
  (hstepS:∀(o:Oper) (vs:Nat->Value) (w':World),ops[s]?=some o->(∀e∈o.after,Region.binds .any e=true->PP e.on (vs e.on) w')->Below w.heap.size w w' ->
   ∀K:Act->World->Prop,(∀v w'',PP s v w''->RelS w' w''->K ((qA4 (ops.toList.take n) 0 vs a).put o.dst v) w'')->if Region.wanted o (yielded ops (qA4 (ops.toList.take n) 0 vs a).tmps)=true then Oper.wp P o (qA4 (ops.toList.take n) 0 vs a) w' K Q else K ((qA4 (ops.toList.take n) 0 vs a).put o.dst undef) w')
  (hrest:∀vs w',(∀i,i<n->PP i (vs i) w')->RelS w w'->wpList P ops Q (ops.toList.drop n) (qA4 (ops.toList.take n) 0 vs a) w'):(Code.region id ops true).wp P Q a w:=by
 let Clo:Array Bool->Prop:=fun listed => ∀j o,ops[j]?=some o->listed.getD j false=true -> ∀e∈o.after,Region.binds .any e=true->listed.getD e.on false=true
 refine wp_region_any hm (qC3 (J:=fun listed a' w'=>Clo listed/\((∃vs,a'=qA4 (ops.toList.take n) 0 vs a/\((listed.getD s false=false/\Below w.heap.size w w') \/ (listed.getD s false=true/\RelS w w'))/\(∀i,i<n->listed.getD i false=true->PP i (vs i) w') /\ ∀i,n<=i->listed.getD i false=false) \/ (∃m,n<m/\(∀i,i<ops.size->listed.getD i false=decide (i<m))/\m<=ops.size/\wpList P ops Q (ops.toList.drop m) a' w'))) hb ?_ ?_ _ _ _ _ (by simp) (by unfold qBX;exact Nat.le_trans (List.length_filter_le _ _) (by simp)) ?_)
 ·rintro i o listed a' w' hi ho hs hun he ⟨hc,hJ⟩ K hK;have hunl:listed.getD i false=false:=by
   have h3:i<listed.size:=by omega
   simp only[Array.getD,h3,dite_true]at hun |-;exact hun
  have hclo:Clo (listed.setIfInBounds i true):=by
   intro j o' ho' hj e hem hbd;rw[qAK]at hj |-;by_cases hji:i=j
   ·subst hji;rw[ho]at ho';cases ho'
    rw[he e hem hbd];rfl
   ·have hj2:listed.getD j false=true:=by simpa [hji] using hj
    rw[hc j o' ho' hj2 e hem hbd];rfl
  have nxt:∀m,m=i->n<=m->(∀j,j<ops.size->listed.getD j false=decide (j<m))->wpList P ops Q (ops.toList.drop m) a' w'->if Region.wanted o (yielded ops a'.tmps)=true then Oper.wp P o a' w' K Q \/ (o.asks P a' w'/\LetsOut Q) else K (a'.put o.dst undef) w':=by
   rintro m rfl hnm hl hw;have hd:ops.toList.drop m=o::ops.toList.drop (m+1):=by
    have h1:m<ops.toList.length:=by simpa using hi
    rw[List.drop_eq_getElem_cons h1]
    congr 1
    have:ops[m]=o:=by rw[Array.getElem?_eq_getElem hi]at ho;exact Option.some.inj ho
    simpa using this
   rw[hd]at hw
   have go:∀a2 w2,wpList P ops Q (ops.toList.drop (m+1)) a2 w2->K a2 w2:=fun a2 w2 h2=>hK a2 w2 ⟨hclo,.inr ⟨m+1,by omega,fun j hj=>by
    rw[qAK,hl j hj];by_cases h1:j<m
    ·simp[h1];omega
    ·by_cases h2:j=m
     ·subst h2;simp;omega
     ·have h3:¬m=j:=fun e=>h2 e.symm;simp[h1,h3];omega,by omega,h2⟩⟩
   unfold wpList at hw;split
   ·rename_i hwt
    rw[if_pos hwt]at hw;rcases hw with h1|h1
    ·exact .inl (Oper.wp_mono go h1)
    ·exact .inr h1
   ·rename_i hwt
    rw[if_neg hwt]at hw;exact go _ _ hw
  by_cases hin:i<n
  ·rcases hJ with⟨vs,rfl,hB,hP,hF⟩|⟨m,hm1,hl,_⟩
   ·have fill:∀v,(qA4 (ops.toList.take n) 0 vs a).put o.dst v=qA4 (ops.toList.take n) 0 (upd vs i v) a:=fun v=>by
     have:=qC4 (ops.toList.take n) 0 vs a i o v (by rw[List.getElem?_take];simp[hin];simpa using ho) hn;rw[this];simp
    have low:∀j,n<=j->(listed.setIfInBounds i true).getD j false=false:=fun j hj=>by
     rw[qAK,hF j hj];have:¬i=j:=by omega
     simp[this]
    have was:∀j,j≠i->(listed.setIfInBounds i true).getD j false=listed.getD j false:=fun j hj=>by
     rw[qAK];have:¬i=j:=fun e=>hj e.symm;simp[this]
    have now:(listed.setIfInBounds i true).getD i false=true:=by
     rw[qAK];have:i<listed.size:=by omega
     simp[this]
    have hed:∀e∈o.after,Region.binds .any e=true->PP e.on (vs e.on) w':=fun e hem hbd=>hP _ (by have:=qEO hb hi ho hem hbd;omega) (he e hem hbd);by_cases his:i=s
    ·subst his;have hB':Below w.heap.size w w':=by
      rcases hB with⟨_,h1⟩|⟨h1,_⟩
      ·exact h1
      ·rw[hunl]at h1;cases h1
     have hst:=hstepS o vs w' ho hed hB' K (fun v w'' hv hb'=>hK _ _ ⟨hclo,.inl ⟨upd vs i v,fill v,.inr ⟨now,hS3 _ _ hB' hb'⟩,fun j hj hjl=>by
      by_cases hji:j=i
      ·subst hji;simp[upd];exact hv
      ·simp only[upd,hji,if_false];exact hmonoS _ _ _ _ hji hB' (hP j hj (by rw[was j hji]at hjl;exact hjl)) hb',low⟩⟩)
     split
     ·rename_i hwt;rw[if_pos hwt]at hst;exact .inl hst
     ·rename_i hwt;rw[if_neg hwt]at hst;exact hst
    ·have hst:=hstep i o vs w' hin his ho hed (hB.elim (fun h=>.inl h.2) (fun h=>.inr h.2)) (fun hd=>by
      rcases hB with⟨_,h2⟩|⟨h1,_⟩
      ·exact h2
      ·exfalso
       cases hso:ops[s]? with
       | none=>rw[hso]at hd;simp at hd
       | some o2 =>
        rw[hso,Option.map_some,Option.getD_some]at hd;obtain⟨x,hx,h3⟩:=Array.any_eq_true.1 hd;simp only[Bool.and_eq_true,beq_iff_eq]at h3;have h4:=hc _ o2 hso h1 _ (Array.getElem_mem hx) h3.1;rw[h3.2,hunl]at h4
        cases h4) K (fun v w'' hv hb'=>hK _ _ ⟨hclo,.inl ⟨upd vs i v,fill v,by
      rw[was s (fun e=>his e.symm)];rcases hB with⟨h1,h2⟩|⟨h1,h2⟩
      ·exact .inl ⟨h1,h2.trans (hb'.mono h2.size)⟩
      ·exact .inr ⟨h1,hS2 _ _ h2 hb'⟩,fun j hj hjl=>by
      by_cases hji:j=i
      ·subst hji;simp[upd];exact hv
      ·simp only[upd,hji,if_false];exact hmono _ _ _ _ (hB.elim (fun h=>.inl h.2) (fun h=>.inr h.2)) (hP j hj (by rw[was j hji]at hjl;exact hjl)) hb',low⟩⟩)
     split
     ·rename_i hwt;rw[if_pos hwt]at hst;exact .inl hst
     ·rename_i hwt;rw[if_neg hwt]at hst;exact hst
   ·rw[hl i hi]at hunl;have:=of_decide_eq_false hunl;omega
  ·have hall:∀j,j<i->listed.getD j false=true:=by
    intro j hj;unfold qBF at ht;have h1:=List.all_eq_true.1 ht i (List.mem_range.2 hi);rw[decide_eq_false hin,Bool.false_or]at h1;have h2:=List.all_eq_true.1 h1 j (List.mem_range.2 hj);exact qB1 hc _ i j o ho he h2
   rcases hJ with⟨vs,rfl,hB,hP,hF⟩|⟨m,hm1,hl,hm2,hw⟩
   ·have hin2:n=i:=by
     refine Classical.byContradiction fun hne => ?_;have:=hall n (by omega);rw[hF n lR]at this;cases this
    refine nxt n hin2 lR (fun j hj => ?_) (hrest vs w' (fun j hj=>hP j hj (hall j (by omega))) (by
     rcases hB with⟨h1,_⟩|⟨_,h2⟩
     ·rw[hall s (by omega)]at h1;cases h1
     ·exact h2))
    by_cases h1:j<n
    ·rw[decide_eq_true h1];exact hall j (by omega)
    ·rw[decide_eq_false h1];exact hF j (by omega)
   ·have him:m=i:=by
     rw[hl i hi]at hunl;have h1:=of_decide_eq_false hunl;refine Classical.byContradiction fun hne => ?_;have h2:=hall m (by omega);rw[hl m (by omega)]at h2;have:=of_decide_eq_true h2;omega
    exact nxt m him (by omega) hl hw
 ·rintro a' w' ⟨_,hJ⟩;have hrep:∀i,i<ops.size->(Array.replicate ops.size true).getD i false=true:=fun i hi=>by simp[Array.getD,hi]
  rcases hJ with⟨vs,rfl,hB,hP,hF⟩|⟨m,hm1,hl,hm2,hw⟩
  ·have hge:n=ops.size:=by
    refine Classical.byContradiction fun hne => ?_;have h1:=hF n lR;rw[hrep n (by omega)]at h1;cases h1
   have:=hrest vs w' (fun j hj=>hP j hj (hrep j (by omega))) (by
    rcases hB with⟨h1,_⟩|⟨_,h2⟩
    ·rw[hrep s (by omega)]at h1;cases h1
    ·exact h2)
   rw[List.drop_eq_nil_of_le (by simp[hge])]at this;exact this
  ·have hge:m=ops.size:=by
    refine Classical.byContradiction fun hne => ?_;have h1:=hl m (by omega);rw[hrep m (by omega)]at h1;have:=of_decide_eq_true h1.symm;omega
   rw[List.drop_eq_nil_of_le (by simp[hge])]at hw;exact hw
 ·refine⟨fun j o ho hj => ?_,.inl ⟨vs0,h0.symm,.inl ⟨by
   by_cases h:s<ops.size
   ·simp[Array.getD,h]
   ·simp[Array.getD,h],bR.drew⟩,fun i hi hj => ?_,fun i hi => ?_⟩⟩
  ·exfalso;by_cases h:j<ops.size
   iterate 2 ·simp[Array.getD,h]at hj
  ·exfalso;by_cases h:i<ops.size
   iterate 2 ·simp[Array.getD,h]at hj
  ·by_cases h:i<ops.size
   iterate 2 ·simp[Array.getD,h]
end
end
section
open Go.RowKit Go.Shelf
section
variable {base mb N:Nat}{key:ByteArray}{kl:Lit}{No:Nat->Prop}
def LK (base mb N:Nat)(key:ByteArray)(kl:Lit)(No:Nat->Prop)(u:Value)(W:World) : Prop :=
 ∃(zs:List Int) (D:DataW Unit),W.ownsGroups Tryz.prog 9 base 3 .i64 mb N D/\W.ownsInts base 3 .i64 u zs/\zs.length<=N/\W.groupBack Tryz.prog 122 9 base 3 .i64 mb N D (.string key) kl u/\W.Shuns mb No /\ ∀g,u.ownBlock=some g -> ¬No g
theorem LK.below {u:Value}{W W':World}(h:LK base mb N key kl No u W)(hb:Below W.heap.size W W') : LK base mb N key kl No u W' := by
 obtain⟨zs,D,h1,h2,h3,h4,h5,h6⟩:=h;have hg:=qAC hb none;have hm:mb<W.heap.size:=by
  obtain⟨es,clock,hh,_⟩:=h1;exact (Array.getElem?_eq_some_iff.1 hh).1
 refine⟨zs,D,h1.kept hg (by simp) (h5.rowsOff (by simp)),h2.kept hg (by
  cases u.ownBlock<;>simp),h3,fun w1 v' zs' k1 k2 k3 k4=>h4 w1 v' zs' ((qAC hb u.ownBlock).trans k1) k2 k3 (k4.imp id fun⟨g,e,hge⟩=>⟨g,e,Nat.le_trans hb.size hge⟩),h5.kept hg hm (by simp),h6⟩
def AP (w:World)(base mb N:Nat)(key:ByteArray)(kl:Lit)(No No2:Nat->Prop)(x:Int)(v':Value)(W:World) : Prop :=
 ∃(W2:World) (u:Value) (zs:List Int) (D:DataW Unit),Below w.heap.size w W2/\W2.ownsGroups Tryz.prog 9 base 3 .i64 mb N D/\W2.ownsInts base 3 .i64 u zs/\zs.length<=N/\W2.groupBack Tryz.prog 122 9 base 3 .i64 mb N D (.string key) kl u/\W2.Shuns mb No/\(∀g,u.ownBlock=some g -> ¬No g) /\
  W2.grownBy W u.ownBlock/\W.ownsInts base 3 .i64 v' (zs++[x])/\(v'.ownBlock=u.ownBlock \/ ∃g,v'.ownBlock=some g/\W2.heap.size<=g) /\ ∀g,v'.ownBlock=some g -> ¬No2 g
theorem AP.below {w:World}{No2:Nat->Prop}{x:Int}{v':Value}{W W':World}(h:AP w base mb N key kl No No2 x v' W)(hb:Below W.heap.size W W') : AP w base mb N key kl No No2 x v' W' := by
 obtain⟨W2,u,zs,D,h0,h1,h2,h3,h4,h5,h6,h7,h8,h9,h10⟩:=h;exact⟨W2,u,zs,D,h0,h1,h2,h3,h4,h5,h6,h7.trans (qAC hb _),h8.kept (qAC hb none) (by cases v'.ownBlock<;>simp),h9,h10⟩
def RelN (w:World)(base:Nat)(No:Nat->Prop)(a b:World) : Prop := ∃row : Option Nat,(∀j,row=some j->base<=j /\ ¬No j)/\a.grownBy b row
theorem RelN.two {w b c:World}(h:RelN w base No w b)(hb:Below b.heap.size b c) : RelN w base No w c := by
 obtain⟨row,h1,h2⟩:=h;exact⟨row,h1,h2.trans (qAC hb row)⟩
theorem RelN.three {w b c:World}(hb:Below w.heap.size w b)(h:RelN w base No b c) : RelN w base No w c := by
 obtain⟨row,h1,h2⟩:=h;exact⟨row,h1,(qAC hb row).trans h2⟩
theorem RelN.none_ {w a b:World}(h:RelN w base No a b)(h0:Below w.heap.size w a)(hr:∀g,¬No g->g<w.heap.size)(hb:Below w.heap.size w b) : Below a.heap.size a b := by
 obtain⟨row,h1,h2⟩:=h;refine⟨h2.os,h2.tape,h2.output,h2.size,fun k hk => ?_⟩;by_cases e:some k=row
 ·obtain⟨e1,e2⟩:=h1 k e.symm;have hl:=hr k e2;rw[hb.block k hl,h0.block k hl]
 ·exact h2.block k hk e
theorem qFU {w a b:World}(h:RelN w base No w a)(hab:Below a.heap.size a b)(hb:Below w.heap.size w b) : Below w.heap.size w a := by
 obtain⟨row,h1,h2⟩:=h;refine⟨h2.os,h2.tape,h2.output,h2.size,fun k hk => ?_⟩;rw[<- hb.block k hk,hab.block k (Nat.lt_of_lt_of_le hk h2.size)]
end
theorem qC5 {base:Nat}{No:Nat->Prop}{w W:World}(h:Below w.heap.size w W \/ RelN w base No w W){k:Nat}(hk:k<w.heap.size)(hne:k<base \/ No k) : W.heap[k]?=w.heap[k]? := by
 rcases h with h|⟨row,h1,h2⟩
 ·exact h.block k hk
 ·exact h2.block k hk fun e=>by
   obtain⟨e1,e2⟩:=h1 k e.symm;rcases hne with h|h
   ·omega
   ·exact e2 h
theorem qFN {base:Nat}{No:Nat->Prop}{w W:World}(h:Below w.heap.size w W \/ RelN w base No w W) : w.heap.size<=W.heap.size := by
 rcases h with h|⟨row,h1,h2⟩
 ·exact h.size
 ·exact h2.size
theorem qBG {b:Nat}{q:Pk}{W W':World}(h:qAJ b q W)(hb:W'.heap[b]?=W.heap[b]?)(hs:W.heap.size<=W'.heap.size) : qAJ b q W' := by
 obtain⟨⟨hl,c0,c1,c2,c3,c4,c5,c6,c7,c8,c9,c10,c11,c12,c13,c14⟩,hf,hlt⟩:=h;have k:∀i,W'.cell? ⟨b,i,none⟩=W.cell? ⟨b,i,none⟩:=fun i=>World.cell?_of_block (w:=W) (a:=⟨b,i,none⟩) hb;exact⟨⟨Nat.lt_of_lt_of_le hl hs,(k 0).trans c0,(k 1).trans c1,(k 2).trans c2,(k 3).trans c3,(k 4).trans c4,(k 5).trans c5,(k 6).trans c6,(k 7).trans c7,(k 8).trans c8,(k 9).trans c9,(k 10).trans c10,(k 11).trans c11,(k 12).trans c12,(k 13).trans c13,(k 14).trans c14⟩,fun i hi=>(World.frozen?_of_block (w:=W) (a:=⟨b,i,none⟩) hb).trans (hf i hi),Nat.lt_of_lt_of_le hlt hs⟩
theorem qDM {α:Type}{enc:α->List Value}{size B g o c:Nat}{D:List α}{W W':World}(h:Rd enc size B (some ⟨g,o,none⟩) c D W)(hb:W'.heap[g]?=W.heap[g]?){B':Nat}(hB:B<=B') : Rd enc size B' (some ⟨g,o,none⟩) c D W' := by
 refine⟨h.1,h.2.1,fun k hk => ?_⟩;obtain⟨b,o',e,hlt,hc⟩:=h.2.2 k hk;cases e
 exact⟨g,o,rfl,Nat.lt_of_lt_of_le hlt hB,fun j u hu=>(World.cell?_of_block (w:=W) hb).trans (hc j u hu)⟩
theorem qDD {w:World}{b:Nat}{No No':Nat->Prop}(h:w.Shuns b No)(hn:∀g,No' g->No g) : w.Shuns b No' := fun es clock hb x hx g hg hN=>h es clock hb x hx g hg (hn g hN)
def encI (z:Int) : List Value := [.int .i64 z]
theorem qAZ (z:Int) : (encI z).length=1 := rfl
theorem qBW (z:Int):∀u∈encI z,u.oneCell'=true := by
 intro u hu;simp only[encI,List.mem_cons,List.not_mem_nil,or_false]at hu;rw[hu];rfl
theorem AP.mk {w W w9:World}{base mb N:Nat}{key:ByteArray}{kl:Lit}{No No2:Nat->Prop}{x:Int}{u v':Value}{zs:List Int}{D:DataW Unit}(h0:Below w.heap.size w W)(h1:W.ownsGroups Tryz.prog 9 base 3 .i64 mb N D)(h2:W.ownsInts base 3 .i64 u zs)(h3:zs.length<=N)(h4:W.groupBack Tryz.prog 122 9 base 3 .i64 mb N D (.string key) kl u)(h5:W.Shuns mb No)(h6:∀g,u.ownBlock=some g -> ¬No g)
  (hN2:∀g,No2 g->No g) (hN3:∀g,No2 g->g<w.heap.size) (hx:(Lit.int .i64 x).wf=true)
  (ho:w9.ownsRow base 3 1 v' (zs.length+[x].length) (zs.map (Value.int .i64)++[x].flatMap encI)) (hg:W.grownBy w9 u.ownBlock) (hl:v'.ownBlock=u.ownBlock \/ v'.ownBlock=some W.heap.size):AP w base mb N key kl No No2 x v' w9:=by
 refine⟨W,u,zs,D,h0,h1,h2,h3,h4,h5,h6,hg,h2.appended (by simpa [encI] using ho) hx,hl.imp id fun e=>⟨_,e,Nat.le_refl _⟩,fun g e hn => ?_⟩;rcases hl with e2|e2
 ·exact h6 g (by rw[<- e2];exact e) (hN2 g hn)
 ·rw[e2]at e;cases e;have:=hN3 _ hn;have:=h0.size;omega
section
variable {α:Type}{enc:α->List Value}(w:World)
theorem qAM {P:Program}{o:Oper}{a:Act}{K:Act->World->Prop}{Q:Exit->Act->World->Prop}(s x:Operand)(t:TypeId)
  (ho:o.op=.call { callee:=.builtin .append,args:=#[s,x],argTypes:=#[t,t] })
  (base:Nat) (e:TypeId) (i:TypeInfo) (z:Value) (size bytes:Nat) (ht:P.underlying t=some (.slice e)) (hi:P.info? e=some i) (hz:i.zero=some z) (hsize:i.size=size) (hby:i.bytes=bytes) (hzc:z.cells.size=size) (hs0:0<size)
  (he:∀x,(enc x).length=size) (h1:∀x,∀u∈enc x,u.oneCell'=true)
  (v:Value) (n:Nat) (xs:List Value) (hs:a.eval s=v) (hown:w.ownsRow base e size v n xs) (B:Nat) (A:Option Addr) (c:Nat) (D:List α) (m:Nat) (hm:m=D.length) (hx:a.eval x=.slice A m c) (hT:Rd enc size B A c D w) (hn:n+D.length<=1000000) (hbytes:bytes<=1000) (hbase:base<=w.heap.size)
  (h:∀v' w',w'.ownsRow base e size v' (n+D.length) (xs++D.flatMap enc)->w.grownBy w' v.ownBlock->(v'.ownBlock=v.ownBlock \/ v'.ownBlock=some w.heap.size)->K (a.put o.dst v') w'):Oper.wp P o a w K Q:=by
 subst hm;obtain⟨v',w',hrun,r1,r2,r3⟩:=qCX (P:=P) w base t o.type e i z size bytes ht hi hz hsize hby hzc hs0 he h1 v n xs hown B A c D hT hn hbytes hbase;unfold Oper.wp;simp[execOp,ho,resolve,invoke,builtin,hs,hx,hrun,Result.andThen];exact h v' w' r1 r2 r3
theorem qG5 {o:Oper}{a:Act}{K:Act->World->Prop}{Q:Exit->Act->World->Prop}(m x:Operand)(hop:o.op=Op.lookup 122 m x false){base mb N:Nat}{key:ByteArray}{No:Nat->Prop}(hm:a.eval m=.map (some mb))(hx:a.eval x=.string key)(hk:key.size<=maxLen)(hN:N<maxLen)
  (hg:qXZ base mb N w) (hs:w.Shuns mb No) (h:∀u,LK base mb N key (.string key.data.toList) No u w->K (a.put o.dst u) w):Oper.wp Tryz.prog o a w K Q:=by
 obtain⟨D,hD⟩:=hg;have KS:=Maps.string_keyed (P:=Tryz.prog) (k:=9) Tryz.underlying9;obtain⟨u,zs,hrun,hat,hoi,hzl,hback⟩:=hD.at KS Tryz.underlying122 rfl hN (WideMaps.keyOf_string_mk (P:=Tryz.prog) Tryz.underlying9 hk);have hsh:∀g,u.ownBlock=some g -> ¬No g:=by
  obtain⟨es,clock,hb,F,_⟩:=hD;rcases Maps.fit_look false KS Tryz.underlying122 rfl hb F (WideMaps.keyOf_string_mk (P:=Tryz.prog) Tryz.underlying9 hk) with⟨hrun',_,_⟩|⟨e0,y,hm0,_,hrun',_,_,_⟩
  ·rw[hrun]at hrun';obtain rfl:u=.slice none 0 0:=by simpa using hrun'
   intro g hg';cases hg'
  ·rw[hrun]at hrun';obtain rfl:u=e0.val:=by simpa using hrun'
   exact fun g hg'=>hs es clock hb e0 hm0 g hg'
 unfold Oper.wp;simp[execOp,hop,hm,hx,hrun,Result.andThen];exact h u ⟨zs,D,hD,hoi,hzl,hback,hs,hsh⟩
end
end
section
open Go.RowKit Go.Shelf Go.Maps Go.ChangeShapes
def qW7 : DataW Unit->List (DataW Unit)
 | .slice l _=>l
 | _=>[]
theorem qHF {w:World}{base:Nat}{e:TypeId}{q:IntKind}{v:Value}{zs:List Int}(h:w.ownsInts base e q v zs) : qW7 (rowDatum q v zs)=lits q zs := by
 rcases h.datum (H:=Unit) with⟨h1,rfl⟩|h1
 iterate 2 ·rw[h1];rfl
theorem qUD {q:IntKind}{a b:List Int}(h:lits (H := Unit) q a=lits q b) : a=b :=
 (List.map_inj_right (fun x y hxy=>by cases hxy;rfl)).1 h
def Says (D:DataW Unit)(f:ByteArray->List Int) : Prop := IsMap D /\ ∀s : ByteArray,qW7 (D.atKey (.string s.data.toList) .nil)=lits .i64 (f s)
def addF (f:ByteArray->List Int)(key:ByteArray)(x:Int) : ByteArray->List Int := fun s=>if s=key then f s++[x] else f s
theorem qP6 : Says (.map []) fun _=>[] := ⟨isMap_empty,fun _=>rfl⟩
theorem qWC {a b:ByteArray}(h:a≠b) : (Lit.string a.data.toList) ≠ .string b.data.toList := fun e=>by
 have e2:a.data.toList=b.data.toList:=by injection e
 exact h (by cases a;cases b;simp only at e2;exact congrArg ByteArray.mk (Array.toList_inj.1 e2))
theorem Says.put {D:DataW Unit}{f:ByteArray->List Int}{key:ByteArray}{x:Int}{w:World}{base:Nat}{e:TypeId}{v:Value}(h:Says D f)(ho:w.ownsInts base e .i64 v (f key++[x])) : Says (D.put (.string key.data.toList) (rowDatum .i64 v (f key++[x]))) (addF f key x) := by
 refine⟨h.1.put _ _,fun s => ?_⟩;by_cases e:s=key
 ·subst e;rw[atKey_put_same (k:=.string s.data.toList) h.1 trivial,qHF ho];simp[addF]
 ·rw[atKey_put_other (qWC e),h.2 s];simp[addF,e]
theorem Says.at_ {D:DataW Unit}{f:ByteArray->List Int}{key:ByteArray}{w:World}{base:Nat}{e:TypeId}{v:Value}{zs:List Int}(h:Says D f)(ho:w.ownsInts base e .i64 v zs)(hat:D.atKey (.string key.data.toList) .nil=rowDatum .i64 v zs) : zs=f key := by
 have:=h.2 key;rw[hat,qHF ho]at this;exact qUD this
section
variable {base mb N:Nat}{f:ByteArray->List Int}{key:ByteArray}{No:Nat->Prop}
def LKf (base mb N:Nat)(f:ByteArray->List Int)(key:ByteArray)(No:Nat->Prop)(u:Value)(W:World) : Prop :=
 ∃D:DataW Unit,W.ownsGroups Tryz.prog 9 base 3 .i64 mb N D/\Says D f/\W.ownsInts base 3 .i64 u (f key)/\(f key).length<=N/\W.groupBack Tryz.prog 122 9 base 3 .i64 mb N D (.string key) (.string key.data.toList) u/\W.Shuns mb No /\ ∀g,u.ownBlock=some g -> ¬No g
theorem LKf.below {u:Value}{W W':World}(h:LKf base mb N f key No u W)(hb:Below W.heap.size W W') : LKf base mb N f key No u W' := by
 obtain⟨D,h1,hs,h2,h3,h4,h5,h6⟩:=h;have hg:=qAC hb none;have hm:mb<W.heap.size:=by
  obtain⟨es,clock,hh,_⟩:=h1;exact (Array.getElem?_eq_some_iff.1 hh).1
 refine⟨D,h1.kept hg (by simp) (h5.rowsOff (by simp)),hs,h2.kept hg (by
  cases u.ownBlock<;>simp),h3,fun w1 v' zs' k1 k2 k3 k4=>h4 w1 v' zs' ((qAC hb u.ownBlock).trans k1) k2 k3 (k4.imp id fun⟨g,e,hge⟩=>⟨g,e,Nat.le_trans hb.size hge⟩),h5.kept hg hm (by simp),h6⟩
def APf (w:World)(base mb N:Nat)(f:ByteArray->List Int)(key:ByteArray)(No No2:Nat->Prop)(x:Int)(v':Value)(W:World) : Prop :=
 ∃(W2:World) (u:Value),Below w.heap.size w W2/\LKf base mb N f key No u W2/\W2.grownBy W u.ownBlock/\W.ownsInts base 3 .i64 v' (f key++[x])/\(v'.ownBlock=u.ownBlock \/ ∃g,v'.ownBlock=some g/\W2.heap.size<=g) /\ ∀g,v'.ownBlock=some g -> ¬No2 g
theorem APf.below {w:World}{No2:Nat->Prop}{x:Int}{v':Value}{W W':World}(h:APf w base mb N f key No No2 x v' W)(hb:Below W.heap.size W W') : APf w base mb N f key No No2 x v' W' := by
 obtain⟨W2,u,h0,h1,h7,h8,h9,h10⟩:=h;exact⟨W2,u,h0,h1,h7.trans (qAC hb _),h8.kept (qAC hb none) (by cases v'.ownBlock<;>simp),h9,h10⟩
theorem APf.mk {w W w9:World}{No2:Nat->Prop}{x:Int}{u v':Value}(h0:Below w.heap.size w W)(h1:LKf base mb N f key No u W)
  (hN2:∀g,No2 g->No g) (hN3:∀g,No2 g->g<w.heap.size) (hx:(Lit.int .i64 x).wf=true)
  (ho:w9.ownsRow base 3 1 v' ((f key).length+[x].length) ((f key).map (Value.int .i64)++[x].flatMap encI)) (hg:W.grownBy w9 u.ownBlock) (hl:v'.ownBlock=u.ownBlock \/ v'.ownBlock=some W.heap.size):APf w base mb N f key No No2 x v' w9:=by
 have h1':=h1;obtain⟨D,k1,ks,k2,k3,k4,k5,k6⟩:=h1;refine⟨W,u,h0,h1',hg,k2.appended (by simpa [encI] using ho) hx,hl.imp id fun e=>⟨_,e,Nat.le_refl _⟩,fun g e hn => ?_⟩;rcases hl with e2|e2
 ·exact k6 g (by rw[<- e2];exact e) (hN2 g hn)
 ·rw[e2]at e;cases e;have:=hN3 _ hn;have:=h0.size;omega
end
def Grp (base mb N:Nat)(f:ByteArray->List Int)(W:World) : Prop := ∃D,W.ownsGroups (H := Unit) Tryz.prog 9 base 3 .i64 mb N D/\Says D f
section
variable (w:World)
theorem qBL {base mb N:Nat}{f:ByteArray->List Int}{o:Oper}{a:Act}{K:Act->World->Prop}{Q:Exit->Act->World->Prop}(m x:Operand)(hop:o.op=Op.lookup 122 m x false){key:ByteArray}{No:Nat->Prop}(hm:a.eval m=.map (some mb))(hx:a.eval x=.string key)(hk:key.size<=maxLen)(hN:N<maxLen)
  (hg:Grp base mb N f w) (hs:w.Shuns mb No) (h:∀u,LKf base mb N f key No u w->K (a.put o.dst u) w):Oper.wp Tryz.prog o a w K Q:=by
 obtain⟨D,hD,hS⟩:=hg;have KS:=Maps.string_keyed (P:=Tryz.prog) (k:=9) Tryz.underlying9;obtain⟨u,zs,hrun,hat,hoi,hzl,hback⟩:=hD.at KS Tryz.underlying122 rfl hN (WideMaps.keyOf_string_mk (P:=Tryz.prog) Tryz.underlying9 hk);obtain rfl:=hS.at_ hoi hat;have hsh:∀g,u.ownBlock=some g -> ¬No g:=by
  obtain⟨es,clock,hb,F,_⟩:=hD;rcases Maps.fit_look false KS Tryz.underlying122 rfl hb F (WideMaps.keyOf_string_mk (P:=Tryz.prog) Tryz.underlying9 hk) with⟨hrun',_,_⟩|⟨e0,y,hm0,_,hrun',_,_,_⟩
  ·rw[hrun]at hrun';obtain rfl:u=.slice none 0 0:=by simpa using hrun'
   intro g hg';cases hg'
  ·rw[hrun]at hrun';obtain rfl:u=e0.val:=by simpa using hrun'
   exact fun g hg'=>hs es clock hb e0 hm0 g hg'
 unfold Oper.wp;simp[execOp,hop,hm,hx,hrun,Result.andThen];exact h u ⟨D,hD,hS,hoi,hzl,hback,hs,hsh⟩
end
def R3 (i:Nat) : Prop := 1<=i/\i<=3
structure IxSt (w0:World)(X:Nat)(m:Nat->Nat)(base N:Nat)(L:List Pk)(f:Nat->ByteArray->List Int)(col:Nat->Nat)(v:Value)(W:World) : Prop where
 old:Below w0.heap.size w0 W
 loX:w0.heap.size<=X
 hX:X<base
 loM:∀i,R3 i->w0.heap.size<=m i
 hM:∀i,R3 i->m i<base
 neX:∀i,R3 i->m i≠X
 neM:∀i j,R3 i->R3 j->i≠j->m i≠m j
 hb:base<=W.heap.size
 c0:W.cell? ⟨X,0,none⟩=some v
 cm:∀i,R3 i->W.cell? ⟨X,i,none⟩=some (.map (some (m i)))
 fz:W.frozen? ⟨X,0,none⟩=false
 own:Own Pk.cells 15 base 28 v L W
 hang:∀q∈L,Hangs (fun b=>col b=5) q W
 row:∀g,v.ownBlock=some g->col g=4
 dom:∀b,col b≠0->base<=b/\b<W.heap.size
 grp:∀i,R3 i->Grp base (m i) N (f i) W
 shun:∀i,R3 i->W.Shuns (m i) (fun b=>col b≠i)
section
variable {w0:World}{X base N:Nat}{m:Nat->Nat}{L:List Pk}{f:Nat->ByteArray->List Int}{col:Nat->Nat}{v:Value}{W W':World}
theorem IxSt.then (h:IxSt w0 X m base N L f col v W)(hb:Below W.heap.size W W') : IxSt w0 X m base N L f col v W' := by
 have hX:X<W.heap.size:=Nat.lt_of_lt_of_le h.hX h.hb;have hM:∀i,R3 i->m i<W.heap.size:=fun i hi=>Nat.lt_of_lt_of_le (h.hM i hi) h.hb;have hg:=qAC hb none
 exact { h with
  old:=h.old.trans (hb.mono h.old.size)
  hb:=Nat.le_trans h.hb hb.size
  c0:=(hb.cell (p:=⟨X,0,none⟩) hX).trans h.c0
  cm:=fun i hi=>(hb.cell (p:=⟨X,i,none⟩) hX).trans (h.cm i hi)
  fz:=(hb.frozen (p:=⟨X,0,none⟩) hX).trans h.fz
  own:=qAP h.own lR fun g hg=>hb.block g (World.ownsRow.lt h.own g hg).2
  hang:=fun x hx=>(h.hang x hx).keep hb.size (fun b hq=>hb.block b (h.dom b (by rw[hq];decide)).2) (fun _ hq=>hq) fun b hq=>Nat.lt_of_lt_of_le (h.dom b (by rw[hq];decide)).2 hb.size
  dom:=fun g hg=>⟨(h.dom g hg).1,Nat.lt_of_lt_of_le (h.dom g hg).2 hb.size⟩
  grp:=fun i hi=>by
   obtain⟨D,hD,hS⟩:=h.grp i hi;exact⟨D,hD.kept hg (by simp) ((h.shun i hi).rowsOff (by simp)),hS⟩
  shun:=fun i hi=>(h.shun i hi).kept hg (hM i hi) (by simp) }
def colU (col:Nat->Nat)(i:Nat)(v':Value) : Nat->Nat := fun b=>if v'.ownBlock=some b then i else col b
theorem qU0 {mb N':Nat}{g:ByteArray->List Int}(h:Grp base mb N g W)(hN:N<=N') : Grp base mb N' g W := by
 obtain⟨D,⟨es,clock,h1,h2,h3,h4,h5,h6,h7⟩,hS⟩:=h;exact⟨D,⟨es,clock,h1,h2,Nat.le_trans h3 hN,h4,h5,fun x hx zs hz=>Nat.le_trans (h6 x hx zs hz) hN,h7⟩,hS⟩
theorem IxSt.named {i:Nat}{row:Option Nat}{D:DataW Unit}{f':ByteArray->List Int}{v':Value}{w1:World}(h:IxSt w0 X m base N L f col v W)(hi:R3 i)(hr:∀j,row=some j->base<=j/\col j=i)(h1:W.grownBy w1 row)(h2:w1.grownBy W' (some (m i)))
  (hv:∀g,v'.ownBlock=some g->base<=g/\g<W'.heap.size/\(row=some g \/ W.heap.size<=g)) (hD:W'.ownsGroups (H:=Unit) Tryz.prog 9 base 3 .i64 (m i) (N+1) D) (hS:Says D f') (hs:W'.Shuns (m i) (fun b=>colU col i v' b≠i)) :
  IxSt w0 X m base (N+1) L (fun j=>if j=i then f' else f j) (colU col i v') v W':=by
 have hX:X<W.heap.size:=Nat.lt_of_lt_of_le h.hX h.hb;have hM:∀j,R3 j->m j<W.heap.size:=fun j hj=>Nat.lt_of_lt_of_le (h.hM j hj) h.hb;have blk:∀k,k<W.heap.size->some k≠row->k≠m i->W'.heap[k]?=W.heap[k]?:=fun k hk hr hm=>(h2.block k (Nat.lt_of_lt_of_le hk h1.size) (fun e=>hm (Option.some.inj e))).trans (h1.block k hk hr);have hsz:W.heap.size<=W'.heap.size:=Nat.le_trans h1.size h2.size;have pX:W'.heap[X]?=W.heap[X]?:=blk X hX (fun e=>by have:=(hr X e.symm).1;have:=h.hX;omega) (fun e=>h.neX i hi e.symm);have hg0:Below w0.heap.size w0 W':=(h.old.grown h1 h.old.size (fun k e=>Nat.le_trans h.loX (Nat.le_of_lt (Nat.lt_of_lt_of_le h.hX (hr k e).1)))).grown h2 (Nat.le_trans h.old.size h1.size) (fun k e=>by cases e;exact h.loM i hi);have i3:i<=3:=hi.2;have i1:1<=i:=hi.1;have cno:∀b,col b≠0->col b≠i->colU col i v' b=col b:=fun b hb hbi=>by
  unfold colU;split
  ·rename_i e
   rcases (hv b e).2.2 with e2|e2
   ·exact absurd (hr b e2).2 hbi
   ·have:=(h.dom b hb).2;omega
  ·rfl
 have keep:∀b,col b≠0->col b≠i->W'.heap[b]?=W.heap[b]?:=fun b hb hbi=>blk b (h.dom b hb).2 (fun e=>hbi (hr b e.symm).2) (fun e=>by have:=(h.dom b hb).1;have:=h.hM i hi;omega)
 exact { h with
  old:=hg0
  hb:=Nat.le_trans h.hb hsz
  c0:=(World.cell?_of_block (w:=W) (a:=⟨X,0,none⟩) pX).trans h.c0
  cm:=fun j hj=>(World.cell?_of_block (w:=W) (a:=⟨X,j,none⟩) pX).trans (h.cm j hj)
  fz:=(World.frozen?_of_block (w:=W) (a:=⟨X,0,none⟩) pX).trans h.fz
  own:=qAP h.own lR fun g hg=>keep g (by rw[h.row g hg];decide) (by rw[h.row g hg];omega)
  hang:=fun x hx=>(h.hang x hx).keep hsz (fun b hq=>keep b (by rw[hq];decide) (by rw[hq];omega)) (fun b hq=>by rw[cno b (by rw[hq];decide) (by rw[hq];omega)];exact hq) fun b hq=>by
   unfold colU at hq;split at hq
   ·omega
   ·exact Nat.lt_of_lt_of_le (h.dom b (by rw[hq];decide)).2 hsz
  row:=fun g hg=>by rw[cno g (by rw[h.row g hg];decide) (by rw[h.row g hg];omega)];exact h.row g hg
  dom:=fun b hb=>by
   unfold colU at hb;split at hb
   ·rename_i e;exact⟨(hv b e).1,(hv b e).2.1⟩
   ·exact⟨(h.dom b hb).1,Nat.lt_of_lt_of_le (h.dom b hb).2 hsz⟩
  grp:=fun j hj=>by
   by_cases e:j=i
   ·subst e;rw[if_pos rfl];exact⟨D,hD,hS⟩
   ·rw[if_neg e];obtain⟨Dj,hDj,hSj⟩:=qU0 (h.grp j hj) (Nat.le_succ N);have n1:some (m j)≠row:=fun e2=>by have:=(hr _ e2.symm).1;have:=h.hM j hj;omega
    exact⟨Dj,(hDj.kept h1 n1 ((h.shun j hj).rowsOff fun b hb=>by rw[(hr b hb).2];exact fun e2=>e e2.symm)).kept h2 (fun e2=>h.neM j i hj hi e (Option.some.inj e2)) (by
     have q:=hDj.kept h1 n1 ((h.shun j hj).rowsOff fun b hb=>by rw[(hr b hb).2];exact fun e2=>e e2.symm);exact q.rowsAbove fun b hb=>by cases hb;exact h.hM i hi),hSj⟩
  shun:=fun j hj=>by
   by_cases e:j=i
   ·subst e;exact hs
   ·have n1:some (m j)≠row:=fun e2=>by have:=(hr _ e2.symm).1;have:=h.hM j hj;omega
    obtain⟨Dj,hDj,hSj⟩:=h.grp j hj;have q:W.Shuns (m j) (fun b=>colU col i v' b≠j):=(h.shun j hj).reno hDj fun b hb=>by
     unfold colU at hb;split at hb
     ·rename_i e2
      rcases (hv b e2).2.2 with e3|e3
      ·exact .inl (by rw[(hr b e3).2];exact fun e4=>e e4.symm)
      ·exact .inr e3
     ·exact .inl hb
    exact (q.kept h1 (hM j hj) n1).kept h2 (Nat.lt_of_lt_of_le (hM j hj) h1.size) (fun e2=>h.neM j i hj hi e (Option.some.inj e2)) }
def colR (col:Nat->Nat)(lo hi:Nat)(v':Value) : Nat->Nat := fun b=>if v'.ownBlock=some b then 4 else if lo<=b/\b<hi then 5 else col b
theorem IxSt.more {w1:World}{q:Pk}{lo hi:Nat}{v':Value}(h:IxSt w0 X m base N L f col v W)(h1:W.grownBy w1 v.ownBlock)(ho:Own Pk.cells 15 base 28 v' (L++[q]) w1)(hq:Hangs (fun b=>lo<=b/\b<hi) q w1)(hlo:base<=lo)(hhi:hi<=W.heap.size)(hfree:∀b,lo<=b->col b=0)
  (hl:v'.ownBlock=v.ownBlock \/ ∃g,v'.ownBlock=some g/\W.heap.size<=g):IxSt w0 X m base N (L++[q]) f (colR col lo hi v') v' (w1.setCell ⟨X,0,none⟩ v'):=by
 have hX:X<W.heap.size:=Nat.lt_of_lt_of_le h.hX h.hb;have hM:∀j,R3 j->m j<W.heap.size:=fun j hj=>Nat.lt_of_lt_of_le (h.hM j hj) h.hb;have hrow:∀g,v.ownBlock=some g->base<=g/\g<W.heap.size:=World.ownsRow.lt h.own;have hsz:(w1.setCell ⟨X,0,none⟩ v').heap.size=w1.heap.size:=by simp[World.setCell]
 have hs1:∀b,b≠X->(w1.setCell ⟨X,0,none⟩ v').heap[b]?=w1.heap[b]?:=fun b hb=>Below.heap_setCell _ _ _ _ hb;have blk:∀k,k<W.heap.size->v.ownBlock≠some k->k≠X->(w1.setCell ⟨X,0,none⟩ v').heap[k]?=W.heap[k]?:=fun k hk hr hp=>(hs1 k hp).trans (h1.block k hk (fun e=>hr e.symm));have pX:w1.heap[X]?=W.heap[X]?:=h1.block X hX (fun e=>by have:=(hrow X e.symm).1;have:=h.hX;omega);have gX:w1.grownBy (w1.setCell ⟨X,0,none⟩ v') (some X):=⟨rfl,rfl,rfl,Nat.le_of_eq hsz.symm,fun k _ hk=>hs1 k (fun e=>hk (by rw[e]))⟩;have cX:∀i,(w1.cell? ⟨X,i,none⟩=W.cell? ⟨X,i,none⟩):=fun i=>World.cell?_of_block (w:=W) (a:=⟨X,i,none⟩) pX;have mne:∀j,R3 j->some (m j)≠v.ownBlock:=fun j hj e=>by have:=(hrow _ e.symm).1;have:=h.hM j hj;omega
 have v4:∀g,v'.ownBlock=some g->(col g=4 \/ W.heap.size<=g):=fun g hg=>by
  rcases hl with e|⟨g',e,hge⟩
  ·exact .inl (h.row g (by rw[<- e];exact hg))
  ·rw[e]at hg;cases hg;exact .inr hge
 refine⟨(h.old.grown h1 h.old.size (fun k e=>Nat.le_trans h.loX (Nat.le_of_lt (Nat.lt_of_lt_of_le h.hX (hrow k e).1)))).setCell (p:=⟨X,0,none⟩) h.loX v',h.loX,h.hX,h.loM,h.hM,h.neX,h.neM,by rw[hsz];exact Nat.le_trans h.hb h1.size,qAY ((cX 0).trans h.c0),fun j hj=>(qA0 (by have:=hj.1;intro e;simp only[Addr.mk.injEq]at e;omega)).trans ((cX j).trans (h.cm j hj)),?_,?_,fun x hx => ?_,fun g hg => ?_,fun b hb => ?_,fun j hj => ?_,fun j hj => ?_⟩
 ·rw[World.frozen?_setCell];exact (World.frozen?_of_block (w:=W) (a:=⟨X,0,none⟩) pX).trans h.fz
 ·exact qAP ho lR fun g hg=>hs1 g (fun e=>by have:=(World.ownsRow.lt ho g hg).1;have:=h.hX;omega)
 ·have lt5:∀b,colR col lo hi v' b=5->b<(w1.setCell ⟨X,0,none⟩ v').heap.size:=fun b hb=>by
   rw[hsz];unfold colR at hb;split at hb
   ·omega
   ·split at hb
    ·rename_i e;have:=h1.size;omega
    ·exact Nat.lt_of_lt_of_le (h.dom b (by rw[hb];decide)).2 h1.size
  rcases List.mem_append.1 hx with hx|hx
  ·refine (h.hang x hx).keep (by rw[hsz];exact h1.size) (fun b hb=>blk b (h.dom b (by rw[hb];decide)).2 (fun e=>by have:=h.row b e;omega) (fun e=>by have:=(h.dom b (by rw[hb];decide)).1;have:=h.hX;omega)) (fun b hb => ?_) lt5;unfold colR;split
   ·rename_i e
    rcases v4 b e with h4|h4
    ·omega
    ·have:=(h.dom b (by rw[hb];decide)).2;omega
   ·split
    ·rfl
    ·exact hb
  ·simp at hx;subst hx;refine hq.keep (by rw[hsz];exact Nat.le_refl _) (fun b hb=>hs1 b (fun e=>by have:=h.hX;omega)) (fun b hb => ?_) lt5;unfold colR;split
   ·rename_i e
    rcases v4 b e with h4|h4
    ·have:=hfree b hb.1;omega
    ·omega
   ·first|rfl|rw[if_pos hb]
 ·unfold colR;rw[if_pos hg]
 ·rw[hsz];unfold colR at hb;split at hb
  ·rename_i e;exact World.ownsRow.lt ho b e
  ·split at hb
   ·rename_i e;exact⟨Nat.le_trans hlo e.1,by have:=h1.size;omega⟩
   ·exact⟨(h.dom b hb).1,Nat.lt_of_lt_of_le (h.dom b hb).2 h1.size⟩
 ·obtain⟨D,hD,hS⟩:=h.grp j hj;have q1:=hD.kept h1 (mne j hj) ((h.shun j hj).rowsOff fun b hb=>by rw[h.row b hb];have:=hj.2;omega);exact⟨D,q1.kept gX (fun e=>h.neX j hj (Option.some.inj e)) (q1.rowsAbove fun b hb=>by cases hb;exact h.hX),hS⟩
 ·obtain⟨D,hD,hS⟩:=h.grp j hj;have q:W.Shuns (m j) (fun b=>colR col lo hi v' b≠j):=(h.shun j hj).reno hD fun b hb=>by
   have:=hj.2;unfold colR at hb;split at hb
   ·rename_i e
    rcases v4 b e with h4|h4
    ·exact .inl (by omega)
    ·exact .inr h4
   ·split at hb
    ·rename_i e;exact .inl (by rw[hfree b e.1];have:=hj.1;omega)
    ·exact .inl hb
  exact (q.kept h1 (hM j hj) (mne j hj)).kept gX (Nat.lt_of_lt_of_le (hM j hj) h1.size) (fun e=>h.neX j hj (Option.some.inj e))
end
structure IndexAt (X:Nat)(L:List Pk)(f:ByteArray->List Int)(W:World) : Prop where
 lt:X<W.heap.size
 row:∃A c,W.cell? ⟨X,0,none⟩=some (.slice A L.length c)/\Rd Pk.cells 15 W.heap.size A c L W
 laid:∀q∈L,q.Laid W.heap.size W
 grp:∃mb base N,mb<W.heap.size/\N<maxLen/\W.cell? ⟨X,1,none⟩=some (.map (some mb))/\Grp base mb N f W
theorem Grp.then {base mb N:Nat}{f:ByteArray->List Int}{W W':World}(h:Grp base mb N f W)(hb:Below W.heap.size W W') : Grp base mb N f W' := by
 obtain⟨D,hD,hS⟩:=h;have hr:=hD;obtain⟨es,clock,hh,F,hrest⟩:=hr;refine⟨D,hD.kept (qAC hb none) (by simp) fun es clock hes x hx => ?_,hS⟩
 cases x.val.ownBlock with
 | none=>exact .inl rfl
 | some g=>exact .inr (by simp)
theorem IndexAt.then {X:Nat}{L:List Pk}{f:ByteArray->List Int}{W W':World}(h:IndexAt X L f W)(hb:Below W.heap.size W W') : IndexAt X L f W' := by
 obtain⟨A,c,h0,hr⟩:=h.row;obtain⟨mb,base,N,h1,h2,h3,h4⟩:=h.grp;exact⟨Nat.lt_of_lt_of_le h.lt hb.size,⟨A,c,(hb.cell (p:=⟨X,0,none⟩) h.lt).trans h0,(hr.below hb).more hb.size⟩,fun x hx=>(h.laid x hx).calls hb,⟨mb,base,N,Nat.lt_of_lt_of_le h1 hb.size,h2,(hb.cell (p:=⟨X,1,none⟩) h.lt).trans h3,h4.then hb⟩⟩
theorem IxSt.at_ {w0:World}{X base N:Nat}{m:Nat->Nat}{L:List Pk}{f:Nat->ByteArray->List Int}{col:Nat->Nat}{v:Value}{W:World}(h:IxSt w0 X m base N L f col v W)(hN:N<maxLen) : IndexAt X L (f 1) W := by
 obtain⟨A,c,e,hr⟩:=h.own.rd (fun x=>by rfl);exact⟨Nat.lt_of_lt_of_le h.hX h.hb,⟨A,c,e ▸ h.c0,hr⟩,fun x hx=>(h.hang x hx).now,⟨m 1,base,N,Nat.lt_of_lt_of_le (h.hM 1 ⟨by decide,by decide⟩) h.hb,hN,h.cm 1 ⟨by decide,by decide⟩,h.grp 1 ⟨by decide,by decide⟩⟩⟩
