/- RegInv7, TrTellM -/
import Derived.Test.YteobmfpbgnmffaaGreatDoorT32
set_option linter.unusedVariables false
set_option linter.unusedSimpArgs false
namespace Go.Proofs.YteobmfpbgnmffaaGreatDoor
section
open Go.RowKit Go.Shelf
section
variable {P:Program}{ops:Array Oper}{Q:Exit->Act->World->Prop}{md:Region.Mode}
theorem qH4 {PP:Option Nat->Nat->Value->World->Prop}{Bx By:Nat->World->Prop}{id:Nat}{a:Act}{w:World}(n sA s:Nat)(hm:P.follows .mixedOrders=true)(hb:qB0 .any ops=true)(ht:qBF n ops=true)(hn:((ops.toList.take n).map (·.dst)).Nodup)(hsz:n<=ops.size)(hsn:s<n)(hAn:sA<n)(hAs:sA≠s)
  (hdep:((ops[s]?).map fun o'=>o'.after.any fun e=>Region.binds .any e && e.on == sA).getD false=true)
  (hmono:∀og i v w' w'',i≠s->i≠sA->(∀g,og=some g->g<w'.heap.size)->PP og i v w'->Below w'.heap.size w' w''->PP og i v w'') (hmonoA:∀i v w' w'' g,i≠s->i≠sA->PP none i v w'->w'.heap.size<=g->Below w'.heap.size w' w''->PP (some g) i v w'') (hmonoS:∀i v w' w'' g,i≠s->i≠sA->PP (some g) i v w'->w.heap.size<=g->w'.grownBy w'' (some g)->PP (some g) i v w'')
  (hBx:∀g w' w'',Bx g w'->Below w'.heap.size w' w''->Bx g w'') (hBy:∀g w' w'',By g w'->Below w'.heap.size w' w''->By g w'') (vs0:Nat->Value) (h0:qA4 (ops.toList.take n) 0 vs0 a=a)
  (hstep:∀(i:Nat) (o:Oper) (og:Option Nat) (vs:Nat->Value) (w':World),i<n->i≠s->i≠sA->ops[i]?=some o->(∀g,og=some g->g<w'.heap.size)->(∀e∈o.after,Region.binds .any e=true->e.on≠s->e.on≠sA->PP og e.on (vs e.on) w')->Below w.heap.size w w' ->
   ∀K:Act->World->Prop,(∀v w'',PP og i v w''->Below w'.heap.size w' w''->K ((qA4 (ops.toList.take n) 0 vs a).put o.dst v) w'')->if Region.wanted o (yielded ops (qA4 (ops.toList.take n) 0 vs a).tmps)=true then Oper.wp P o (qA4 (ops.toList.take n) 0 vs a) w' K Q else K ((qA4 (ops.toList.take n) 0 vs a).put o.dst undef) w')
  (hstepA:∀(o:Oper) (vs:Nat->Value) (w':World),ops[sA]?=some o->Below w.heap.size w w' ->
   ∀K:Act->World->Prop,(∀g w'',w'.heap.size<=g->g<w''.heap.size->Bx g w''->Below w'.heap.size w' w''->K ((qA4 (ops.toList.take n) 0 vs a).put o.dst (.pointer (some ⟨g,0,none⟩))) w'')->if Region.wanted o (yielded ops (qA4 (ops.toList.take n) 0 vs a).tmps)=true then Oper.wp P o (qA4 (ops.toList.take n) 0 vs a) w' K Q else K ((qA4 (ops.toList.take n) 0 vs a).put o.dst undef) w')
  (hstepS:∀(o:Oper) (vs:Nat->Value) (w':World) (g:Nat),ops[s]?=some o->(∀e∈o.after,Region.binds .any e=true->e.on≠s->e.on≠sA->PP (some g) e.on (vs e.on) w')->vs sA=.pointer (some ⟨g,0,none⟩)->w.heap.size<=g->Bx g w'->Below w.heap.size w w' ->
   ∀K:Act->World->Prop,(∀v w'',By g w''->w'.grownBy w'' (some g)->K ((qA4 (ops.toList.take n) 0 vs a).put o.dst v) w'')->if Region.wanted o (yielded ops (qA4 (ops.toList.take n) 0 vs a).tmps)=true then Oper.wp P o (qA4 (ops.toList.take n) 0 vs a) w' K Q else K ((qA4 (ops.toList.take n) 0 vs a).put o.dst undef) w')
  (hrest:∀vs w' g,(∀i,i<n->i≠s->i≠sA->PP (some g) i (vs i) w')->vs sA=.pointer (some ⟨g,0,none⟩)->w.heap.size<=g->By g w'->Below w.heap.size w w'->wpList P ops Q (ops.toList.drop n) (qA4 (ops.toList.take n) 0 vs a) w'):(Code.region id ops true).wp P Q a w:=by
 let Clo:Array Bool->Prop:=fun listed => ∀j o,ops[j]?=some o->listed.getD j false=true -> ∀e∈o.after,Region.binds .any e=true->listed.getD e.on false=true
 refine wp_region_any hm (qC3 (J:=fun listed a' w'=>Clo listed/\((∃vs og,a'=qA4 (ops.toList.take n) 0 vs a/\(Below w.heap.size w w'/\(listed.getD sA false=false->og=none)/\(∀g,og=some g->g<w'.heap.size)/\(listed.getD sA false=true->listed.getD s false=false -> ∃g,og=some g/\vs sA=.pointer (some ⟨g,0,none⟩)/\w.heap.size<=g/\Bx g w')/\(listed.getD s false=true -> ∃g,og=some g/\vs sA=.pointer (some ⟨g,0,none⟩)/\w.heap.size<=g/\By g w'))/\(∀i,i<n->i≠s->i≠sA->listed.getD i false=true->PP og i (vs i) w') /\ ∀i,n<=i->listed.getD i false=false) \/ (∃m,n<m/\(∀i,i<ops.size->listed.getD i false=decide (i<m))/\m<=ops.size/\wpList P ops Q (ops.toList.drop m) a' w'))) hb ?_ ?_ _ _ _ _ (by simp) (by unfold qBX;exact Nat.le_trans (List.length_filter_le _ _) (by simp)) ?_)
 ·rintro i o listed a' w' hi ho hs hun he ⟨hc,hJ⟩ K hK;have hunl:listed.getD i false=false:=by
   have h3:i<listed.size:=by omega
   simp only[Array.getD,h3,dite_true]at hun |-;exact hun
  have hclo:Clo (listed.setIfInBounds i true):=by
   intro j o' ho' hj e hem hbd;rw[qAK]at hj |-;by_cases hji:i=j
   ·subst hji;rw[ho]at ho';cases ho'
    rw[he e hem hbd];rfl
   ·have hj2:listed.getD j false=true:=by simpa [hji] using hj
    rw[hc j o' ho' hj2 e hem hbd];rfl
  have nxt:∀m,m=i->n<=m->(∀j,j<ops.size->listed.getD j false=decide (j<m))->wpList P ops Q (ops.toList.drop m) a' w'->if Region.wanted o (yielded ops a'.tmps)=true then Oper.wp P o a' w' K Q \/ (o.asks P a' w'/\LetsOut Q) else K (a'.put o.dst undef) w':=by
   rintro m rfl hnm hl hw;have hd:ops.toList.drop m=o::ops.toList.drop (m+1):=by
    have h1:m<ops.toList.length:=by simpa using hi
    rw[List.drop_eq_getElem_cons h1]
    congr 1
    have:ops[m]=o:=by rw[Array.getElem?_eq_getElem hi]at ho;exact Option.some.inj ho
    simpa using this
   rw[hd]at hw
   have go:∀a2 w2,wpList P ops Q (ops.toList.drop (m+1)) a2 w2->K a2 w2:=fun a2 w2 h2=>hK a2 w2 ⟨hclo,.inr ⟨m+1,by omega,fun j hj=>by
    rw[qAK,hl j hj];by_cases h1:j<m
    ·simp[h1];omega
    ·by_cases h2:j=m
     ·subst h2;simp;omega
     ·have h3:¬m=j:=fun e=>h2 e.symm;simp[h1,h3];omega,by omega,h2⟩⟩
   unfold wpList at hw;split
   ·rename_i hwt
    rw[if_pos hwt]at hw;rcases hw with h1|h1
    ·exact .inl (Oper.wp_mono go h1)
    ·exact .inr h1
   ·rename_i hwt
    rw[if_neg hwt]at hw;exact go _ _ hw
  by_cases hin:i<n
  ·rcases hJ with⟨vs,og,rfl,hB,hP,hF⟩|⟨m,hm1,hl,_⟩
   ·have fill:∀v,(qA4 (ops.toList.take n) 0 vs a).put o.dst v=qA4 (ops.toList.take n) 0 (upd vs i v) a:=fun v=>by
     have:=qC4 (ops.toList.take n) 0 vs a i o v (by rw[List.getElem?_take];simp[hin];simpa using ho) hn;rw[this];simp
    have low:∀j,n<=j->(listed.setIfInBounds i true).getD j false=false:=fun j hj=>by
     rw[qAK,hF j hj];have:¬i=j:=by omega
     simp[this]
    have was:∀j,j≠i->(listed.setIfInBounds i true).getD j false=listed.getD j false:=fun j hj=>by
     rw[qAK];have:¬i=j:=fun e=>hj e.symm;simp[this]
    have now:(listed.setIfInBounds i true).getD i false=true:=by
     rw[qAK];have:i<listed.size:=by omega
     simp[this]
    have hed:∀e∈o.after,Region.binds .any e=true->e.on≠s->e.on≠sA->PP og e.on (vs e.on) w':=fun e hem hbd h1 h2=>hP _ (by have:=qEO hb hi ho hem hbd;omega) h1 h2 (he e hem hbd);obtain⟨hB,hO,hL,hX,hY⟩:=hB;by_cases his:i=s
    ·subst his;obtain⟨g,rfl,hg,hgw,hbx⟩:=hX (by
      rw[ho,Option.map_some,Option.getD_some]at hdep;obtain⟨x,hx,h3⟩:=Array.any_eq_true.1 hdep;simp only[Bool.and_eq_true,beq_iff_eq]at h3;have h4:=he _ (Array.getElem_mem hx) h3.1;rw[h3.2]at h4;exact h4) hunl
     have hst:=hstepS o vs w' g ho hed hg hgw hbx hB K (fun v w'' hv hb'=>hK _ _ ⟨hclo,.inl ⟨upd vs i v,some g,fill v,⟨hB.grown hb' hB.size (fun k e=>by cases e;exact hgw),fun h=>(by rw[was sA hAs]at h;have:=hO h;cases this),fun k e=>Nat.lt_of_lt_of_le (hL k e) hb'.size,fun _ h=>(by rw[now]at h;cases h),fun _=>⟨g,rfl,by simp only[upd,hAs,if_false];exact hg,hgw,hv⟩⟩,fun j hj hjs hjA hjl=>by
      simp only[upd,hjs,if_false];exact hmonoS _ _ _ _ g hjs hjA (hP j hj hjs hjA (by rw[was j hjs]at hjl;exact hjl)) hgw hb',low⟩⟩)
     split
     ·rename_i hwt;rw[if_pos hwt]at hst;exact .inl hst
     ·rename_i hwt;rw[if_neg hwt]at hst;exact hst
    ·by_cases hiA:i=sA
     ·subst hiA;have hsf:listed.getD s false=false:=by
       refine Classical.byContradiction fun hne => ?_;have h1:listed.getD s false=true:=by simpa using hne
       cases hso:ops[s]? with
       | none=>rw[hso]at hdep;simp at hdep
       | some o2 =>
        rw[hso,Option.map_some,Option.getD_some]at hdep;obtain⟨x,hx,h3⟩:=Array.any_eq_true.1 hdep;simp only[Bool.and_eq_true,beq_iff_eq]at h3;have h4:=hc _ o2 hso h1 _ (Array.getElem_mem hx) h3.1;rw[h3.2,hunl]at h4;cases h4
      obtain rfl:=hO hunl
      have hst:=hstepA o vs w' ho hB K (fun g w'' hgw hgl hv hb'=>hK _ _ ⟨hclo,.inl ⟨upd vs i (.pointer (some ⟨g,0,none⟩)),some g,fill _,⟨hB.trans (hb'.mono hB.size),fun h=>(by rw[now]at h;cases h),fun k e=>(by cases e;exact hgl),fun _ _=>⟨g,rfl,by simp[upd],Nat.le_trans hB.size hgw,hv⟩,fun h=>by rw[was s (fun e=>hAs e.symm),hsf]at h;cases h⟩,fun j hj hjs hjA hjl=>by
       simp only[upd,hjA,if_false];have hp0:=hP j hj hjs hjA (by rw[was j hjA]at hjl;exact hjl);exact hmonoA _ _ _ _ g hjs hjA hp0 hgw hb',low⟩⟩)
      split
      ·rename_i hwt;rw[if_pos hwt]at hst;exact .inl hst
      ·rename_i hwt;rw[if_neg hwt]at hst;exact hst
     ·have hst:=hstep i o og vs w' hin his hiA ho hL hed hB K (fun v w'' hv hb'=>hK _ _ ⟨hclo,.inl ⟨upd vs i v,og,fill v,⟨hB.trans (hb'.mono hB.size),fun h=>hO (by rw[was sA (fun e=>hiA e.symm)]at h;exact h),fun k e=>Nat.lt_of_lt_of_le (hL k e) hb'.size,fun h1 h2=>by
       rw[was sA (fun e=>hiA e.symm)]at h1;rw[was s (fun e=>his e.symm)]at h2;obtain⟨g,e0,e1,e2,e3⟩:=hX h1 h2;exact⟨g,e0,by simp only[upd,show ¬sA=i from fun e=>hiA e.symm,if_false];exact e1,e2,hBx _ _ _ e3 hb'⟩,fun h1=>by
       rw[was s (fun e=>his e.symm)]at h1;obtain⟨g,e0,e1,e2,e3⟩:=hY h1;exact⟨g,e0,by simp only[upd,show ¬sA=i from fun e=>hiA e.symm,if_false];exact e1,e2,hBy _ _ _ e3 hb'⟩⟩,fun j hj hjs hjA hjl=>by
       by_cases hji:j=i
       ·subst hji;simp[upd];exact hv
       ·simp only[upd,hji,if_false];exact hmono _ _ _ _ _ hjs hjA hL (hP j hj hjs hjA (by rw[was j hji]at hjl;exact hjl)) hb',low⟩⟩)
      split
      ·rename_i hwt;rw[if_pos hwt]at hst;exact .inl hst
      ·rename_i hwt;rw[if_neg hwt]at hst;exact hst
   ·rw[hl i hi]at hunl;have:=of_decide_eq_false hunl;omega
  ·have hall:∀j,j<i->listed.getD j false=true:=by
    intro j hj;unfold qBF at ht;have h1:=List.all_eq_true.1 ht i (List.mem_range.2 hi);rw[decide_eq_false hin,Bool.false_or]at h1;have h2:=List.all_eq_true.1 h1 j (List.mem_range.2 hj);exact qB1 hc _ i j o ho he h2
   rcases hJ with⟨vs,og,rfl,hB,hP,hF⟩|⟨m,hm1,hl,hm2,hw⟩
   ·have hin2:n=i:=by
     refine Classical.byContradiction fun hne => ?_;have:=hall n (by omega);rw[hF n lR]at this;cases this
    refine nxt n hin2 lR (fun j hj => ?_) (by
     obtain⟨g,rfl,e1,e2,e3⟩:=hB.2.2.2.2 (hall s (by omega));exact hrest vs w' g (fun j hj hjs hjA=>hP j hj hjs hjA (hall j (by omega))) e1 e2 e3 hB.1)
    by_cases h1:j<n
    ·rw[decide_eq_true h1];exact hall j (by omega)
    ·rw[decide_eq_false h1];exact hF j (by omega)
   ·have him:m=i:=by
     rw[hl i hi]at hunl;have h1:=of_decide_eq_false hunl;refine Classical.byContradiction fun hne => ?_;have h2:=hall m (by omega);rw[hl m (by omega)]at h2;have:=of_decide_eq_true h2;omega
    exact nxt m him (by omega) hl hw
 ·rintro a' w' ⟨_,hJ⟩;have hrep:∀i,i<ops.size->(Array.replicate ops.size true).getD i false=true:=fun i hi=>by simp[Array.getD,hi]
  rcases hJ with⟨vs,og,rfl,hB,hP,hF⟩|⟨m,hm1,hl,hm2,hw⟩
  ·have hge:n=ops.size:=by
    refine Classical.byContradiction fun hne => ?_;have h1:=hF n lR;rw[hrep n (by omega)]at h1;cases h1
   obtain⟨g,rfl,e1,e2,e3⟩:=hB.2.2.2.2 (hrep s (by omega));have:=hrest vs w' g (fun j hj hjs hjA=>hP j hj hjs hjA (hrep j (by omega))) e1 e2 e3 hB.1;rw[List.drop_eq_nil_of_le (by simp[hge])]at this;exact this
  ·have hge:m=ops.size:=by
    refine Classical.byContradiction fun hne => ?_;have h1:=hl m (by omega);rw[hrep m (by omega)]at h1;have:=of_decide_eq_true h1.symm;omega
   rw[List.drop_eq_nil_of_le (by simp[hge])]at hw;exact hw
 ·refine⟨fun j o ho hj => ?_,.inl ⟨vs0,none,h0.symm,⟨bR.drew,fun _=>rfl,fun g e=>(by cases e),fun h=>by
   exfalso;by_cases h9:sA<ops.size
   ·simp[Array.getD,h9]at h
   ·simp[Array.getD,h9]at h,fun h=>by
   exfalso;by_cases h9:s<ops.size
   ·simp[Array.getD,h9]at h
   ·simp[Array.getD,h9]at h⟩,fun i hi _ _ hj => ?_,fun i hi => ?_⟩⟩
  ·exfalso;by_cases h:j<ops.size
   iterate 2 ·simp[Array.getD,h]at hj
  ·exfalso;by_cases h:i<ops.size
   iterate 2 ·simp[Array.getD,h]at hj
  ·by_cases h:i<ops.size
   iterate 2 ·simp[Array.getD,h]
end
end
section
open Go.RowKit Go.Shelf
section
variable {P:Program}{α:Type}{enc:α->List Value}(w:World)
theorem qFB (base:Nat)(t ty e:TypeId)(i:TypeInfo)(z:Value)(size bytes:Nat)(ht:P.underlying t=some (.slice e))(hi:P.info? e=some i)(hz:i.zero=some z)(hsize:i.size=size)(hby:i.bytes=bytes)(hzc:z.cells.size=size)(hs0:0<size)
  (he:∀x,(enc x).length=size) (h1:∀x,∀u∈enc x,u.oneCell'=true)
  (g:Nat) (hown:w.ownsRow base e size (.slice (some ⟨g,0,none⟩) 0 0) 0 []) (B:Nat) (A:Option Addr) (c:Nat) (D:List α) (hT:Rd enc size B A c D w) (hn:D.length<=1000000) (hbytes:bytes<=1000) (hbase:base<=w.heap.size) :
  ∃v' w',(Builtin.append_ #[t,t] ty #[.slice (some ⟨g,0,none⟩) 0 0,.slice A D.length c]).run P w=.ok v' w'/\w'.ownsRow base e size v' D.length (D.flatMap enc)/\Below w.heap.size w w' /\ ∀k,v'.ownBlock=some k->k=g \/ w.heap.size<=k:=by
 by_cases hD:D=[]
 ·subst hD
  cases A with
  | none=>exact⟨_,w,qCG w base t ty e i size ht hi _ 0 [] hown c,hown,Below.refl _ _,fun k e=>.inl (by simpa [Value.ownBlock] using e.symm)⟩
  | some ad =>
   have hr:=run_append_room_cells (P:=P) w t ty e i ht hi g 0 0 0 ad 0 c [] (by simp) (by simp) (by simp) (by omega) (by simp) (by simp);exact⟨_,w,hr,hown,Below.refl _ _,fun k e=>.inl (by simpa [Value.ownBlock] using e.symm)⟩
 ·have hp:0<D.length:=List.length_pos_iff.2 hD;obtain⟨b0,o0,e0,_⟩:=hT.2.2 0 hp;subst e0;obtain⟨v',w',hr,r1,r2⟩:=run_append_arg_grows (P:=P) w t ty e i z size bytes ht hi hz hsize hby hzc hs0 ⟨g,0,none⟩ 0 0 [] (by simp) (by simp) ⟨b0,o0,none⟩ D.length c (D.flatMap enc) (qCU he D) (fun j u hu=>by
   have hj:j<D.length * size:=by
    have:=(List.getElem?_eq_some_iff.1 hu).1;rw[qCU he]at this;exact this
   have hk:j / size<D.length:=Nat.div_lt_of_lt_mul (by rw[Nat.mul_comm];exact hj);obtain⟨b,o,e2,_,hc⟩:=hT.2.2 (j / size) hk;cases e2
   rw[Addr.add_lit];have hd:=Nat.div_add_mod j size;have h3:=qBP enc size he D (j / size) hk (j % size) (Nat.mod_lt _ hs0);rw[show j / size * size+j % size=j by rw[Nat.mul_comm];exact hd,hu]at h3;have h4:=hc (j % size) u h3.symm;rw[show o0+j / size * size+j % size=o0+j by rw[Nat.add_assoc,Nat.mul_comm (j / size)];rw[hd]]at h4;exact h4) (by omega) (by unfold maxLen;omega) (by rw[Nat.zero_add];have:=Nat.mul_le_mul hn hbytes;omega)
  simp only[Nat.zero_add,List.nil_append]at r1;exact⟨v',w',hr,Own.more (enc:=enc) (l:=D) r1 hbase,⟨r2.os,r2.tape,r2.output,r2.size,fun k hk=>r2.block k hk (by simp)⟩,fun k e=>.inr (World.ownsRow.lt r1 k e).1⟩
theorem qGT {o:Oper}{a:Act}{K:Act->World->Prop}{Q:Exit->Act->World->Prop}(s x:Operand)(t:TypeId)
  (ho:o.op=.call { callee:=.builtin .append,args:=#[s,x],argTypes:=#[t,t] })
  (base:Nat) (e:TypeId) (i:TypeInfo) (z:Value) (size bytes:Nat) (ht:P.underlying t=some (.slice e)) (hi:P.info? e=some i) (hz:i.zero=some z) (hsize:i.size=size) (hby:i.bytes=bytes) (hzc:z.cells.size=size) (hs0:0<size)
  (he:∀x,(enc x).length=size) (h1:∀x,∀u∈enc x,u.oneCell'=true)
  (g:Nat) (hs:a.eval s=.slice (some ⟨g,0,none⟩) 0 0) (hown:w.ownsRow base e size (.slice (some ⟨g,0,none⟩) 0 0) 0 []) (B:Nat) (A:Option Addr) (c:Nat) (D:List α) (m:Nat) (hm:m=D.length) (hx:a.eval x=.slice A m c) (hT:Rd enc size B A c D w) (hn:D.length<=1000000) (hbytes:bytes<=1000) (hbase:base<=w.heap.size)
  (h:∀v' w',Own enc size base e v' D w'->Below w.heap.size w w'->(∀k,v'.ownBlock=some k->k=g \/ w.heap.size<=k)->K (a.put o.dst v') w'):Oper.wp P o a w K Q:=by
 subst hm;obtain⟨v',w',hrun,r1,r2,r3⟩:=qFB (P:=P) w base t o.type e i z size bytes ht hi hz hsize hby hzc hs0 he h1 g hown B A c D hT hn hbytes hbase;unfold Oper.wp;simp[execOp,ho,resolve,invoke,builtin,hs,hx,hrun,Result.andThen];exact h v' w' r1 r2 r3
end
def TLP (og:Option Nat)(B m sc:Nat)(SA:Option Addr)(S:List Int)(R:RV)(i:Nat)(v:Value)(W:World) : Prop := match i with
 | 0 => ∃g0,v=.slice (some ⟨g0,0,none⟩) 0 0/\Own encI 1 B 3 v [] W /\ ∀g,og=some g->g0≠g
 |1=>v=.slice SA m sc
 |2=>Own encI 1 B 3 v S W /\ ∀g,og=some g->v.ownBlock≠some g
 |3=>v=R.val
 | 4 => ∃C:RV,v=C.val/\C.tree=R.tree/\TQ (fun b=>(∀g,og=some g->b≠g)/\b<W.heap.size) W C
 |6=>Own encI 1 B 3 v S W /\ ∀g,og=some g->v.ownBlock≠some g
 | _=>False
section
variable {B m sc:Nat}{SA:Option Addr}{S:List Int}{R:RV}
theorem qMH (og:Option Nat)(i:Nat)(v:Value)(w' w'':World)(h:TLP og B m sc SA S R i v w')(hb:Below w'.heap.size w' w'') : TLP og B m sc SA S R i v w'' := by
 match i,h with
 |0,⟨g0,e,ho,hn⟩=>exact⟨g0,e,ho.below hb lR,hn⟩
 |1,h=>exact h
 |2,h=>exact⟨h.1.below hb lR,h.2⟩
 |3,h=>exact h
 |4,⟨C,e,ht,hq⟩=>exact⟨C,e,ht,hq.keep (fun b hb2=>⟨hb2.1,Nat.lt_of_lt_of_le hb2.2 hb.size⟩) fun b hb2=>hb.block b hb2.2⟩
 |5,h=>exact h.elim
 |6,h=>exact⟨h.1.below hb lR,h.2⟩
 | (k+7),h=>exact h.elim
theorem qWL (i:Nat)(v:Value)(w' w'':World)(g:Nat)(h:TLP none B m sc SA S R i v w')(hg:w'.heap.size<=g)(hb:Below w'.heap.size w' w'') : TLP (some g) B m sc SA S R i v w'' := by
 have h2:=qMH none i v w' w'' h hb;have hlt:∀ {D:List Int},Own encI 1 B 3 v D w' -> ∀k,some g=some k->v.ownBlock≠some k:=fun ho k e e2=>by
  cases e
  have:=(World.ownsRow.lt ho _ e2).2;omega
 match i,h,h2 with
 |0,⟨g0,e,ho,hn⟩,_=>exact⟨g0,e,ho.below hb lR,fun k e2 e3=>by cases e2;exact hlt ho g rfl (by rw[e,e3];rfl)⟩
 |1,h,_=>exact h
 |2,h,h2=>exact⟨h2.1,hlt h.1⟩
 |3,h,_=>exact h
 |4,⟨C,e,ht,hq⟩,_=>exact⟨C,e,ht,hq.keep (fun b hb2=>⟨fun k e2 e3=>by cases e2;have:=hb2.2;omega,Nat.lt_of_lt_of_le hb2.2 hb.size⟩) fun b hb2=>hb.block b hb2.2⟩
 |5,h,_=>exact h.elim
 |6,h,h2=>exact⟨h2.1,hlt h.1⟩
 | (k+7),h,_=>exact h.elim
theorem qPP (i:Nat)(v:Value)(w' w'':World)(g:Nat)(h:TLP (some g) B m sc SA S R i v w')(hg:w'.grownBy w'' (some g)) : TLP (some g) B m sc SA S R i v w'' := by
 have key:∀ {D:List Int},Own encI 1 B 3 v D w'->v.ownBlock≠some g->Own encI 1 B 3 v D w'':=fun ho hn=>World.ownsRow.kept ho hg (.inr fun e=>hn e)
 match i,h with
 |0,⟨g0,e,ho,hn⟩=>exact⟨g0,e,key ho (by rw[e];intro e2;exact hn g rfl (by simpa [Value.ownBlock] using e2)),hn⟩
 |1,h=>exact h
 |2,h=>exact⟨key h.1 (h.2 g rfl),h.2⟩
 |3,h=>exact h
 |4,⟨C,e,ht,hq⟩=>exact⟨C,e,ht,hq.keep (fun b hb2=>⟨hb2.1,Nat.lt_of_lt_of_le hb2.2 hg.size⟩) fun b hb2=>hg.block b hb2.2 (fun e2=>hb2.1 g rfl (by simpa using e2))⟩
 |5,h=>exact h.elim
 |6,h=>exact⟨key h.1 (h.2 g rfl),h.2⟩
 | (k+7),h=>exact h.elim
end
def TLX (g:Nat)(W:World) : Prop := ∃a0 a1 a2 a3 a4 a5 a6,Box7 g a0 a1 a2 a3 a4 a5 a6 W
def TLY (R:RV)(g:Nat)(W:World) : Prop := ∃C : RV,C.tree=R.tree/\RBx g C W/\RTree W.heap.size W C
theorem qTI (g:Nat)(w' w'':World)(h:TLX g w')(hb:Below w'.heap.size w' w'') : TLX g w'' := by
 obtain⟨a0,a1,a2,a3,a4,a5,a6,h⟩:=h;exact⟨a0,a1,a2,a3,a4,a5,a6,h.butR (R:=w'.heap.size) (.of hb) (Nat.ne_of_lt h.2.2)⟩
theorem qMI {R:RV}(g:Nat)(w' w'':World)(h:TLY R g w')(hb:Below w'.heap.size w' w'') : TLY R g w'' := by
 obtain⟨C,e,hx,ht⟩:=h;exact⟨C,e,hx.then hb,(ht.keeps hb).more hb.size⟩
theorem qJB (m:Nat)(b0 b1 b2 b3 b4 b5 b6:Value)(W:World) : W.grownBy (qBO m b0 b1 b2 b3 b4 b5 b6 W) (some m) := by
 have h:=qCD (Nat.le_refl m) (Below.refl m W) b0 b1 b2 b3 b4 b5 b6;exact⟨h.os,h.tape,h.output,h.size,fun k hk hr=>qBZ _ _ _ _ _ _ _ _ _ (fun e=>hr (by rw[e]))⟩
theorem qY5 {R C:RV}{g:Nat}{W:World}(hx:TLX g W)(e:C.tree=R.tree)(hq:TQ (fun b=>(∀k,some g=some k->b≠k)/\b<W.heap.size) W C) : TLY R g (qBO g (.int .u8 C.kind) (.string (bs C.dep.name)) (.int .u8 C.dep.op) (.int .i64 C.dep.evr.epoch) (.string (bs C.dep.evr.ver)) (.string (bs C.dep.evr.rel)) (.slice C.addr C.args.length C.cap) W) := by
 obtain⟨a0,a1,a2,a3,a4,a5,a6,h⟩:=hx;have hs:=h.store (.int .u8 C.kind) (.string (bs C.dep.name)) (.int .u8 C.dep.op) (.int .i64 C.dep.evr.epoch) (.string (bs C.dep.evr.ver)) (.string (bs C.dep.evr.rel)) (.slice C.addr C.args.length C.cap);refine⟨C,e,⟨hs.2.2,hs.1⟩,?_⟩;have h2:TQ (fun b=>b<(qBO g (.int .u8 C.kind) (.string (bs C.dep.name)) (.int .u8 C.dep.op) (.int .i64 C.dep.evr.epoch) (.string (bs C.dep.evr.ver)) (.string (bs C.dep.evr.rel)) (.slice C.addr C.args.length C.cap) W).heap.size) (qBO g (.int .u8 C.kind) (.string (bs C.dep.name)) (.int .u8 C.dep.op) (.int .i64 C.dep.evr.epoch) (.string (bs C.dep.evr.ver)) (.string (bs C.dep.evr.rel)) (.slice C.addr C.args.length C.cap) W) C:=hq.keep (fun b hb=>by rw[qCY];exact hb.2) fun b hb=>qBZ _ _ _ _ _ _ _ _ _ (hb.1 g rfl);exact h2.rtree fun b hb=>hb
theorem qRN {α:Type}{enc:α->List Value}{size:Nat}(he:∀x,(enc x).length=size)(l:List α)(W:World)(t:TypeId)(hl:l.length<=1000) : Own enc size W.heap.size t (.slice (some ⟨W.heap.size,0,none⟩) l.length l.length) l (W.alloc (.cells (l.flatMap enc).toArray t)) :=
 ⟨qDU enc size he l,.inr ⟨W.heap.size,l.length,(l.flatMap enc).toArray,rfl,Nat.le_refl _,World.alloc_heap_new W _,Nat.le_refl _,by unfold maxLen;omega,by simpa using qDU enc size he l,by show (l.flatMap enc).take (l.length * size)=_;rw[<- qDU enc size he l,List.take_length]⟩⟩
theorem qXM {α:Type}{enc:α->List Value}{size base n c:Nat}{e:TypeId}{A:Option Addr}{l:List α}{W:World}(he:∀x,(enc x).length=size)(h:Own enc size base e (.slice A n c) l W) : Rd enc size W.heap.size A c l W := by
 obtain⟨A',c',e2,hr⟩:=Own.rd h he;cases e2
 exact hr
theorem qS1 {a b c:List Pk}(h:qAQ a b)(k:qAQ a c) : pvL b=pvL c := by
 funext n d
 unfold pvL;by_cases hn:n<a.length
 ·have h1:n<b.length:=by rw[h.1];exact hn
  have h2:n<c.length:=by rw[k.1];exact hn
  rw[List.getElem?_eq_getElem h1,List.getElem?_eq_getElem h2,Option.any_some,Option.any_some];have p:=h.2 n hn h1;have q:=k.2 n hn h2;unfold qC7 Pk.ownD;rw[p.name,p.evr,p.prov,p.files,q.name,q.evr,q.prov,q.files]
 ·rw[List.getElem?_eq_none (by rw[h.1];omega),List.getElem?_eq_none (by rw[k.1];omega)]
