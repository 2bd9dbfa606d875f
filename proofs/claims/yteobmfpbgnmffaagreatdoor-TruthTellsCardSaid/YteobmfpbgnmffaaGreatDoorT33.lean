/- StArgs, StMade, TrSm, TrAw0 -/
import Derived.Test.YteobmfpbgnmffaaGreatDoorT32
set_option linter.unusedVariables false
set_option maxHeartbeats 16000000
set_option maxRecDepth 100000
open Go.Lib (hid)
set_option linter.unusedSimpArgs false
namespace Go.Proofs.YteobmfpbgnmffaaGreatDoor
open Go.RowKit Go.Shelf
section
open Go.ChangeShapes Go.WideShapes Go.ChangeAt Go.RowKit
section
variable {H:Type}{enc:TypeId × Value->H}{P:Program}{W:World}{held:Bool}{t e ti ts tu te td tr tl:TypeId}{f0 f1 f2 g0 g1 g2 r0 r1 r2:Field}{sp:Nat->Bool}
theorem qDP {n:Nat}{d:DataW H} : ∀ {l:List (DataW H)},d∈l->n∈d.weights P e->n∈DataW.weightsAll P e l
 | x::l,h,hn=>by
  simp only[DataW.weightsAll,List.mem_append];rcases List.mem_cons.1 h with rfl|h
  ·exact .inl hn
  ·exact .inr (qDP h hn)
theorem qGS {α:Type}{encT:α->List Value}{Q:α->DataW H->Prop}{k n:Nat}{cs:List Value}{x:DataW H × List MemPlace}(ht:P.underlying t=some (.slice e))(hk:P.cellsOf e=k)(k0:0<k)
  (hel:∀m cs x,m<n->DataW.trod enc P W 0 sp held m e cs=some x -> ∃y,cs=encT y/\Q y x.1) (h:DataW.trod enc P W 0 sp held n t cs=some x) :
  ∃A cap,∃l:List α,cs=[.slice A l.length cap]/\Rd encT k W.heap.size A cap l W/\(∀y∈l,∃d,Q y d /\ ∀m∈d.weights P e,m∈x.1.weights P t)/\(l≠[] -> ∃m∈x.1.weights P t,l.length * P.bytesOf e<=m):=by
 rcases DataW.trod_slice ht h with⟨hcs,_⟩|⟨a,len,cap,elems,rest,m,hnm,hcs,hx,_,hl,hm,hlen,hel2,_⟩
 ·exact⟨none,0,[],hcs,Rd.nil_ (Nat.zero_le _),(fun y hy=>by cases hy),fun h=>absurd rfl h⟩
 ·have each:∀i,i<len -> ∃y,(W.cells? 0 (a.add (i * k)) k=some (encT y)) /\ ∃z,elems[i]?=some z/\Q y z.1:=fun i hi=>by
   have h1:=hel2 i hi;rw[List.getElem?_eq_getElem (by omega),hk]at h1;obtain⟨c,hc,hd⟩:=Option.bind_eq_some_iff.1 h1;obtain⟨y,rfl,hq⟩:=hel m c _ (by omega) hd;exact⟨y,hc,_,List.getElem?_eq_getElem (by omega),hq⟩
  have hw:x.1.weights P t=(elems.length+rest.length) * P.bytesOf e::(DataW.weightsAll P e (elems.map (·.1))++DataW.weightsAll P e (rest.map (·.1))):=by
   rw[hx,DataW.weights,ht];simp
  obtain⟨l,hll,hp⟩:=qLE len each;refine⟨some a,cap,l,by rw[hll];exact hcs,⟨by omega,hm,fun i hi => ?_⟩,fun y hy => ?_,fun _=>⟨_,by rw[hw];exact List.mem_cons_self,Nat.mul_le_mul_right _ (by omega)⟩⟩
  ·obtain⟨hc,_⟩:=hp i hi;obtain⟨b,off,spot⟩:=a;have hlt:=World.cells?_block hc k0;obtain⟨_,hlen2,hcell⟩:=World.cells?_some hc;have hsp:spot=none:=by
    obtain⟨hc0,_⟩:=hp 0 (by omega);obtain⟨_,hlen0,hcell0⟩:=World.cells?_some hc0;have h0:=hcell0 0 k0;rw[List.getElem?_eq_getElem (show 0<(encT l[0]).length by omega),Nat.zero_mul]at h0;exact World.cell?_spot h0
   subst hsp;refine⟨b,off,rfl,?_,fun j u hu => ?_⟩
   ·have:(Addr.add ⟨b,off,none⟩ (i * k)).block=b:=by rw[Addr.add_lit]
    rw[<- this];exact hlt
   ·have hj:j<k:=by have:=(List.getElem?_eq_some_iff.1 hu).1;omega
    have h0:=hcell j hj;rw[hu]at h0;have hadd:((⟨b,off,none⟩:Addr).add (i * k)).add j=⟨b,off+i * k+j,none⟩:=by rw[Addr.add_lit,Addr.add_lit]
    rw[hadd]at h0;exact h0
  ·obtain⟨i,hi,rfl⟩:=List.getElem_of_mem hy;obtain⟨_,z,hz,hq⟩:=hp i hi;refine⟨z.1,hq,fun n hn => ?_⟩;rw[hw];exact List.mem_cons_of_mem _ (List.mem_append_left _ (qDP (List.mem_map_of_mem (List.mem_of_getElem? hz)) hn))
variable {tD tS:TypeId}{k0 k1 k2 k3 k4 k5 k6 k7 k8 k9 k10 k11 k12:Field}
theorem qNH {n9:Nat}{cs:List Value}{x:DataW H × List MemPlace}(hp:P.underlying t=some (.struct #[k0,k1,k2,k3,k4,k5,k6,k7,k8,k9,k10,k11,k12]))(hK:(k0.type,k0.offset,k1.type,k1.offset,k2.type,k2.offset,k3.type,k3.offset,k4.type,k4.offset,k5.type,k5.offset,k6.type,k6.offset,k7.type,k7.offset,k8.type,k8.offset,k9.type,k9.offset,k10.type,k10.offset,k11.type,k11.offset,k12.type,k12.offset)=(ts,0,te,1,tu,4,ts,5,tD,6,tl,7,tl,8,tD,9,tl,10,tl,11,tl,12,tl,13,tS,14))
  (hD0:P.underlying tD=some (.slice td)) (hS0:P.underlying tS=some (.slice ts)) (hC3:(P.cellsOf t == 15 && P.cellsOf tD == 1 && P.cellsOf tS == 1)=true)
  (hr:P.underlying tr=some (.struct #[r0,r1,r2])) (hR:(r0.type,r0.offset,r1.type,r1.offset,r2.type,r2.offset)=(tu,0,td,1,tl,6)) (hl0:P.underlying tl=some (.slice tr))
  (hd:P.underlying td=some (.struct #[g0,g1,g2])) (hG:(g0.type,g0.offset,g1.type,g1.offset,g2.type,g2.offset)=(ts,0,tu,1,te,2))
  (hs:P.underlying te=some (.struct #[f0,f1,f2])) (hF:(f0.type,f0.offset,f1.type,f1.offset,f2.type,f2.offset)=(ti,0,ts,1,ts,2))
  (hi:P.underlying ti=some (.int .i64)) (hst:P.underlying ts=some .string) (hu:P.underlying tu=some (.int .u8)) (hC:(P.cellsOf ti == 1 && P.cellsOf ts == 1 && P.cellsOf te == 3 && P.cellsOf tu == 1 && P.cellsOf td == 5)=true) (hC2:(P.cellsOf tr == 7 && P.cellsOf tl == 1)=true)
  (h:DataW.trod enc P W 0 sp held n9 t cs=some x):∃q:Pk,cs=q.cells/\(q.Laid W.heap.size W /\ ∀x∈LS q,∀t∈x.l,KO t):=by
 have hC0:=hC;have hC20:=hC2;simp only[Bool.and_eq_true,beq_iff_eq]at hC hC2 hC3;obtain⟨⟨⟨⟨c1,c2⟩,c3⟩,c4⟩,c5⟩:=hC;obtain⟨c6,c7⟩:=hC2;obtain⟨⟨c8,c9⟩,c10⟩:=hC3;obtain⟨xs,m,hm,hx,hl,hlen,hg⟩:=DataW.trod_struct hp h;have RD:=fun cs x (h:DataW.trod enc P W 0 sp held m tD cs=some x)=>qEJ (encT:=encD) (Q:=Dp.wf) hD0 c5 (by decide) (fun m' cs' x' _ h'=>qIQ hd hG hs hF hi hst hu hC0 h') h;have RR:=fun cs x (h:DataW.trod enc P W 0 sp held m tl cs=some x)=>qEJ (encT:=encR) (Q:=fun y=>RTree W.heap.size W y/\KO y) hl0 c6 (by decide) (fun m' cs' x' _ h'=>qPK hr hR hl0 hd hG hs hF hi hst hu hC0 hC20 m' cs' x' h') h;have RS:=fun cs x (h:DataW.trod enc P W 0 sp held m tS cs=some x)=>qEJ (encT:=fun s:ByteArray=>[Value.string s]) (Q:=fun s:ByteArray=>s.size<=maxLen) hS0 c2 (by decide) (fun m' cs' x' _ h'=>by obtain⟨s,e,_,w0⟩:=DataW.trod_string hst h';exact⟨s,e,w0⟩) h;have q0:=hg 0 k0 rfl;have q1:=hg 1 k1 rfl;have q2:=hg 2 k2 rfl;have q3:=hg 3 k3 rfl;have q4:=hg 4 k4 rfl;have q5:=hg 5 k5 rfl;have q6:=hg 6 k6 rfl;have q7:=hg 7 k7 rfl;have q8:=hg 8 k8 rfl;have q9:=hg 9 k9 rfl;have q10:=hg 10 k10 rfl;have q11:=hg 11 k11 rfl;have q12:=hg 12 k12 rfl;simp only[Prod.mk.injEq]at hK
 match xs,hlen with
 | [y0,y1,y2,y3,y4,y5,y6,y7,y8,y9,y10,y11,y12],_ =>
  rw[c8]at hl
  match cs,hl with
  | [v0,v1,v2,v3,v4,v5,v6,v7,v8,v9,v10,v11,v12,v13,v14],_ =>
   simp only[hK,c2,c4,c3,c7,c9,c10,List.drop_zero,List.drop_succ_cons,List.take_succ_cons,List.take_zero]at q0 q1 q2 q3 q4 q5 q6 q7 q8 q9 q10 q11 q12;obtain⟨s0,e0,_,w0⟩:=DataW.trod_string hst (show DataW.trod enc P W 0 sp held m ts [v0]=some y0 from q0);obtain⟨e,e1,w1⟩:=qNG hs hF hi hst (by simp[c1,c2,c3]) (show DataW.trod enc P W 0 sp held m te [v1,v2,v3]=some y1 from q1);obtain⟨ar,e2,_,w2⟩:=DataW.trod_int hu (show DataW.trod enc P W 0 sp held m tu [v4]=some y2 from q2);obtain⟨s3,e3,_,w3⟩:=DataW.trod_string hst (show DataW.trod enc P W 0 sp held m ts [v5]=some y3 from q3);obtain⟨A0,p0,l0,x0,rd0,qq0⟩:=RD _ _ (show DataW.trod enc P W 0 sp held m tD [v6]=some y4 from q4);obtain⟨A1,p1,l1,x1,rd1,qq1⟩:=RR _ _ (show DataW.trod enc P W 0 sp held m tl [v7]=some y5 from q5);obtain⟨A2,p2,l2,x2,rd2,qq2⟩:=RR _ _ (show DataW.trod enc P W 0 sp held m tl [v8]=some y6 from q6);obtain⟨A3,p3,l3,x3,rd3,qq3⟩:=RD _ _ (show DataW.trod enc P W 0 sp held m tD [v9]=some y7 from q7);obtain⟨A4,p4,l4,x4,rd4,qq4⟩:=RR _ _ (show DataW.trod enc P W 0 sp held m tl [v10]=some y8 from q8);obtain⟨A5,p5,l5,x5,rd5,qq5⟩:=RR _ _ (show DataW.trod enc P W 0 sp held m tl [v11]=some y9 from q9);obtain⟨A6,p6,l6,x6,rd6,qq6⟩:=RR _ _ (show DataW.trod enc P W 0 sp held m tl [v12]=some y10 from q10);obtain⟨A7,p7,l7,x7,rd7,qq7⟩:=RR _ _ (show DataW.trod enc P W 0 sp held m tl [v13]=some y11 from q11);obtain⟨A8,p8,l8,x8,rd8,qq8⟩:=RS _ _ (show DataW.trod enc P W 0 sp held m tS [v14]=some y12 from q12);cases e0;cases e1;cases e2;cases e3
   cases x0;cases x1;cases x2;cases x3;cases x4;cases x5;cases x6;cases x7;cases x8
   obtain⟨i0,i1,i2⟩:=w1
   exact⟨{ name:=s0,epoch:=e.epoch,ver:=bs e.ver,rel:=bs e.rel,arch:=ar,vendor:=s3,provA:=A0,provC:=p0,prov:=l0,reqA:=A1,reqC:=p1,req:=l1,conA:=A2,conC:=p2,con:=l2,obsA:=A3,obsC:=p3,obs:=l3,rcmA:=A4,rcmC:=p4,rcm:=l4,supA:=A5,supC:=p5,sup:=l5,sugA:=A6,sugC:=p6,sug:=l6,enhA:=A7,enhC:=p7,enh:=l7,filesA:=A8,filesC:=p8,files:=l8 },rfl,
    ⟨{ ar:=w2,ep:=i0,n0:=w0,n1:=by rw[qAO];exact i1,n2:=by rw[qAO];exact i2,n3:=w3,prov:=rd0,provW:=qq0,obs:=rd3,obsW:=qq3,files:=rd8,filesW:=qq8,req:=⟨rd1,fun t ht=>(qq1 t ht).1⟩,con:=⟨rd2,fun t ht=>(qq2 t ht).1⟩,rcm:=⟨rd4,fun t ht=>(qq4 t ht).1⟩,sup:=⟨rd5,fun t ht=>(qq5 t ht).1⟩,sug:=⟨rd6,fun t ht=>(qq6 t ht).1⟩,enh:=⟨rd7,fun t ht=>(qq7 t ht).1⟩ },fun x hx t ht=>by
     simp only[LS,List.mem_cons,List.not_mem_nil,or_false]at hx;rcases hx with rfl|rfl|rfl|rfl|rfl|rfl
     ·exact (qq1 t ht).2
     ·exact (qq2 t ht).2
     ·exact (qq4 t ht).2
     ·exact (qq5 t ht).2
     ·exact (qq6 t ht).2
     ·exact (qq7 t ht).2⟩⟩
def PkQ (W:World)(q:Pk) : Prop := q.Laid W.heap.size W /\ ∀x∈LS q,∀t∈x.l,KO t
variable {tq tP tR:TypeId}{a0 a1:Field}
theorem qNI {n9:Nat}{cs:List Value}{x:DataW H × List MemPlace}(hP:P.underlying tP=some (.slice tq))(hc:P.cellsOf tq=15)(hpk:∀m cs x,DataW.trod enc P W 0 sp held m tq cs=some x -> ∃q : Pk,cs=q.cells/\PkQ W q)
  (h:DataW.trod enc P W 0 sp held n9 tP cs=some x):∃A cap,∃l:List Pk,cs=[.slice A l.length cap]/\PRow W.heap.size W A cap l/\(∀p∈l,PkQ W p)/\(l≠[] -> ∃m∈x.1.weights P tP,l.length * P.bytesOf tq<=m):=by
 obtain⟨A,c,l,e,hr,hq,hw⟩:=qGS (encT:=Pk.cells) (Q:=fun q _=>PkQ W q) hP hc (by decide) (fun m cs x _ h=>hpk m cs x h) h;exact⟨A,c,l,e,⟨hr,fun p hp=>(hq p hp).elim fun _ h=>h.1.1⟩,fun p hp=>(hq p hp).elim fun _ h=>h.1,hw⟩
theorem qT4 {n9:Nat}{cs:List Value}{x:DataW H × List MemPlace}(hR:P.underlying tR=some (.struct #[a0,a1]))(hA:(a0.type,a0.offset,a1.type,a1.offset)=(ti,0,tP,1))(hP:P.underlying tP=some (.slice tq))(hi:P.underlying ti=some (.int .i64))(hC:(P.cellsOf tR == 2 && P.cellsOf ti == 1 && P.cellsOf tP == 1 && P.cellsOf tq == 15)=true)(hpk:∀m cs x,DataW.trod enc P W 0 sp held m tq cs=some x -> ∃q : Pk,cs=q.cells/\PkQ W q)
  (h:DataW.trod enc P W 0 sp held n9 tR cs=some x):∃r:Rp,cs=r.cells/\PRow W.heap.size W r.A r.c r.pk/\(∀p∈r.pk,PkQ W p)/\(Lit.int .i64 r.prio).wf=true/\(r.pk≠[] -> ∃m∈x.1.weights P tR,r.pk.length * P.bytesOf tq<=m):=by
 simp only[Bool.and_eq_true,beq_iff_eq]at hC;obtain⟨⟨⟨c1,c2⟩,c3⟩,c4⟩:=hC;obtain⟨xs,m,hm,hx,hl,hlen,hg⟩:=DataW.trod_struct hR h;have q0:=hg 0 a0 rfl;have q1:=hg 1 a1 rfl;simp only[Prod.mk.injEq]at hA
 match xs,hlen with
 | [y0,y1],_ =>
  rw[c1]at hl
  match cs,hl with
  | [v0,v1],_ =>
   simp only[hA,c2,c3,List.drop_zero,List.drop_succ_cons,List.take_succ_cons,List.take_zero]at q0 q1;obtain⟨k,e0,_,w0⟩:=DataW.trod_int hi (show DataW.trod enc P W 0 sp held m ti [v0]=some y0 from q0);obtain⟨A,c,l,e1,hr,hq,hw⟩:=qNI hP c4 hpk (show DataW.trod enc P W 0 sp held m tP [v1]=some y1 from q1);cases e0;cases e1
   refine⟨⟨k,A,c,l⟩,rfl,hr,hq,w0,fun hne => ?_⟩;obtain⟨n,hn,hle⟩:=hw hne;refine⟨n,?_,hle⟩;rw[hx];show n∈DataW.weights P tR (.agg [y0.1,y1.1]);rw[DataW.weights,hR];show n∈DataW.weightsEach P [a0.type,a1.type] [y0.1,y1.1];simp only[DataW.weightsEach,List.mem_append,hA];exact .inr (.inl hn)
theorem qPJ {n9:Nat}{cs:List Value}{x:DataW H × List MemPlace}{tT:TypeId}(hT:P.underlying tT=some (.slice tR))(hR:P.underlying tR=some (.struct #[a0,a1]))(hA:(a0.type,a0.offset,a1.type,a1.offset)=(ti,0,tP,1))(hP:P.underlying tP=some (.slice tq))(hi:P.underlying ti=some (.int .i64))(hC:(P.cellsOf tR == 2 && P.cellsOf ti == 1 && P.cellsOf tP == 1 && P.cellsOf tq == 15)=true)(hB:P.bytesOf tq≠0)(hpk:∀m cs x,DataW.trod enc P W 0 sp held m tq cs=some x -> ∃q : Pk,cs=q.cells/\PkQ W q)
  (hsz:∀m∈x.1.weights P tT,m<=reachBytes) (h:DataW.trod enc P W 0 sp held n9 tT cs=some x):∃A cap,∃l:List Rp,cs=[.slice A l.length cap]/\RpRow W.heap.size W A cap l/\(∀r∈l,∀p∈r.pk,PkQ W p):=by
 have hC0:=hC;simp only[Bool.and_eq_true,beq_iff_eq]at hC;obtain⟨A,c,l,e,hr,hq,_⟩:=qGS (encT:=Rp.cells) (Q:=fun r d=>PRow W.heap.size W r.A r.c r.pk/\(∀p∈r.pk,PkQ W p)/\(Lit.int .i64 r.prio).wf=true/\(r.pk≠[] -> ∃m∈d.weights P tR,r.pk.length * P.bytesOf tq<=m)) hT hC.1.1.1 (by decide) (fun m cs x _ h=>qT4 hR hA hP hi hC0 hpk h) h;refine⟨A,c,l,e,⟨hr,fun r hr=>(hq r hr).elim fun d h=>h.1.1,fun r hr=>(hq r hr).elim fun d h=>h.1.2.2.1,fun r hr => ?_⟩,fun r hr=>(hq r hr).elim fun d h=>h.1.2.1⟩;obtain⟨d,⟨_,_,_,h1⟩,h2⟩:=hq r hr;rcases Classical.em (r.pk=[]) with e|hne
 ·rw[e];simp
 ·obtain⟨m,hm,hle⟩:=h1 hne;have h3:=hsz m (h2 m hm);have h4:r.pk.length * 1<=r.pk.length * P.bytesOf tq:=Nat.mul_le_mul_left _ (Nat.pos_of_ne_zero hB);unfold reachBytes at h3;omega
theorem qWO {r:Reach}{b0:Nat}{v:Value}{d:DataW H}{p:List MemPlace}(hP:P.underlying tP=some (.slice tq))(hc:P.cellsOf tq=15)(hpk:∀m cs x,DataW.trod enc P W 0 sp held m tq cs=some x -> ∃q : Pk,cs=q.cells/\PkQ W q)
  (hval:Value.okWide P W r b0 tP v) (h:DataW.Trod enc P W 0 sp held tP v d p):∃A cap,∃l:List Pk,v=.slice A l.length cap/\PRow W.heap.size W A cap l/\(∀p∈l,PkQ W p)/\(l≠[] -> ∃m∈d.weights P tP,l.length * P.bytesOf tq<=m):=by
 obtain⟨a0,len,cap,rfl⟩:=okWide_slice hP hval;obtain⟨fuel,hf⟩:=h;obtain⟨A,c,l,e,hr,hq,hw⟩:=qNI hP hc hpk hf;simp[Value.cells]at e;obtain⟨rfl,rfl,rfl⟩:=e;exact⟨_,_,l,rfl,hr,hq,hw⟩
theorem qPV {r:Reach}{b0:Nat}{v:Value}{d:DataW H}{p:List MemPlace}{tT:TypeId}(hT:P.underlying tT=some (.slice tR))(hR:P.underlying tR=some (.struct #[a0,a1]))(hA:(a0.type,a0.offset,a1.type,a1.offset)=(ti,0,tP,1))(hP:P.underlying tP=some (.slice tq))(hi:P.underlying ti=some (.int .i64))(hC:(P.cellsOf tR == 2 && P.cellsOf ti == 1 && P.cellsOf tP == 1 && P.cellsOf tq == 15)=true)(hB:P.bytesOf tq≠0)(hpk:∀m cs x,DataW.trod enc P W 0 sp held m tq cs=some x -> ∃q : Pk,cs=q.cells/\PkQ W q)
  (hsz:∀m∈d.weights P tT,m<=reachBytes) (hval:Value.okWide P W r b0 tT v) (h:DataW.Trod enc P W 0 sp held tT v d p):∃A cap,∃l:List Rp,v=.slice A l.length cap/\RpRow W.heap.size W A cap l/\(∀r∈l,∀p∈r.pk,PkQ W p):=by
 obtain⟨a0,len,cap,rfl⟩:=okWide_slice hT hval;obtain⟨fuel,hf⟩:=h;obtain⟨A,c,l,e,hr,hq⟩:=qPJ hT hR hA hP hi hC hB hpk hsz hf;simp[Value.cells]at e;obtain⟨rfl,rfl,rfl⟩:=e;exact⟨_,_,l,rfl,hr,hq⟩
theorem qTL {r:Reach}{b0:Nat}{v:Value}{d:DataW H}{p:List MemPlace}{tT:TypeId}(hT:P.underlying tT=some (.slice ti))(hi:P.underlying ti=some (.int .i64))(hc:P.cellsOf ti=1)(hB:P.bytesOf ti≠0)
  (hsz:∀m∈d.weights P tT,m<=reachBytes) (hval:Value.okWide P W r b0 tT v) (h:DataW.Trod enc P W 0 sp held tT v d p):∃A cap,∃l:List Int,v=.slice A l.length cap/\Rd encI 1 W.heap.size A cap l W/\(∀z∈l,(Lit.int .i64 z).wf=true)/\l.length<=1000000000000000:=by
 obtain⟨a0,len,cap,rfl⟩:=okWide_slice hT hval;obtain⟨fuel,hf⟩:=h;obtain⟨A,c,l,e,hr,hq,hw⟩:=qGS (encT:=encI) (Q:=fun z _=>(Lit.int .i64 z).wf=true) hT hc (by decide) (fun m cs x _ h=>by
  obtain⟨k,e,_,w⟩:=DataW.trod_int hi h;exact⟨k,e,w⟩) hf
 simp[Value.cells]at e;obtain⟨rfl,rfl,rfl⟩:=e;refine⟨_,_,l,rfl,hr,fun z hz=>(hq z hz).elim fun _ h=>h.1,?_⟩;rcases Classical.em (l=[]) with e|hne
 ·rw[e];simp
 ·obtain⟨m,hm,hle⟩:=hw hne;have h3:=hsz m hm;have h4:l.length * 1<=l.length * P.bytesOf ti:=Nat.mul_le_mul_left _ (Nat.pos_of_ne_zero hB);unfold reachBytes at h3;omega
end
end
section
theorem qJ3 {p:Pk}(hk:∀x∈LS p,∀t∈x.l,KO t)(hs:∀k,k<6->qA9 (qA1 (sixL p k))<=2000) : p.deepOk := by
 have hh:∀(l:List RV),qA9 (qA1 l)<=2000 -> ∀t∈l,t.tree.parts<=1000000:=by
  intro l hl t ht;obtain⟨i,hi,rfl⟩:=List.getElem_of_mem ht;have h1:=qF5 (l:=qA1 l) (k:=i) (by rw[qA5];exact hi);have h2:=qAR (qA1 l) (i+1);rw[qAI l i hi]at h1;omega
 intro x hx t ht;refine⟨hk x hx t ht,?_⟩;have hx2:=hx;simp only[LS,List.mem_cons,List.not_mem_nil,or_false]at hx2;rcases hx2 with rfl|rfl|rfl|rfl|rfl|rfl
 ·exact hh _ (hs 0 (by omega)) t ht
 ·exact hh _ (hs 1 (by omega)) t ht
 ·exact hh _ (hs 2 (by omega)) t ht
 ·exact hh _ (hs 3 (by omega)) t ht
 ·exact hh _ (hs 4 (by omega)) t ht
 ·exact hh _ (hs 5 (by omega)) t ht
theorem qMO {p:Pk}(h:p.slim) : p.few :=
 ⟨by have:=h.provN;omega,by have:=h.obsN;omega,by have:=h.filesN;omega,Nat.le_trans (show qA9 (qA1 p.req)<=2000 from h.parts 0 (by omega)) (by omega),Nat.le_trans (show qA9 (qA1 p.con)<=2000 from h.parts 1 (by omega)) (by omega),Nat.le_trans (show qA9 (qA1 p.rcm)<=2000 from h.parts 2 (by omega)) (by omega),Nat.le_trans (show qA9 (qA1 p.sup)<=2000 from h.parts 3 (by omega)) (by omega),Nat.le_trans (show qA9 (qA1 p.sug)<=2000 from h.parts 4 (by omega)) (by omega),Nat.le_trans (show qA9 (qA1 p.enh)<=2000 from h.parts 5 (by omega)) (by omega)⟩
theorem qFY {repos:List Rp}{ins:List Pk}{k:Int}{W:World}(h:Narrow repos ins k)(hr:∀r∈repos,∀p∈r.pk,PkQ W p)(hi:∀p∈ins,PkQ W p):∀x∈allP repos ins,x.deepOk/\x.few := by
 intro x hx;rcases List.mem_append.1 hx with hx|hx
 ·exact⟨qJ3 (hi x hx).2 (h.si x hx).parts,qMO (h.si x hx)⟩
 ·obtain⟨r,hr2,hx⟩:=List.mem_flatMap.1 hx;exact⟨qJ3 (hr r hr2 x hx).2 (h.sr r hr2 x hx).parts,qMO (h.sr r hr2 x hx)⟩
end
section
theorem qH6 (s:ByteArray)(w:World) : Calls Tryz.prog 58 #[.string s] w fun r w'=>r=.returned (.agg #[.int .u8 1,.string s,.int .u8 0,.int .i64 0,.string ⟨#[]⟩,.string ⟨#[]⟩,.slice none 0 0])/\Below w.heap.size w w' := by
 go_enter Tryz.func58,Tryz.ntmps58
 go_wp2_with fail
 exact bodyPost_ret (v:=.agg #[.int .u8 1,.string s,.int .u8 0,.int .i64 0,.string ⟨#[]⟩,.string ⟨#[]⟩,.slice none 0 0]) (by simp[results,Tryz.results58,go_sem]) rfl ⟨rfl,bR.alloc lR _⟩
theorem qCW (k:Int)(A:Option Addr)(n c:Nat)(w:World) : Calls Tryz.prog 44 #[.int .u8 k,.slice A n c] w fun r w'=>r=.returned (.agg #[.int .u8 k,.string ⟨#[]⟩,.int .u8 0,.int .i64 0,.string ⟨#[]⟩,.string ⟨#[]⟩,.slice A n c])/\Below w.heap.size w w' := by
 go_enter Tryz.func44,Tryz.ntmps44
 go_wp2_with fail
 exact bodyPost_ret (v:=.agg #[.int .u8 k,.string ⟨#[]⟩,.int .u8 0,.int .i64 0,.string ⟨#[]⟩,.string ⟨#[]⟩,.slice A n c]) (by simp[results,Tryz.results44,go_sem]) rfl ⟨rfl,bR.alloc lR _⟩
theorem qQP (A:Option Addr)(c:Nat)(D:List Int)(x:Int)(w:World)(hD:D.length<=1000000)(h:Rd encI 1 w.heap.size A c D w) : Calls Tryz.prog 42 #[.slice A D.length c,.int .i64 x] w fun e w'=>e=.returned (.bool (D.contains x))/\Below w.heap.size w w' := by
 have H:=hid h;obtain⟨n,hn⟩:∃n,n=D.length:=⟨_,rfl⟩;rw[<- hn]at hD |-;have HN:=hid hn;obtain⟨r,hr⟩:∃r,r=D.contains x:=⟨_,rfl⟩;rw[<- hr];have RR:=hid hr;clear h hn hr
 go_enter Tryz.func42,Tryz.ntmps42
 go_wp2_with fail
 go_loopw[5] (fun iv wr => ∃k:Nat,k<=n/\iv=.int .i64 (k:Int)/\Hid (∀j (hj:j<D.length),j<k->D[j]≠x)/\Below w.heap.size w wr) (fun iv _=>n - (intOf iv).toNat)
 case atStart=>exact⟨0,by omega,rfl,hid (by intro j hj h;omega),Below.refl _ _⟩
 case round =>
  obtain⟨k,hk,rfl,HS,hB⟩:=hrel;rename World=>wr
  have HB:=hid hB;by_cases hlt:k<n
  ·have hkl:k<D.length:=by have:=HN.out;omega
   obtain⟨b,o,hA,hb,e0⟩:=((H.out.below hB).more hB.size).int_at hkl;have HM:=hid (show D[k]∈D from List.getElem_mem hkl);have HNX:=hid (fun (h:D[k]≠x)=>show ∀j (hj:j<D.length),j<k+1->D[j]≠x from fun j hj hjk=>by
    by_cases e:j=k
    ·subst e;exact h
    ·exact HS.out j hj (by omega))
   subst hA;generalize D[k]=y at *;have i0:(0:Int)<=(k:Int):=by omega
   have i1:(k:Int)<(n:Int):=by omega
   clear hB hkl;by_cases hy:y=x
   ·have HE:=hid (show D.contains x=true from List.contains_iff_mem.2 (hy ▸ HM.out));subst hy;go_wp2_with fail
    go_ret;obtain rfl:=RR.out.trans HE.out;exact⟨rfl,HB.out⟩
   ·go_wp2_with fail
    go_roundw
    case rel=>exact⟨k+1,by omega,by go_num,hid (HNX.out hy),HB.out⟩
    case measure=>simp[intOf];omega
  ·obtain rfl:k=n:=by omega
   have HE:=hid (show D.contains x=false by
    rw[Bool.eq_false_iff];intro hc;obtain⟨j,hj,hjx⟩:=List.getElem_of_mem (List.contains_iff_mem.1 hc);exact HS.out j hj (by have:=HN.out;omega) hjx)
   have i1:¬(k:Int)<(k:Int):=by omega
   go_wp2_with fail
   go_ret;obtain rfl:=RR.out.trans HE.out;exact⟨rfl,HB.out⟩
end
section
def AtX (b:Nat)(s:ByteArray)(W:World) : Prop := b<W.heap.size/\W.cell? ⟨b,0,none⟩=some (.int .u8 1)/\W.cell? ⟨b,1,none⟩=some (.string s)/\W.cell? ⟨b,2,none⟩=some (.int .u8 0)/\W.cell? ⟨b,3,none⟩=some (.int .i64 0)/\W.cell? ⟨b,4,none⟩=some (.string ⟨#[]⟩)/\W.cell? ⟨b,5,none⟩=some (.string ⟨#[]⟩)/\W.cell? ⟨b,6,none⟩=some (.slice none 0 0)
theorem AtX.then {b:Nat}{s:ByteArray}{W W':World}(h:AtX b s W)(hb:Below W.heap.size W W') : AtX b s W' := by
 obtain⟨l,c0,c1,c2,c3,c4,c5,c6⟩:=h;have hc:∀i,W'.cell? ⟨b,i,none⟩=W.cell? ⟨b,i,none⟩:=fun i=>hb.cell (p:=⟨b,i,none⟩) l;exact⟨Nat.lt_of_lt_of_le l hb.size,(hc 0).trans c0,(hc 1).trans c1,(hc 2).trans c2,(hc 3).trans c3,(hc 4).trans c4,(hc 5).trans c5,(hc 6).trans c6⟩
theorem AtX.new (s:ByteArray)(W:World) : AtX W.heap.size s (W.alloc (.cells #[.int .u8 1,.string s,.int .u8 0,.int .i64 0,.string ⟨#[]⟩,.string ⟨#[]⟩,.slice none 0 0] 39)) := ⟨by simp,by simp[go_sem],by simp[go_sem],by simp[go_sem],by simp[go_sem],by simp[go_sem],by simp[go_sem],by simp[go_sem]⟩
structure Aw (T X bx bY bo bn:Nat)(L2:List Pk)(w0 W:World) : Prop where
 tr:TruthAt T X 2 L2 W
 ri:WhIn W
 x:AtX bx ⟨#[120]⟩ W
 y:AtX bY ⟨#[121]⟩ W
 bo:Rd encI 1 W.heap.size (some ⟨bo,0,none⟩) 2 [0,1] W
 on:Rd encI 1 W.heap.size (some ⟨bn,0,none⟩) 1 [0] W
 old:Below w0.heap.size w0 W
theorem Aw.then {T X bx bY bo bn:Nat}{L2:List Pk}{w0 W W':World}(h:Aw T X bx bY bo bn L2 w0 W)(hb:Below W.heap.size W W') : Aw T X bx bY bo bn L2 w0 W' :=
 ⟨h.tr.then hb,h.ri.below hb,h.x.then hb,h.y.then hb,(h.bo.below hb).more hb.size,(h.on.below hb).more hb.size,h.old.trans (hb.mono h.old.size)⟩
abbrev ax : RV := qQ0 [120]
abbrev ay : RV := qQ0 [121]
theorem qYA (W:World){l:List RV}(h:∀t∈l,t=ax \/ t=ay):∀t∈l,RTree W.heap.size W t := fun t ht=>by
 rcases h t ht with rfl|rfl
 iterate 2 ·exact qFT _ _ _ (by decide)
def PV : Nat->Dp->Bool := pvL (twoP none none)
theorem qY8 {k:Int}{l:List RV}{W W2:World}{cs:Array Value}(hcs:cs.toList=l.flatMap encR)(hn:l.length<=3)(h:∀t∈l,t=ax \/ t=ay)(hb:Below (W.alloc (.cells cs 39)).heap.size (W.alloc (.cells cs 39)) W2) : RTree W2.heap.size W2 (.node k qD4 (some ⟨W.heap.size,0,none⟩) l.length l) :=
 ((qUC rfl hcs (by unfold maxLen;omega) (qYA W h)).keeps hb).more hb.size
theorem qMJ {k:Int}{l:List RV}{A:Option Addr}{c:Nat}(hn:l.length<=3)(h:∀t∈l,t=ax \/ t=ay) : (RV.node k qD4 A c l).tree.parts<=1000000 := by
 have:∀l:List RV,(∀t∈l,t=ax \/ t=ay)->qA9 (qA1 l)=l.length:=by
  intro l
  induction l with
  | nil=>intro _;rfl
  | cons a l ih =>
   intro h;show a.tree.parts+qA9 (qA1 l)=l.length+1;rw[ih (fun t ht=>h t (List.mem_cons_of_mem _ ht))];rcases h a (List.mem_cons_self ..) with rfl|rfl
   iterate 2 ·show 1+l.length=_;omega
 show 1+qA9 (qA1 l)<=1000000;rw[this l h];omega
theorem qH7 {T X bx bY bo bn:Nat}{L2:List Pk}{w0 W W2:World}(hA:Aw T X bx bY bo bn L2 w0 W2)(hp:pvL L2=PV){k:Int}{l:List RV}{cs:Array Value}(hcs:cs.toList=l.flatMap encR)(hn:l.length<=3)(h:∀t∈l,t=ax \/ t=ay)(hb:Below (W.alloc (.cells cs 39)).heap.size (W.alloc (.cells cs 39)) W2)
  {b:Nat} {S:List Int} (hS:Rd encI 1 W2.heap.size (some ⟨b,0,none⟩) S.length S W2) {r:Bool} (hr:Tr.satS 2 PV S (.mk k qD4 (qA1 l))=r) :
  Calls Tryz.prog 40 #[.pointer (some ⟨T,0,none⟩),.slice (some ⟨b,0,none⟩) S.length S.length,.agg #[.int .u8 k,.string ⟨#[]⟩,.int .u8 0,.int .i64 0,.string ⟨#[]⟩,.string ⟨#[]⟩,.slice (some ⟨W.heap.size,0,none⟩) l.length l.length]] W2 fun e w'=>e=.returned (.bool r)/\Below W2.heap.size W2 w':=by
 have q:=qFQ hA.tr hA.ri (some ⟨b,0,none⟩) S.length S hS (.node k qD4 (some ⟨W.heap.size,0,none⟩) l.length l) (qY8 hcs hn h hb) (qMJ hn h);rw[hp,show (RV.node k qD4 (some ⟨W.heap.size,0,none⟩) l.length l).tree=RT.mk k qD4 (qA1 l) from rfl,hr]at q;exact q
theorem qTR {T X bx bY bo bn:Nat}{L2:List Pk}{w0 W W2:World}(hA:Aw T X bx bY bo bn L2 w0 W2)(hp:pvL L2=PV){k n:Int}{l:List RV}{cs:Array Value}(hcs:cs.toList=l.flatMap encR)(hn:l.length<=3)(h:∀t∈l,t=ax \/ t=ay)(hb:Below (W.alloc (.cells cs 39)).heap.size (W.alloc (.cells cs 39)) W2)
  {r:Bool} (hr:Tr.aloneS 2 PV n (.mk k qD4 (qA1 l))=r) :
  Calls Tryz.prog 43 #[.pointer (some ⟨T,0,none⟩),.int .i64 n,.agg #[.int .u8 k,.string ⟨#[]⟩,.int .u8 0,.int .i64 0,.string ⟨#[]⟩,.string ⟨#[]⟩,.slice (some ⟨W.heap.size,0,none⟩) l.length l.length]] W2 fun e w'=>e=.returned (.bool r)/\Below W2.heap.size W2 w':=by
 have q:=qEY hA.tr hA.ri n (.node k qD4 (some ⟨W.heap.size,0,none⟩) l.length l) (qY8 hcs hn h hb) (qMJ hn h);rw[hp,show (RV.node k qD4 (some ⟨W.heap.size,0,none⟩) l.length l).tree=RT.mk k qD4 (qA1 l) from rfl,hr]at q;exact q
theorem qY9 {T X bx bY bo bn:Nat}{L2:List Pk}{w0 W2:World}(hA:Aw T X bx bY bo bn L2 w0 W2)(hp:pvL L2=PV){l:List Int}(hr:Tr.whoS 2 PV [0,1] (qWP [120])=l) :
  Calls Tryz.prog 41 #[.pointer (some ⟨T,0,none⟩),.slice (some ⟨bo,0,none⟩) 2 2,.agg #[.int .u8 1,.string ⟨#[120]⟩,.int .u8 0,.int .i64 0,.string ⟨#[]⟩,.string ⟨#[]⟩,.slice none 0 0]] W2 fun e w' => ∃v,e=.returned v/\Own encI 1 W2.heap.size 3 v l w'/\Below W2.heap.size W2 w':=by
 have q:=qNJ hA.tr hA.ri (some ⟨bo,0,none⟩) 2 [0,1] hA.bo ax (qFT _ _ _ (by decide)) (by show 1<=1000000;decide);rw[hp,qNS,hr]at q;exact q
theorem aw1v : Tr.satS 2 PV [0,1] (.mk 2 qD4 (qA1 [ax,ay]))=true := by decide +kernel
theorem aw2v : Tr.satS 2 PV [0,1] (.mk 6 qD4 (qA1 [ax,ay]))=false := by decide +kernel
theorem aw3v : Tr.aloneS 2 PV 0 (.mk 7 qD4 (qA1 [ax,ay]))=true := by decide +kernel
theorem aw4v : Tr.satS 2 PV [0] (.mk 4 qD4 (qA1 [ax,ay]))=true := by decide +kernel
theorem aw5v : Tr.satS 2 PV [0] (.mk 4 qD4 (qA1 [ay,ax]))=false := by decide +kernel
theorem aw6v : Tr.satS 2 PV [0] (.mk 5 qD4 (qA1 [ax,ay]))=true := by decide +kernel
theorem aw7v : Tr.satS 2 PV [0] (.mk 4 qD4 (qA1 [ay,ay,ax]))=true := by decide +kernel
theorem aw8v : Tr.whoS 2 PV [0,1] (qWP [120])=[0] := by decide +kernel
