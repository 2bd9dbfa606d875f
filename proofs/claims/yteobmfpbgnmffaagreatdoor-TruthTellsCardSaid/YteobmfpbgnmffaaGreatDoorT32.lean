/- TrWho, RichArgs, RichArgsK -/
import Derived.Test.YteobmfpbgnmffaaGreatDoorT31
set_option linter.unusedVariables false
set_option maxHeartbeats 16000000
set_option maxRecDepth 100000
open Go.Lib (hid)
set_option linter.unusedSimpArgs false
namespace Go.Proofs.YteobmfpbgnmffaaGreatDoor
section
open Go.RowKit Go.Shelf
theorem qEY {T X N:Nat}{L:List Pk}{w:World}(hT:TruthAt T X N L w)(hI:WhIn w)(n:Int)(R:RV)(hR:RTree w.heap.size w R)(hp:R.tree.parts<=1000000) :
  Calls Tryz.prog 43 #[.pointer (some ⟨T,0,none⟩),.int .i64 n,R.val] w fun e w'=>e=.returned (.bool (Tr.aloneS N (pvL L) n R.tree))/\Below w.heap.size w w':=by
 have b1:=(Below.refl w.heap.size w).alloc lR (.cells #[.int .u8 R.kind,.string (bs R.dep.name),.int .u8 R.dep.op,.int .i64 R.dep.evr.epoch,.string (bs R.dep.evr.ver),.string (bs R.dep.evr.rel),.slice R.addr R.args.length R.cap] 39);have RB:=RBx.new R w;have SA:=hid (fun W b (hb:Below w.heap.size w W) (hr:Rd encI 1 W.heap.size (some ⟨b,0,none⟩) 1 [n] W)=>qFQ (hT.then hb) (hI.below hb) (some ⟨b,0,none⟩) 1 [n] hr R ((hR.keeps hb).more hb.size) hp);have t1:=(hT.then b1).c1;obtain⟨res,hres⟩:∃res,res=Tr.aloneS N (pvL L) n R.tree:=⟨_,rfl⟩;rw[<- hres];unfold Tr.aloneS at hres;have HRS:=hid hres;have B1:=hid b1;have RBV:=hid RB;clear hT hI hR hp hres;generalize Tr.satS N (pvL L) [n] R.tree=r at *;unfold RV.val at *;clear b1 RB;by_cases h0:0<=n
 ·by_cases h1:n<(N:Int)
  ·have HE:=hid (show res=r from by rw[HRS.out,decide_eq_true h0,decide_eq_true h1];rfl);have bx:=RBV.out.then (bR.alloc lR (.cells #[.int .i64 n] 3));obtain⟨_,c0,c1,c2,c3,c4,c5,c6⟩:=bx;have BA:=hid (B1.out.alloc B1.out.size (.cells #[.int .i64 n] 3));have SB:=hid (SA.out _ (w.heap.size+1) BA.out (by have q:=qCP (x:=n) (g:=(w.alloc (.cells #[.int .u8 R.kind,.string (bs R.dep.name),.int .u8 R.dep.op,.int .i64 R.dep.evr.epoch,.string (bs R.dep.evr.ver),.string (bs R.dep.evr.rel),.slice R.addr R.args.length R.cap] 39)).heap.size) (W:=(w.alloc (.cells #[.int .u8 R.kind,.string (bs R.dep.name),.int .u8 R.dep.op,.int .i64 R.dep.evr.epoch,.string (bs R.dep.evr.ver),.string (bs R.dep.evr.rel),.slice R.addr R.args.length R.cap] 39)).alloc (.cells #[.int .i64 n] 3)) (by simp) ((World.cell?_alloc_at _ _ _ _ rfl).trans rfl);rw[World.size_alloc (w:=w)]at q;exact q));rw[show [n].length=1 from rfl]at SB;clear SA RBV
   go_enter Tryz.func43,Tryz.ntmps43
   go_wp2_with fail
   go_at_call 40
   refine SB.out.mono ?_;rintro en w2 ⟨rfl,h⟩;have B2:=hid (BA.out.trans (h.mono BA.out.size));clear h;go_wp2_with fail
   go_ret;exact⟨by rw[HE.out];rfl,B2.out⟩
  ·have HE:=hid (show res=false from by rw[HRS.out,decide_eq_true h0,decide_eq_false h1];rfl);clear SA
   go_enter Tryz.func43,Tryz.ntmps43
   go_wp2_with fail
   go_ret;exact⟨by rw[HE.out];rfl,B1.out⟩
 ·have HE:=hid (show res=false from by rw[HRS.out,decide_eq_false h0];rfl);clear SA
  go_enter Tryz.func43,Tryz.ntmps43
  go_wp2_with fail
  go_ret;exact⟨by rw[HE.out];rfl,B1.out⟩
theorem qYG (T rb N:Nat)(w:World) : (Instr.field 145 (.agg #[.pointer (some ⟨T,0,none⟩),.slice (some ⟨rb,0,none⟩) N N]) 1).run Tryz.prog w=.ok (.slice (some ⟨rb,0,none⟩) N N) w := by
 first|rfl|kernel_rfl|simp[go_sem]
def whoK (N:Nat)(pv:Nat->Dp->Bool)(S:List Int)(t:RT)(k:Nat) : List Int := ((List.range k).filter fun n=>St.inS S n && Tr.aloneS N pv (n:Int) t).map fun n : Nat=>(n:Int)
theorem qKO {N:Nat}{pv:Nat->Dp->Bool}{S:List Int}{t:RT}(k:Nat) : whoK N pv S t (k+1)=whoK N pv S t k++(if St.inS S k && Tr.aloneS N pv (k:Int) t then [(k:Int)] else []) := by
 unfold whoK;rw[List.range_succ,List.filter_append,List.map_append]
 congr 1
 rw[List.filter_cons];split<;>rfl
theorem qIR {N:Nat}{pv:Nat->Dp->Bool}{S:List Int}{t:RT}(k:Nat) : (whoK N pv S t k).length<=k := by
 unfold whoK;rw[List.length_map];have:=List.length_filter_le (fun n:Nat=>St.inS S n && Tr.aloneS N pv (n:Int) t) (List.range k)
 rwa [List.length_range]at this
theorem qNJ {T X N:Nat}{L:List Pk}{w:World}(hT:TruthAt T X N L w)(hI:WhIn w)(A:Option Addr)(c:Nat)(S:List Int)(hS:Rd encI 1 w.heap.size A c S w)(R:RV)(hR:RTree w.heap.size w R)(hp:R.tree.parts<=1000000) :
  Calls Tryz.prog 41 #[.pointer (some ⟨T,0,none⟩),.slice A S.length c,R.val] w fun e w' => ∃v,e=.returned v/\Own encI 1 w.heap.size 3 v (Tr.whoS N (pvL L) S R.tree) w'/\Below w.heap.size w w':=by
 have b1:=(Below.refl w.heap.size w).alloc lR (.cells #[.int .u8 R.kind,.string (bs R.dep.name),.int .u8 R.dep.op,.int .i64 R.dep.evr.epoch,.string (bs R.dep.evr.ver),.string (bs R.dep.evr.rel),.slice R.addr R.args.length R.cap] 39);have RB:=RBx.new R w;have AL:=hid (fun (n:Int) W (hb:Below w.heap.size w W)=>qEY (hT.then hb) (hI.below hb) n R ((hR.keeps hb).more hb.size) hp);have ST:=hid (fun W (hb:Below w.heap.size w W)=>qGQ (hT.then hb) A c S ((hS.below hb).more hb.size));have hN:=hT.hN;have WS:=hid (fun k=>qKO (N:=N) (pv:=pvL L) (S:=S) (t:=R.tree) k);have WL:=hid (fun k=>qIR (N:=N) (pv:=pvL L) (S:=S) (t:=R.tree) k);have WE:=hid (show whoK N (pvL L) S R.tree N=Tr.whoS N (pvL L) S R.tree from rfl);have W0:=hid (show whoK N (pvL L) S R.tree 0=[] from rfl);generalize Tr.whoS N (pvL L) S R.tree=ws at *;obtain⟨i0,hi,hz0,hz1,hz2⟩:=info_parts qFH;have B1:=hid b1;have RBV:=hid RB;clear hT hI hS hR hp b1 RB;unfold RV.val at *;generalize S.length=m at *
 go_enter Tryz.func41,Tryz.ntmps41
 go_wp2_with fail
 obtain⟨V,hV⟩:∃V,V=w.alloc (.cells #[.int .u8 R.kind,.string (bs R.dep.name),.int .u8 R.dep.op,.int .i64 R.dep.evr.epoch,.string (bs R.dep.evr.ver),.string (bs R.dep.evr.rel),.slice R.addr R.args.length R.cap] 39):=⟨_,rfl⟩;rw[<- hV]at B1 RBV |-;clear hV;go_at_call 94
 refine (ST.out V B1.out).mono ?_;rintro en W1 ⟨rb,rfl,hask,_,h⟩;have B2:=hid (B1.out.trans (h.mono B1.out.size));have R2:=hid (RBV.out.then h);have AK:=hid hask;clear h hask B1 RBV ST;unfold askW;have hfl:=qYG T rb N;go_wp2_with fail
 go_loopw[7,17] (fun v iv wr => ∃k:Nat,k<=N/\iv=.int .i64 (k:Int)/\Own encI 1 W1.heap.size 3 v (whoK N (pvL L) S R.tree k) wr/\Below W1.heap.size W1 wr) (fun _ iv _=>N - (intOf iv).toNat)
 case atStart=>exact⟨0,Nat.zero_le _,rfl,by rw[W0.out];exact Own.nil_ _ _ _,Below.refl _ _⟩
 case round =>
  obtain⟨k,hk,rfl,how,hB1⟩:=hrel;rename World=>wr
  have OW:=hid how;have HB1:=hid hB1;have HB:=hid (B2.out.trans (hB1.mono B2.out.size));have RW:=hid (R2.out.then hB1);have AW:=hid (AK.out.then hB1);clear how hB1;by_cases hlt:k<N
  ·have r0:=(AW.out.row k hlt).1;have WK:=hid (WS.out k);have WKL:=hid (WL.out k);have ALK:=hid (AL.out (k:Int) wr HB.out);have i0':(0:Int)<=(k:Int):=by omega
   have i1:(k:Int)<(N:Int):=by omega
   generalize St.inS S k=fk at *;generalize Tr.aloneS N (pvL L) (k:Int) R.tree=ak at *;cases fk
   ·have WK2:=hid (show whoK N (pvL L) S R.tree (k+1)=whoK N (pvL L) S R.tree k from by rw[WK.out];simp);clear ALK WK;go_wp2_with fail
    go_roundw
    case rel=>exact⟨k+1,by omega,by go_num,by rw[WK2.out];exact OW.out,HB1.out⟩
    case measure=>simp[intOf];omega
   ·obtain⟨_,c0,c1,c2,c3,c4,c5,c6⟩:=RW.out;go_wp2_with fail
    go_at_call 43
    refine ALK.out.mono ?_;rintro en w9 ⟨rfl,h⟩;have OW9:=hid (Own.below OW.out h lR);have HB9:=hid (HB.out.trans (h.mono HB.out.size));have HC9:=hid (HB1.out.trans (h.mono HB1.out.size));clear h OW ALK c0 c1 c2 c3 c4 c5 c6 r0;cases ak
    ·have WK2:=hid (show whoK N (pvL L) S R.tree (k+1)=whoK N (pvL L) S R.tree k from by rw[WK.out];simp);clear WK;go_wp2_with fail
     go_roundw
     case rel=>exact⟨k+1,by omega,by go_num,by rw[WK2.out];exact OW9.out,HC9.out⟩
     case measure=>simp[intOf];omega
    ·have WK2:=hid (show whoK N (pvL L) S R.tree (k+1)=whoK N (pvL L) S R.tree k++[(k:Int)] from by rw[WK.out];simp);have HW1:=hid (show w.heap.size<=W1.heap.size from B2.out.size);clear WK;go_wp2_with (at_builtin;refine wpList_append_own _ rfl _ _ 42 rfl W1.heap.size 3 i0 (.int .i64 0) 1 8 Tryz.underlying42 hi hz0 hz1 hz2 rfl (by decide) _ _ _ rfl (World.ownsRow.alloc OW9.out _) ⟨w9.heap.size,0,none⟩ 1 1 [.int .i64 (k:Int)] rfl rfl ?c1 ?c2 ?c3 ?c4 ?c5 ?c6)
     case c1=>exact cell_one_new _ _ _
     case c2=>simp[Value.oneCell']
     case c3=>have:=WKL.out;unfold maxLen;omega
     case c4=>have:=WKL.out;omega
     case c5=>simp only[World.size_alloc];have:=HC9.out.size;omega
     case c6 =>
      intro v' w6 ho6 hg6 _;have OV6:=hid (Own.snoc (x:=(k:Int)) ho6);have B6:=hid ((HC9.out.alloc HC9.out.size _).grown hg6 (by simp only[World.size_alloc];have:=HC9.out.size;omega) (fun j hj=>(World.ownsRow.lt OW9.out j hj).1));clear ho6 hg6;go_wp2_with fail
      go_roundw
      case rel=>exact⟨k+1,by omega,by go_num,by rw[WK2.out];exact OV6.out,B6.out⟩
      case measure=>simp[intOf];omega
  ·obtain rfl:k=N:=by omega
   have i1:¬(k:Int)<(k:Int):=by omega
   have OWE:=hid (WE.out ▸ OW.out);clear OW;go_wp2_with fail
   go_ret;exact⟨_,rfl,OWE.out.more B2.out.size,HB.out⟩
end
section
open Go.ChangeShapes Go.WideShapes Go.ChangeAt Go.RowKit
theorem qLE {α:Type}{P:Nat->α->Prop} : ∀n : Nat,(∀i,i<n -> ∃t,P i t) -> ∃l : List α,l.length=n /\ ∀i (h:i<l.length),P i l[i]
 |0,_=>⟨[],rfl,fun i h=>by simp at h⟩
 | n+1,h=>by
  obtain⟨l,hl,hp⟩:=qLE n (fun i hi=>h i (by omega));obtain⟨t,ht⟩:=h n (by omega);refine⟨l++[t],by simp[hl],fun i hi => ?_⟩;rw[List.length_append]at hi;simp at hi;by_cases e:i<l.length
  ·rw[List.getElem_append_left e];exact hp i e
  ·obtain rfl:i=l.length:=by omega
   rw[List.getElem_append_right lR]
   simpa [hl] using ht
section
variable {H:Type}{enc:TypeId × Value->H}{P:Program}{W:World}{held:Bool}{t e ti ts tu te td tr tl:TypeId}{f0 f1 f2 g0 g1 g2 r0 r1 r2:Field}{sp:Nat->Bool}
theorem qEJ {α:Type}{encT:α->List Value}{Q:α->Prop}{k n:Nat}{cs:List Value}{x:DataW H × List MemPlace}(ht:P.underlying t=some (.slice e))(hk:P.cellsOf e=k)(k0:0<k)
  (hel:∀m cs x,m<n->DataW.trod enc P W 0 sp held m e cs=some x -> ∃y,cs=encT y/\Q y) (h:DataW.trod enc P W 0 sp held n t cs=some x) :
  ∃A cap,∃l:List α,cs=[.slice A l.length cap]/\Rd encT k W.heap.size A cap l W /\ ∀y∈l,Q y:=by
 rcases DataW.trod_slice ht h with⟨hcs,_⟩|⟨a,len,cap,elems,rest,m,hnm,hcs,_,_,hl,hm,hlen,hel2,_⟩
 ·exact⟨none,0,[],hcs,Rd.nil_ (Nat.zero_le _),fun y hy=>by cases hy⟩
 ·have each:∀i,i<len -> ∃y,(W.cells? 0 (a.add (i * k)) k=some (encT y))/\Q y:=fun i hi=>by
   have h1:=hel2 i hi;rw[List.getElem?_eq_getElem (by omega),hk]at h1;obtain⟨c,hc,hd⟩:=Option.bind_eq_some_iff.1 h1;obtain⟨y,rfl,hq⟩:=hel m c _ (by omega) hd;exact⟨y,hc,hq⟩
  obtain⟨l,hll,hp⟩:=qLE len each;refine⟨some a,cap,l,by rw[hll];exact hcs,⟨by omega,hm,fun i hi => ?_⟩,fun y hy=>by obtain⟨i,hi,rfl⟩:=List.getElem_of_mem hy;exact (hp i hi).2⟩;obtain⟨hc,_⟩:=hp i hi;obtain⟨b,off,spot⟩:=a;have hlt:=World.cells?_block hc k0;obtain⟨_,hlen2,hcell⟩:=World.cells?_some hc;have hsp:spot=none:=by
   obtain⟨hc0,_⟩:=hp 0 (by omega);obtain⟨_,hlen0,hcell0⟩:=World.cells?_some hc0;have h0:=hcell0 0 k0;rw[List.getElem?_eq_getElem (show 0<(encT l[0]).length by omega),Nat.zero_mul]at h0;exact World.cell?_spot h0
  subst hsp;refine⟨b,off,rfl,?_,fun j u hu => ?_⟩
  ·have:(Addr.add ⟨b,off,none⟩ (i * k)).block=b:=by rw[Addr.add_lit]
   rw[<- this];exact hlt
  ·have hj:j<k:=by have:=(List.getElem?_eq_some_iff.1 hu).1;omega
   have h0:=hcell j hj;rw[hu]at h0;have hadd:((⟨b,off,none⟩:Addr).add (i * k)).add j=⟨b,off+i * k+j,none⟩:=by rw[Addr.add_lit,Addr.add_lit]
   rw[hadd]at h0;exact h0
theorem qIQ {n:Nat}{cs:List Value}{x:DataW H × List MemPlace}(hd:P.underlying t=some (.struct #[g0,g1,g2]))(hG:(g0.type,g0.offset,g1.type,g1.offset,g2.type,g2.offset)=(ts,0,tu,1,te,2))
  (hs:P.underlying te=some (.struct #[f0,f1,f2])) (hF:(f0.type,f0.offset,f1.type,f1.offset,f2.type,f2.offset)=(ti,0,ts,1,ts,2))
  (hi:P.underlying ti=some (.int .i64)) (hst:P.underlying ts=some .string) (hu:P.underlying tu=some (.int .u8)) (hC:(P.cellsOf ti == 1 && P.cellsOf ts == 1 && P.cellsOf te == 3 && P.cellsOf tu == 1 && P.cellsOf t == 5)=true)
  (h:DataW.trod enc P W 0 sp held n t cs=some x):∃d:Dp,cs=encD d/\d.wf:=by
 simp only[Bool.and_eq_true,beq_iff_eq]at hC;obtain⟨⟨⟨⟨c1,c2⟩,c3⟩,c4⟩,c5⟩:=hC;obtain⟨xs,m,_,hx,hl,hlen,hg⟩:=DataW.trod_struct hd h;have q0:=hg 0 g0 rfl;have q1:=hg 1 g1 rfl;have q2:=hg 2 g2 rfl;simp only[Prod.mk.injEq]at hG
 match xs,hlen with
 | [y0,y1,y2],_ =>
  rw[c5]at hl
  match cs,hl with
  | [v0,v1,v2,v3,v4],_ =>
   simp only[hG,c2,c4,c3,List.drop_zero,List.drop_succ_cons,List.take_succ_cons,List.take_zero]at q0 q1 q2;obtain⟨s0,e0,_,w0⟩:=DataW.trod_string hst (show DataW.trod enc P W 0 sp held m ts [v0]=some y0 from q0);obtain⟨k1,e1,_,w1⟩:=DataW.trod_int hu (show DataW.trod enc P W 0 sp held m tu [v1]=some y1 from q1);obtain⟨e,he,hw⟩:=qNG hs hF hi hst (by simp[c1,c2,c3]) (show DataW.trod enc P W 0 sp held m te [v2,v3,v4]=some y2 from q2);cases e0;cases e1;cases he
   exact⟨⟨s0.toList,k1,e⟩,by simp only[encD,qCE],by rw[qA7];exact w0,w1,hw⟩
theorem qT5 (hr:P.underlying tr=some (.struct #[r0,r1,r2]))(hR:(r0.type,r0.offset,r1.type,r1.offset,r2.type,r2.offset)=(tu,0,td,1,tl,6))(hl0:P.underlying tl=some (.slice tr))
  (hd:P.underlying td=some (.struct #[g0,g1,g2])) (hG:(g0.type,g0.offset,g1.type,g1.offset,g2.type,g2.offset)=(ts,0,tu,1,te,2))
  (hs:P.underlying te=some (.struct #[f0,f1,f2])) (hF:(f0.type,f0.offset,f1.type,f1.offset,f2.type,f2.offset)=(ti,0,ts,1,ts,2))
  (hi:P.underlying ti=some (.int .i64)) (hst:P.underlying ts=some .string) (hu:P.underlying tu=some (.int .u8)) (hC:(P.cellsOf ti == 1 && P.cellsOf ts == 1 && P.cellsOf te == 3 && P.cellsOf tu == 1 && P.cellsOf td == 5)=true) (hC2:(P.cellsOf tr == 7 && P.cellsOf tl == 1)=true) :
  ∀(n:Nat) (cs:List Value) (x:DataW H × List MemPlace),DataW.trod enc P W 0 sp held n tr cs=some x -> ∃y:RV,cs=encR y/\RTree W.heap.size W y:=by
 intro n
 induction n using Nat.strongRecOn with
 | _ n ih =>
  intro cs x h;have hC0:=hC;simp only[Bool.and_eq_true,beq_iff_eq]at hC hC2;obtain⟨⟨⟨⟨c1,c2⟩,c3⟩,c4⟩,c5⟩:=hC;obtain⟨c6,c7⟩:=hC2;obtain⟨xs,m,hm,hx,hl,hlen,hg⟩:=DataW.trod_struct hr h;have q0:=hg 0 r0 rfl;have q1:=hg 1 r1 rfl;have q2:=hg 2 r2 rfl;simp only[Prod.mk.injEq]at hR
  match xs,hlen with
  | [y0,y1,y2],_ =>
   rw[c6]at hl
   match cs,hl with
   | [v0,v1,v2,v3,v4,v5,v6],_ =>
    simp only[hR,c4,c5,c7,List.drop_zero,List.drop_succ_cons,List.take_succ_cons,List.take_zero]at q0 q1 q2;obtain⟨k0,e0,_,w0⟩:=DataW.trod_int hu (show DataW.trod enc P W 0 sp held m tu [v0]=some y0 from q0);obtain⟨d,e1,w1⟩:=qIQ hd hG hs hF hi hst hu hC0 (show DataW.trod enc P W 0 sp held m td [v1,v2,v3,v4,v5]=some y1 from q1);obtain⟨A,cap,l,e2,hrd,hq⟩:=qEJ (encT:=encR) (Q:=RTree W.heap.size W) hl0 c6 (by decide) (fun m' cs' x' hm' h'=>ih m' (by omega) cs' x' h') (show DataW.trod enc P W 0 sp held m tl [v6]=some y2 from q2);cases e0;cases e2
    simp only[encD,List.cons.injEq,and_true]at e1;obtain⟨rfl,rfl,rfl,rfl,rfl⟩:=e1;exact⟨.node k0 d A cap l,rfl,.mk w1 hrd hq⟩
theorem qTM {r:Reach}{b0:Nat}{v:Value}{d:DataW H}{p:List MemPlace}(hr:P.underlying tr=some (.struct #[r0,r1,r2]))(hR:(r0.type,r0.offset,r1.type,r1.offset,r2.type,r2.offset)=(tu,0,td,1,tl,6))(hl0:P.underlying tl=some (.slice tr))
  (hd:P.underlying td=some (.struct #[g0,g1,g2])) (hG:(g0.type,g0.offset,g1.type,g1.offset,g2.type,g2.offset)=(ts,0,tu,1,te,2))
  (hs:P.underlying te=some (.struct #[f0,f1,f2])) (hF:(f0.type,f0.offset,f1.type,f1.offset,f2.type,f2.offset)=(ti,0,ts,1,ts,2))
  (hi:P.underlying ti=some (.int .i64)) (hst:P.underlying ts=some .string) (hu:P.underlying tu=some (.int .u8)) (hC:(P.cellsOf ti == 1 && P.cellsOf ts == 1 && P.cellsOf te == 3 && P.cellsOf tu == 1 && P.cellsOf td == 5)=true) (hC2:(P.cellsOf tr == 7 && P.cellsOf tl == 1)=true)
  (hval:Value.okWide P W r b0 tr v) (h:DataW.Trod enc P W 0 sp held tr v d p):∃y:RV,v=.agg (encR y).toArray/\RTree W.heap.size W y:=by
 obtain⟨cs,rfl,hsz⟩:=okWide_struct hr hval;obtain⟨fuel,hf⟩:=h;obtain⟨y,he,hT⟩:=qT5 hr hR hl0 hd hG hs hF hi hst hu hC hC2 fuel _ _ hf;obtain⟨l⟩:=cs;have he':l=encR y:=he;exact⟨y,by rw[he'],hT⟩
end
end
section
open Go.ChangeShapes Go.WideShapes Go.ChangeAt Go.RowKit
theorem qWS {k:Int}(h:(Lit.int .u8 k).wf=true) : 0<=k/\k<=255 := by
 have h2:IntKind.u8.min<=k/\k<=IntKind.u8.max:=by simpa [Lit.wf] using h
 exact h2
section
variable {H:Type}{enc:TypeId × Value->H}{P:Program}{W:World}{held:Bool}{t e ti ts tu te td tr tl:TypeId}{f0 f1 f2 g0 g1 g2 r0 r1 r2:Field}{sp:Nat->Bool}
theorem qPK (hr:P.underlying tr=some (.struct #[r0,r1,r2]))(hR:(r0.type,r0.offset,r1.type,r1.offset,r2.type,r2.offset)=(tu,0,td,1,tl,6))(hl0:P.underlying tl=some (.slice tr))
  (hd:P.underlying td=some (.struct #[g0,g1,g2])) (hG:(g0.type,g0.offset,g1.type,g1.offset,g2.type,g2.offset)=(ts,0,tu,1,te,2))
  (hs:P.underlying te=some (.struct #[f0,f1,f2])) (hF:(f0.type,f0.offset,f1.type,f1.offset,f2.type,f2.offset)=(ti,0,ts,1,ts,2))
  (hi:P.underlying ti=some (.int .i64)) (hst:P.underlying ts=some .string) (hu:P.underlying tu=some (.int .u8)) (hC:(P.cellsOf ti == 1 && P.cellsOf ts == 1 && P.cellsOf te == 3 && P.cellsOf tu == 1 && P.cellsOf td == 5)=true) (hC2:(P.cellsOf tr == 7 && P.cellsOf tl == 1)=true) :
  ∀(n:Nat) (cs:List Value) (x:DataW H × List MemPlace),DataW.trod enc P W 0 sp held n tr cs=some x -> ∃y:RV,cs=encR y/\(RTree W.heap.size W y/\KO y):=by
 intro n
 induction n using Nat.strongRecOn with
 | _ n ih =>
  intro cs x h;have hC0:=hC;simp only[Bool.and_eq_true,beq_iff_eq]at hC hC2;obtain⟨⟨⟨⟨c1,c2⟩,c3⟩,c4⟩,c5⟩:=hC;obtain⟨c6,c7⟩:=hC2;obtain⟨xs,m,hm,hx,hl,hlen,hg⟩:=DataW.trod_struct hr h;have q0:=hg 0 r0 rfl;have q1:=hg 1 r1 rfl;have q2:=hg 2 r2 rfl;simp only[Prod.mk.injEq]at hR
  match xs,hlen with
  | [y0,y1,y2],_ =>
   rw[c6]at hl
   match cs,hl with
   | [v0,v1,v2,v3,v4,v5,v6],_ =>
    simp only[hR,c4,c5,c7,List.drop_zero,List.drop_succ_cons,List.take_succ_cons,List.take_zero]at q0 q1 q2;obtain⟨k0,e0,_,w0⟩:=DataW.trod_int hu (show DataW.trod enc P W 0 sp held m tu [v0]=some y0 from q0);obtain⟨d,e1,w1⟩:=qIQ hd hG hs hF hi hst hu hC0 (show DataW.trod enc P W 0 sp held m td [v1,v2,v3,v4,v5]=some y1 from q1);obtain⟨A,cap,l,e2,hrd,hq⟩:=qEJ (encT:=encR) (Q:=fun y=>RTree W.heap.size W y/\KO y) hl0 c6 (by decide) (fun m' cs' x' hm' h'=>ih m' (by omega) cs' x' h') (show DataW.trod enc P W 0 sp held m tl [v6]=some y2 from q2);cases e0;cases e2
    simp only[encD,List.cons.injEq,and_true]at e1;obtain⟨rfl,rfl,rfl,rfl,rfl⟩:=e1;exact⟨.node k0 d A cap l,rfl,.mk w1 hrd (fun a ha=>(hq a ha).1),.mk (qWS w0) (fun a ha=>(hq a ha).2)⟩
end
