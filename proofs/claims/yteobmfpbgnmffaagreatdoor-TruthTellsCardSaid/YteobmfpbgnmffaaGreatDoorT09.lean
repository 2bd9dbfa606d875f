/- RichCopy9, RefCopied, RegInv, RegInv2, DepLaw, VmLaw, SpHas -/
import Derived.Test.YteobmfpbgnmffaaGreatDoorT08
set_option linter.unusedVariables false
set_option maxHeartbeats 16000000
set_option maxRecDepth 100000
open Go.Lib (hid)
set_option linter.unusedSimpArgs false
namespace Go.Proofs.YteobmfpbgnmffaaGreatDoor
open Go.RowKit Go.Shelf
section
theorem qHN:∀(f:Nat) (t:RV) (w:World),t.ht<=f->t.tree.parts<=1000000->RTree w.heap.size w t->Calls Tryz.prog 122 #[t.val] w (qBK t w)
 |0,t,w,hf,_,_=>absurd hf (by rw[qAN];omega)
 | f+1,t,w,hf,hp,ha=>by
  have IH:=hid (fun x W h1 h2 h3=>qHN f x W h1 h2 h3);have HA:=hid ha.rrow;have HF:=hid (show htL t.args<=f by rw[qAN]at hf;omega);have HP:=hid (show 1+qA9 (qA1 t.args)<=1000000 by rw[qAD t,RT.parts]at hp;exact hp);have HL:=hid (show t.args.length<=999999 by have h1:=HP.out;have h2:=qBS (qA1 t.args);rw[qA5]at h2;omega);have hm:=ha.row.len;have C0:=hid (Cp.start (w:=w) (t:=t));have hz0:(0:Nat)=0:=rfl;unfold RV.val;clear ha hf hp hz0
  go_enter Tryz.func122,Tryz.ntmps122
  go_wp2_with fail
  go_loopw[4] (fun iv wr => ∃(i:Nat) (l:List RV) (v:Value),i<=t.args.length/\iv=.int .i64 (i:Int)/\qA1 l=(qA1 t.args).take i/\Cp w t l v wr) (fun iv _=>t.args.length - (intOf iv).toNat)
  case atStart=>exact⟨0,[],.slice none 0 0,Nat.zero_le _,rfl,by simp[qA1],C0.out⟩
  case round =>
   obtain⟨i,l,v,hi,rfl,hl,hC⟩:=hrel;rename World=>wr
   have C:=hid hC;have HTL:=hid hl;clear hC hl C0;obtain⟨⟨a0,a1,a2,a3,a4,a5,a6⟩,_,al⟩:=id C.out.inp;by_cases hlt:i<t.args.length
   ·have TA:=((HA.out.below C.out.old).2 _ (List.getElem_mem hlt)).more C.out.old.size;have hwf:=TA.wf;have hht:=Nat.le_trans (qBN (List.getElem_mem hlt)) HF.out;have hkt:i<(qA1 t.args).length:=by rw[qA5];exact hlt
    have hpp:=qBR (l:=qA1 t.args) hkt;rw[qAI t.args i hlt]at hpp;have HC:=hid (fun (W:World) (hb:Below wr.heap.size wr W)=>(IH.out t.args[i] W hht (by have:=HP.out;omega) ((TA.keeps hb).more hb.size)).mono fun e w' h=>qBK.tq hwf h);obtain⟨b,o,hadr,hb,e0,e1,e2,e3,e4,e5,e6⟩:=(HA.out.below C.out.old).at_ hlt
    rw[hadr]at a6 |-;have HTN:=hid (show ∀rv:RV,rv.tree=t.args[i].tree->qA1 (l++[rv])=(qA1 t.args).take (i+1) from fun rv h=>by rw[qEH,HTL.out,qAX _ _ hkt,qAI t.args i hlt];simp only[qA1,h]);have HLL:=hid (show l.length<=999999 by have h1:=congrArg List.length HTL.out;rw[qA5,List.length_take,qA5]at h1;have:=HL.out;omega);have HV:=hid (show ∀b,v.ownBlock=some b->b<wr.drew.heap.size from fun b hb=>(World.ownsRow.lt C.out.own b hb).2);obtain⟨⟨g0,g1,g2,g3,g4,g5,g6⟩,⟨f0,f1,f2,f3,f4,f5,f6⟩,gl⟩:=id C.out.out;have i0:(0:Int)<=(i:Int):=by omega
    have i1:(i:Int)<(t.args.length:Int):=by omega
    unfold RV.val at HC;clear TA hwf hht hkt hpp IH;generalize t.args[i]=x at *;generalize t.args.length=n at *;go_wp2_with fail
    go_region_law (first|(refine qCH (P:=Tryz.prog) _ rfl _ _ 25 rfl (w.heap.size+3) 39 _ _ 7 _ (by rfl) (by rfl) (by rfl) (by rfl) (by rfl) (by rfl) (by decide) qC0 qE3 v _ _ rfl (World.ownsRow.alloc C8.out.own _) (w8.heap.size+1) (some ⟨w8.heap.size,0,none⟩) 1 [rv2] 1 rfl rfl (qN6 w8 rv2) (by have:=HLL.out;simp;omega) (by decide) (by have:=C8.out.old.size;have:=C8.out.out.2.2;simp;omega) ?_;intro v2 w9 ho2 hg2 hv2;simp only[List.length_cons,List.length_nil,Nat.zero_add,List.flatMap_cons,List.flatMap_nil,List.append_nil]at ho2;obtain⟨y6,z6,zl⟩:=C8.out.held hg2;obtain⟨AA,cc,rfl⟩:=qAG ho2)|(go_simp;go_at_call 122;refine (HC.out _ bR.drew).mono ?_;rintro en w8 ⟨rv2,rfl,hrt2,hT2,hB8⟩;have C8:=hid ((C.out.call bR.drew).call hB8);have q6:=C8.out.out.1.2.2.2.2.2.2;have el:=C8.out.out.2.2;have HT2:=hid hT2;have HRT:=hid hrt2;clear hT2 hB8 hrt2;(try unfold RV.val);(try dsimp only)))
    all_goals
     have C9:=hid (C8.out.arg HT2.out (by have:=C.out.out.2.2;show w.heap.size+3<=wr.heap.size;omega) HV.out ho2 hg2 hv2);have HS:=hid (HTN.out rv2 HRT.out);clear y6 z6 zl q6 el ho2 hg2 hv2 HT2 C8 a0 a1 a2 a3 a4 a5 a6 al e0 e1 e2 e3 e4 e5 e6 g0 g1 g2 g3 g4 g5 g6 f0 f1 f2 f3 f4 f5 f6 gl;generalize w9.setCell ⟨w.heap.size+2,6,none⟩ (.slice AA (l.length+1) cc)=w10 at *;go_wp2_with fail
     go_roundw
     case rel=>exact⟨i+1,l++[rv2],.slice AA (l.length+1) cc,by omega,by go_num,HS.out,C9.out⟩
     case measure=>simp[intOf];omega
   ·obtain rfl:i=t.args.length:=by omega
    have HFULL:=hid (show qA1 l=qA1 t.args by rw[HTL.out,List.take_of_length_le (by rw[qA5];exact Nat.le_refl _)]);have i1:¬(t.args.length:Int)<(t.args.length:Int):=by omega
    obtain⟨AA,cc,hv⟩:=qAG C.out.own;subst hv;obtain⟨⟨g0,g1,g2,g3,g4,g5,g6⟩,_,gl⟩:=id C.out.out;obtain⟨⟨r0,r1,r2,r3,r4,r5,r6⟩,⟨k0,k1,k2,k3,k4,k5,k6⟩,rl⟩:=id C.out.res;clear hlt IH HTL;go_wp2_with fail
    have XF:=C.out.res.store (.int .u8 t.kind) (.string (bs t.dep.name)) (.int .u8 t.dep.op) (.int .i64 t.dep.evr.epoch) (.string (bs t.dep.evr.ver)) (.string (bs t.dep.evr.rel)) (.slice AA l.length cc);have hz:=qCY (w.heap.size+1) (.int .u8 t.kind) (.string (bs t.dep.name)) (.int .u8 t.dep.op) (.int .i64 t.dep.evr.epoch) (.string (bs t.dep.evr.ver)) (.string (bs t.dep.evr.rel)) (.slice AA l.length cc) wr;have hk:∀b,b≠w.heap.size+1->(qBO (w.heap.size+1) (.int .u8 t.kind) (.string (bs t.dep.name)) (.int .u8 t.dep.op) (.int .i64 t.dep.evr.epoch) (.string (bs t.dep.evr.ver)) (.string (bs t.dep.evr.rel)) (.slice AA l.length cc) wr).heap[b]?=wr.heap[b]?:=fun b hb=>qBZ _ _ _ _ _ _ _ _ _ hb;unfold qBO at XF;obtain⟨⟨j0,j1,j2,j3,j4,j5,j6⟩,_⟩:=XF;refine bodyPost_ret (v:=.agg #[.int .u8 t.kind,.string (bs t.dep.name),.int .u8 t.dep.op,.int .i64 t.dep.evr.epoch,.string (bs t.dep.evr.ver),.string (bs t.dep.evr.rel),.slice AA l.length cc]) (by simp[results,Tryz.results122,go_sem,j0,j1,j2,j3,j4,j5,j6];try rfl) rfl ?_
    exact⟨AA,cc,l,rfl,HFULL.out,qAP C.out.own (by omega) (fun g hg=>hk g (by have:=(World.ownsRow.lt C.out.own g hg).1;omega)),
     fun a ha=>(C.out.tr a ha).keep (fun b hq=>⟨by omega,by have h1:=hq.2.1;exact Nat.lt_of_lt_of_eq h1 hz.symm,hq.2.2⟩) fun b hq=>hk b (by omega),
     C.out.old.trans (qCD (by omega) bR _ _ _ _ _ _ _)⟩
end
section
structure CS (w:World)(l:List RV)(v:Value)(wr:World) : Prop where
 old:Below w.heap.size w wr
 own:Own encR 7 w.heap.size 39 v l wr
 tr:∀a∈l,TQ (fun b=>w.heap.size<=b/\b<wr.heap.size/\v.ownBlock≠some b) wr a
theorem CS.call {w wr w':World}{l:List RV}{v:Value}(h:CS w l v wr)(hb:Below wr.heap.size wr w') : CS w l v w' where
 old:=h.old.trans (hb.mono h.old.size)
 own:=qAP h.own lR (fun g hg=>hb.block g (World.ownsRow.lt h.own g hg).2)
 tr:=fun a ha=>(h.tr a ha).keep (fun b hq=>⟨hq.1,Nat.lt_of_lt_of_le hq.2.1 hb.size,hq.2.2⟩) fun b hq=>hb.block b hq.2.1
theorem CS.arg {w w' wr w6:World}{l:List RV}{v v':Value}{rv:RV}{cs:Obj}(h:CS w l v wr)(hT:TQ (fun b=>w'.heap.size<=b/\b<wr.heap.size) wr rv)(hw:w.heap.size<=w'.heap.size)(hv:∀b,v.ownBlock=some b->b<w'.heap.size)
  (ho:w6.ownsRow w.heap.size 39 7 v' (l.length+1) (l.flatMap encR++encR rv)) (hg:(wr.alloc cs).grownBy w6 v.ownBlock) (hv':v'.ownBlock=v.ownBlock \/ v'.ownBlock=some (wr.alloc cs).heap.size):CS w (l++[rv]) v' w6:=by
 have hsz:wr.heap.size+1=(wr.alloc cs).heap.size:=by simp
 have hr:∀q,v.ownBlock=some q->w.heap.size<=q:=fun q e=>(World.ownsRow.lt h.own q e).1;have hz0:=h.old.size;have hz6:=hg.size;have hA:Below w.heap.size wr w6:=(bR.alloc hz0 cs).trans (bR.grown hg (by omega) (fun k e=>hr k e));have hblk:∀b,b<wr.heap.size->v.ownBlock≠some b->w6.heap[b]?=wr.heap[b]?:=fun b hb hne=>(hg.block b (by omega) (fun e=>hne e.symm)).trans (Below.heap_alloc _ _ _ hb);have hQ:∀b,b<wr.heap.size->v.ownBlock≠some b->v'.ownBlock≠some b:=fun b hb hne=>by
  rcases hv' with e|e
  ·rw[e];exact hne
  ·rw[e];simp;omega
 refine⟨h.old.trans hA,Own.snoc ho,fun a ha => ?_⟩;rcases List.mem_append.1 ha with ha|ha
 ·exact (h.tr a ha).keep (fun b hq=>⟨hq.1,by omega,hQ b hq.2.1 hq.2.2⟩) fun b hq=>hblk b hq.2.1 hq.2.2
 ·simp at ha;subst ha;exact hT.keep (fun b hq=>⟨by omega,by omega,hQ b hq.2 (fun e=>by have:=hv b e;omega)⟩) fun b hq=>hblk b hq.2 (fun e=>by have:=hv b e;omega)
def qNQ (l:List RV)(w:World)(e:Ending)(w':World) : Prop := ∃(A:Option Addr) (c:Nat) (l':List RV),e=.returned (.slice A l'.length c)/\qA1 l'=qA1 l/\CS w l' (.slice A l'.length c) w'
theorem qC2 (l:List RV)(A:Option Addr)(c:Nat)(w:World)(hp:qA9 (qA1 l)<=900000)(hl:RRow w.heap.size w A c l) : Calls Tryz.prog 67 #[.slice A l.length c] w (qNQ l w) := by
 have HA:=hid hl;have HP:=hid hp;have HN:=hid (show l.length<=900000 by have h1:=qBS (qA1 l);rw[qA5]at h1;omega);have hm:l.length<=9223372036854775807:=by have:=HN.out;omega
 clear hl hp
 go_enter Tryz.func67,Tryz.ntmps67
 go_wp2_with fail
 go_loopw[3,4] (fun v iv wr => ∃(i:Nat) (l':List RV),i<=l.length/\iv=.int .i64 (i:Int)/\qA1 l'=(qA1 l).take i/\CS w l' v wr) (fun _ iv _=>l.length - (intOf iv).toNat)
 case atStart=>exact⟨0,[],Nat.zero_le _,rfl,by simp[qA1],Below.refl _ _,Own.nil_ _ _ _,fun a ha=>by simp at ha⟩
 case round =>
  obtain⟨i,l',hi,rfl,htl,hC⟩:=hrel;rename World=>wr
  rename Value=>v
  have C:=hid hC;have HTL:=hid htl;clear hC htl;obtain⟨AA,cc,hv⟩:=qAG C.out.own;subst hv;by_cases hlt:i<l.length
  ·have TA:=((HA.out.below C.out.old).2 _ (List.getElem_mem hlt)).more C.out.old.size;have hwf:=TA.wf;have hkt:i<(qA1 l).length:=by rw[qA5];exact hlt
   have hpp:=qBR (l:=qA1 l) hkt;rw[qAI l i hlt]at hpp;have HC:=hid ((qHN l[i].ht l[i] wr lR (by have:=HP.out;omega) TA).mono fun e w' h=>qBK.tq hwf h);obtain⟨b,o,rfl,hb,e0,e1,e2,e3,e4,e5,e6⟩:=(HA.out.below C.out.old).at_ hlt
   have HTN:=hid (show ∀rv:RV,rv.tree=l[i].tree->qA1 (l'++[rv])=(qA1 l).take (i+1) from fun rv h=>by rw[qEH,HTL.out,qAX _ _ hkt,qAI l i hlt];simp only[qA1,h]);have HLL:=hid (show l'.length<=900000 by have h1:=congrArg List.length HTL.out;rw[qA5,List.length_take,qA5]at h1;have:=HN.out;omega);have i0:(0:Int)<=(i:Int):=by omega
   have i1:(i:Int)<(l.length:Int):=by omega
   unfold RV.val at HC;clear TA hwf hkt hpp;generalize l[i]=x at *;generalize l.length=n at *;go_wp2_with fail
   go_at_call 122
   refine HC.out.mono ?_;rintro en w8 ⟨rv2,rfl,hrt2,hT2,hB8⟩;have C8:=hid (C.out.call hB8);have HS:=hid (HTN.out rv2 hrt2);have HT2:=hid hT2;have HV:=hid (show ∀b,(Value.slice AA l'.length cc).ownBlock=some b->b<wr.heap.size from fun b hb=>(World.ownsRow.lt C.out.own b hb).2);have RL:=hid (qN6 w8 rv2);clear hB8 hT2 hrt2 e0 e1 e2 e3 e4 e5 e6 HC HTN;go_wp2_with (at_builtin;refine qB5 (P:=Tryz.prog) _ rfl _ _ 25 rfl w.heap.size 39 _ _ 7 _ (by rfl) (by rfl) (by rfl) (by rfl) (by rfl) (by rfl) (by decide) qC0 qE3 _ l'.length (l'.flatMap encR) rfl (World.ownsRow.alloc C8.out.own _) _ (some ⟨w8.heap.size,0,none⟩) 1 [rv2] 1 rfl rfl RL.out (by have:=HLL.out;simp;omega) (by decide) (by have:=C8.out.old.size;simp;omega) ?_;intro v2 w9 ho2 hg2 hv2;simp only[List.length_cons,List.length_nil,Nat.zero_add,List.flatMap_cons,List.flatMap_nil,List.append_nil]at ho2;have C9:=hid (C8.out.arg HT2.out C.out.old.size HV.out ho2 hg2 hv2);obtain⟨A2,c2,rfl⟩:=qAG ho2;clear ho2 hg2 hv2)
   go_roundw
   case rel=>exact⟨i+1,l'++[rv2],by omega,by go_num,HS.out,C9.out⟩
   case measure=>simp[intOf];omega
  ·obtain rfl:i=l.length:=by omega
   have HE:=hid (show qA1 l'=qA1 l by rw[HTL.out,List.take_of_length_le (by rw[qA5];exact Nat.le_refl _)]);have i1:¬(l.length:Int)<(l.length:Int):=by omega
   clear hlt;go_wp2_with fail
   go_ret;exact⟨AA,cc,l',rfl,HE.out,C.out⟩
end
section
section
variable {P:Program}{ops:Array Oper}{Q:Exit->Act->World->Prop}{md:Region.Mode}
def qB0 (md:Region.Mode)(ops:Array Oper) : Bool := (List.range ops.size).all fun i=>((ops[i]?).map fun o=>o.after.all fun e => !Region.binds md e || decide (e.on<i)).getD false
def qBX (l:Array Bool) : Nat := (l.toList.filter (· == false)).length
theorem qDC:∀(l:List Bool) (i:Nat),l[i]?=some false->((l.set i true).filter (· == false)).length+1=(l.filter (· == false)).length
 | [],i,h=>by simp at h
 | b::l,0,h=>by simp at h;subst h;simp
 | b::l,i+1,h=>by
  have:=qDC l i (by simpa using h);rw[List.set_cons_succ,List.filter_cons,List.filter_cons];cases b<;>simp only[beq_self_eq_true,if_true,List.length_cons,show (true == false)=false from rfl,Bool.false_eq_true,if_false]<;>omega
theorem qEC {listed:Array Bool}{i:Nat}(h:i∈Region.ready md ops listed) : i<ops.size/\listed.getD i true=false /\ ∃o,ops[i]?=some o /\ ∀e∈o.after,Region.binds md e=true->listed.getD e.on false=true := by
 unfold Region.ready at h;rw[List.mem_filter,List.mem_range]at h;obtain⟨h1,h2⟩:=h;simp only[Bool.and_eq_true,Bool.not_eq_true']at h2;obtain⟨h3,h4⟩:=h2;refine⟨h1,h3,ops[i],Array.getElem?_eq_getElem h1,fun e he hb => ?_⟩;rw[Array.getElem?_eq_getElem h1,Option.map_some,Option.getD_some]at h4;have h5:=Array.all_eq_true'.1 h4 e he
 simpa [hb] using h5
theorem qK6 {listed:Array Bool}(hb:qB0 md ops=true)(hs:listed.size=ops.size)(h:Region.ready md ops listed=[]):∀i,i<ops.size->listed.getD i true=true := by
 intro i
 induction i using Nat.strongRecOn with
 | _ i ih =>
  intro hi;refine Classical.byContradiction fun hn => ?_;have hn':listed.getD i true=false:=by simpa using hn
  have hm:i∈Region.ready md ops listed:=by
   unfold Region.ready;rw[List.mem_filter,List.mem_range];refine⟨hi,?_⟩;rw[hn',Array.getElem?_eq_getElem hi,Option.map_some,Option.getD_some];simp only[Bool.not_false,Bool.true_and];refine Array.all_eq_true'.2 fun e he => ?_;unfold qB0 at hb;have h1:=List.all_eq_true.1 hb i (List.mem_range.2 hi);rw[Array.getElem?_eq_getElem hi,Option.map_some,Option.getD_some]at h1;have h2:=Array.all_eq_true'.1 h1 e he
   cases hbd:Region.binds md e with
   | false=>simp
   | true =>
    simp[hbd]at h2;have h3:=ih e.on h2 (by omega);have h4:e.on<listed.size:=by omega
    simp only[Array.getD,h4,dite_true]at h3 |-
    simpa using h3
  rw[h]at hm;cases hm
theorem qFD {listed:Array Bool}{n:Nat}(hs:listed.size=n)(h:∀i,i<n->listed.getD i true=true) : listed=Array.replicate n true := by
 apply Array.ext
 ·simp[hs]
 ·intro i h1 h2;have:=h i (by omega);simp only[Array.getD,h1,dite_true]at this
  simpa using this
theorem qEK {l:List Bool}(h:(l.filter (· == false)).length=0):∀b∈l,b=true := by
 intro b hb
 cases b with
 | true=>rfl
 | false =>
  have h1:false∈l.filter (· == false):=List.mem_filter.2 ⟨hb,rfl⟩;rw[List.eq_nil_of_length_eq_zero h]at h1;cases h1
theorem qKW {J:Array Bool->Act->World->Prop}(hb:qB0 md ops=true)
  (hstep:∀(i:Nat) (o:Oper) (listed:Array Bool) (a:Act) (w:World),i<ops.size->ops[i]?=some o->listed.size=ops.size->(∀e∈o.after,Region.binds md e=true->listed.getD e.on false=true)->J listed a w ->
   ∀K:Act->World->Prop,(∀a' w',J (listed.setIfInBounds i true) a' w'->K a' w')->if Region.wanted o (yielded ops a.tmps)=true then Oper.wp P o a w K Q else K (a.put o.dst undef) w)
  (hdone:∀a w,J (Array.replicate ops.size true) a w->Q .normal a w) :
  ∀(fuel:Nat) (listed:Array Bool) (a:Act) (w:World),listed.size=ops.size->qBX listed<=fuel->J listed a w->wpAny P md ops Q fuel listed a w
 |0,listed,a,w,hs,hf,hJ=>by
  have hall:∀i,i<ops.size->listed.getD i true=true:=fun i hi=>by
   have h1:=qEK (Nat.le_zero.1 hf) (listed[i]'(by omega)) (by simp);have h2:i<listed.size:=by omega
   simp only[Array.getD,h2,dite_true];exact h1
  refine⟨?_,hdone a w (by rw[<- qFD hs hall];exact hJ)⟩;refine List.eq_nil_iff_forall_not_mem.2 fun i hi => ?_;obtain⟨h1,h2,_⟩:=qEC hi;rw[hall i h1]at h2;cases h2
 | fuel+1,listed,a,w,hs,hf,hJ=>by
  refine⟨fun hr=>hdone a w (by rw[<- qFD hs (qK6 hb hs hr)];exact hJ),fun i hi => ?_⟩;obtain⟨h1,h2,o,ho,he⟩:=qEC hi;have hst:=hstep i o listed a w h1 ho hs he hJ (wpAny P md ops Q fuel (listed.setIfInBounds i true)) (fun a' w' hj=>qKW hb hstep hdone fuel _ a' w' (by simpa using hs) (by
   have h3:i<listed.size:=by omega
   have h4:listed.toList[i]?=some false:=by
    simp only[Array.getD,h3,dite_true]at h2;rw[List.getElem?_eq_getElem (by simpa using h3)]
    simpa using h2
   have h5:=qDC _ _ h4;unfold qBX at hf |-;rw[Array.toList_setIfInBounds];omega) hj)
  unfold wpOp;simp only[ho];by_cases hw:Region.wanted o (yielded ops a.tmps)=true
  ·rw[if_pos hw]at hst |-;exact .inl hst
  ·rw[if_neg hw]at hst |-;exact hst
theorem qIS {J:Array Bool->Act->World->Prop}{id:Nat}{a:Act}{w:World}(hm:P.follows .mixedOrders=true)(hb:qB0 .any ops=true)
  (h0:J (Array.replicate ops.size false) a w.drew)
  (hstep:∀(i:Nat) (o:Oper) (listed:Array Bool) (a:Act) (w:World),i<ops.size->ops[i]?=some o->listed.size=ops.size->(∀e∈o.after,Region.binds .any e=true->listed.getD e.on false=true)->J listed a w ->
   ∀K:Act->World->Prop,(∀a' w',J (listed.setIfInBounds i true) a' w'->K a' w')->if Region.wanted o (yielded ops a.tmps)=true then Oper.wp P o a w K Q else K (a.put o.dst undef) w)
  (hdone:∀a w,J (Array.replicate ops.size true) a w->Q .normal a w):(Code.region id ops true).wp P Q a w :=
 wp_region_any hm (qKW hb hstep hdone _ _ _ _ (by simp) (by unfold qBX;exact Nat.le_trans (List.length_filter_le _ _) (by simp)) h0)
end
def upd (vs:Nat->Value)(i:Nat)(v:Value) : Nat->Value := fun k=>if k=i then v else vs k
def qA4 : List Oper->Nat->(Nat->Value)->Act->Act
 | [],_,_,a=>a
 | o::l,k,vs,a=>qA4 l (k+1) vs (a.put o.dst (vs k))
theorem qS0 (a:Act)(d:Option Tmp)(u v:Value) : (a.put d u).put d v=a.put d v := by
 cases d with
 | none=>rfl
 | some d =>
  show ({ a with tmps:=(a.tmps.setIfInBounds d u).setIfInBounds d v } : Act) = { a with tmps:=a.tmps.setIfInBounds d v }
  congr 1
  simp
theorem qES:∀(l:List Oper) (k:Nat) (vs:Nat->Value) (a:Act) (d:Option Tmp) (v:Value),(∀o∈l,∀x,o.dst=some x->d≠some x)->(qA4 l k vs a).put d v=qA4 l k vs (a.put d v)
 | [],_,_,_,_,_,_=>rfl
 | o::l,k,vs,a,d,v,h=>by
  rw[qA4,qA4,qES l (k+1) vs _ d v (fun o' ho=>h o' (List.mem_cons_of_mem _ ho)),Act.put_comm a (vs k) v (fun x hx=>h o (List.mem_cons_self ..) x hx)]
theorem qDT:∀(l:List Oper) (k:Nat) (vs vs':Nat->Value) (a:Act),(∀j,k<=j->vs j=vs' j)->qA4 l k vs a=qA4 l k vs' a
 | [],_,_,_,_,_=>rfl
 | o::l,k,vs,vs',a,h=>by
  rw[qA4,qA4,h k lR,qDT l (k+1) vs vs' _ (fun j hj=>h j (by omega))]
theorem qC4:∀(l:List Oper) (k:Nat) (vs:Nat->Value) (a:Act) (i:Nat) (o:Oper) (v:Value),l[i]?=some o->(l.map (·.dst)).Nodup->(qA4 l k vs a).put o.dst v=qA4 l k (upd vs (k+i) v) a
 | [],_,_,_,_,_,_,h,_=>by simp at h
 | o'::l,k,vs,a,0,o,v,h,hn=>by
  have e:o'=o:=by simpa using h
  subst e;rw[List.map_cons,List.nodup_cons]at hn;rw[qA4,qES l (k+1) vs _ o'.dst v (fun o ho x hx hd=>hn.1 (by rw[hd,<- hx];exact List.mem_map_of_mem ho)),qS0,qA4];have e1:upd vs (k+0) v k=v:=by simp[upd]
  rw[e1];exact qDT l (k+1) _ _ _ (fun j hj=>by simp[upd];omega)
 | o'::l,k,vs,a,i+1,o,v,h,hn=>by
  rw[List.map_cons,List.nodup_cons]at hn;rw[qA4,qA4,qC4 l (k+1) vs _ i o v (by simpa using h) hn.2];have e1:upd vs (k+(i+1)) v k=vs k:=by simp[upd]
  rw[e1,show k+1+i=k+(i+1) by omega]
section
variable {P:Program}{ops:Array Oper}{Q:Exit->Act->World->Prop}
end
end
section
section
variable {P:Program}{ops:Array Oper}{Q:Exit->Act->World->Prop}{md:Region.Mode}
theorem qEO (hb:qB0 md ops=true){i:Nat}{o:Oper}(hi:i<ops.size)(ho:ops[i]?=some o){e:_}(he:e∈o.after)(hbd:Region.binds md e=true) : e.on<i := by
 unfold qB0 at hb;have h1:=List.all_eq_true.1 hb i (List.mem_range.2 hi);rw[ho,Option.map_some,Option.getD_some]at h1;have h2:=Array.all_eq_true'.1 h1 e he
 simpa [hbd] using h2
theorem qE0 {R:Nat}{PP:Nat->Value->World->Prop}{Fin Pre:World->Prop}{id:Nat}{a:Act}{w:World}(n:Nat)(hn1:ops.size=n+1)(hm:P.follows .mixedOrders=true)(hb:qB0 .any ops=true)(hn:(ops.toList.map (·.dst)).Nodup)
  (hmono:∀i v w w',PP i v w->ButR R w w'->PP i v w') (hfin:∀w w',Fin w->Below w.heap.size w w'->Fin w') (hpre:∀w w',Pre w->Below w.heap.size w w'->Pre w') (hfp:∀w,Fin w->Pre w) (hp0:Pre w) (vs0:Nat->Value) (h0:qA4 ops.toList 0 vs0 a=a)
  (hstep:∀(i:Nat) (o:Oper) (vs:Nat->Value) (w':World),i<n->ops[i]?=some o->(∀e∈o.after,Region.binds .any e=true->PP e.on (vs e.on) w')->ButR R w w' ->
   ∀K:Act->World->Prop,(∀v w'',PP i v w''->Below w'.heap.size w' w''->K ((qA4 ops.toList 0 vs a).put o.dst v) w'')->if Region.wanted o (yielded ops (qA4 ops.toList 0 vs a).tmps)=true then Oper.wp P o (qA4 ops.toList 0 vs a) w' K Q else K ((qA4 ops.toList 0 vs a).put o.dst undef) w')
  (hlast:∀(o:Oper) (vs:Nat->Value) (w':World),Pre w'->ops[n]?=some o->(∀e∈o.after,Region.binds .any e=true->PP e.on (vs e.on) w')->ButR R w w' ->
   ∀K:Act->World->Prop,(∀w'',Fin w''->ButR R w' w''->K ((qA4 ops.toList 0 vs a).put o.dst undef) w'')->if Region.wanted o (yielded ops (qA4 ops.toList 0 vs a).tmps)=true then Oper.wp P o (qA4 ops.toList 0 vs a) w' K Q else K ((qA4 ops.toList 0 vs a).put o.dst undef) w')
  (hdone:∀vs w',Fin w'->ButR R w w'->Q .normal (qA4 ops.toList 0 vs a) w'):(Code.region id ops true).wp P Q a w:=by
 refine qIS (J:=fun listed a' w' => ∃vs,a'=qA4 ops.toList 0 vs a/\ButR R w w'/\(∀i,i<n->listed.getD i false=true->PP i (vs i) w')/\(listed.getD n false=true->Fin w')/\Pre w') hm hb ⟨vs0,h0.symm,(ButR.refl _ _).drew,fun i _ hi => ?_,fun hi => ?_,hpre _ _ hp0 bR.drew⟩ ?_ ?_
 ·exfalso;by_cases h:i<ops.size
  iterate 2 ·simp[Array.getD,h]at hi
 ·exfalso;by_cases h:n<ops.size
  iterate 2 ·simp[Array.getD,h]at hi
 ·rintro i o listed a' w' hi ho hs he ⟨vs,rfl,hB,hP,hF,hR⟩ K hK;have put:∀j k:Nat,j≠k->(listed.setIfInBounds j true).getD k false=true->listed.getD k false=true:=by
   intro j k hjk h;rw[Array.getD_eq_getD_getElem?]at h |-;rw[Array.getElem?_setIfInBounds]at h
   simpa [hjk] using h
  have ed:∀e∈o.after,Region.binds .any e=true->PP e.on (vs e.on) w':=fun e hem hbd=>hP _ (by have:=qEO hb hi ho hem hbd;omega) (he e hem hbd);by_cases hin:i<n
  ·refine hstep i o vs w' hin ho ed hB K (fun v w'' hv hb'=>hK _ _ ⟨upd vs i v,?_,hB.trans (.of hb'),fun j hjn hj => ?_,fun hj => ?_,hpre _ _ hR hb'⟩)
   ·have:=qC4 ops.toList 0 vs a i o v (by simpa using ho) hn;rw[this];simp
   ·by_cases hji:j=i
    ·subst hji;simp[upd];exact hv
    ·simp only[upd,hji,if_false];exact hmono _ _ _ _ (hP j hjn (put i j (fun e=>hji e.symm) hj)) (.of hb')
   ·exact hfin _ _ (hF (put i n (by omega) hj)) hb'
  ·obtain rfl:i=n:=by omega
   refine hlast o vs w' hR ho ed hB K (fun w'' hv hb'=>hK _ _ ⟨upd vs i undef,?_,hB.trans hb',fun j hjn hj => ?_,fun _=>hv,hfp _ hv⟩)
   ·have:=qC4 ops.toList 0 vs a i o undef (by simpa using ho) hn;rw[this];simp
   ·have hji:j≠i:=by omega
    simp only[upd,hji,if_false];exact hmono _ _ _ _ (hP j hjn (put i j (fun e=>hji e.symm) hj)) hb'
 ·rintro a' w' ⟨vs,rfl,hB,hP,hF,_⟩;exact hdone vs w' (hF (by simp[Array.getD,hn1])) hB
end
section
variable {P:Program}{α:Type}{enc:α->List Value}(w:World)
theorem qGJ (base:Nat)(t ty e:TypeId)(i:TypeInfo)(z:Value)(size bytes:Nat)(ht:P.underlying t=some (.slice e))(hi:P.info? e=some i)(hz:i.zero=some z)(hsize:i.size=size)(hby:i.bytes=bytes)(hzc:z.cells.size=size)(hs0:0<size)
  (he:∀x,(enc x).length=size) (h1:∀x,∀u∈enc x,u.oneCell'=true)
  (g:Nat) (hown:w.ownsRow base e size (.slice (some ⟨g,0,none⟩) 0 0) 0 []) (B:Nat) (A:Option Addr) (c:Nat) (D:List α) (hT:Rd enc size B A c D w) (hn:D.length<=1000000) (hbytes:bytes<=1000) (hbase:base<=w.heap.size) :
  ∃v' w',(Builtin.append_ #[t,t] ty #[.slice (some ⟨g,0,none⟩) 0 0,.slice A D.length c]).run P w=.ok v' w'/\w'.ownsRow base e size v' D.length (D.flatMap enc)/\Below w.heap.size w w':=by
 by_cases hD:D=[]
 ·subst hD
  cases A with
  | none=>exact⟨_,w,qCG w base t ty e i size ht hi _ 0 [] hown c,hown,Below.refl _ _⟩
  | some ad =>
   have hr:=run_append_room_cells (P:=P) w t ty e i ht hi g 0 0 0 ad 0 c [] (by simp) (by simp) (by simp) (by omega) (by simp) (by simp);exact⟨_,w,hr,hown,Below.refl _ _⟩
 ·have hp:0<D.length:=List.length_pos_iff.2 hD;obtain⟨b0,o0,e0,_⟩:=hT.2.2 0 hp;subst e0;obtain⟨v',w',hr,r1,r2⟩:=run_append_arg_grows (P:=P) w t ty e i z size bytes ht hi hz hsize hby hzc hs0 ⟨g,0,none⟩ 0 0 [] (by simp) (by simp) ⟨b0,o0,none⟩ D.length c (D.flatMap enc) (qCU he D) (fun j u hu=>by
   have hj:j<D.length * size:=by
    have:=(List.getElem?_eq_some_iff.1 hu).1;rw[qCU he]at this;exact this
   have hk:j / size<D.length:=Nat.div_lt_of_lt_mul (by rw[Nat.mul_comm];exact hj);obtain⟨b,o,e2,_,hc⟩:=hT.2.2 (j / size) hk;cases e2
   rw[Addr.add_lit];have hd:=Nat.div_add_mod j size;have h3:=qBP enc size he D (j / size) hk (j % size) (Nat.mod_lt _ hs0);rw[show j / size * size+j % size=j by rw[Nat.mul_comm];exact hd,hu]at h3;have h4:=hc (j % size) u h3.symm;rw[show o0+j / size * size+j % size=o0+j by rw[Nat.add_assoc,Nat.mul_comm (j / size)];rw[hd]]at h4;exact h4) (by omega) (by unfold maxLen;omega) (by rw[Nat.zero_add];have:=Nat.mul_le_mul hn hbytes;omega)
  refine⟨v',w',hr,?_,⟨r2.os,r2.tape,r2.output,r2.size,fun k hk=>r2.block k hk (by simp)⟩⟩;simp only[Nat.zero_add,List.nil_append]at r1;exact Own.more (enc:=enc) (l:=D) r1 hbase
theorem qCJ {o:Oper}{a:Act}{K:Act->World->Prop}{Q:Exit->Act->World->Prop}(s x:Operand)(t:TypeId)
  (ho:o.op=.call { callee:=.builtin .append,args:=#[s,x],argTypes:=#[t,t] })
  (base:Nat) (e:TypeId) (i:TypeInfo) (z:Value) (size bytes:Nat) (ht:P.underlying t=some (.slice e)) (hi:P.info? e=some i) (hz:i.zero=some z) (hsize:i.size=size) (hby:i.bytes=bytes) (hzc:z.cells.size=size) (hs0:0<size)
  (he:∀x,(enc x).length=size) (h1:∀x,∀u∈enc x,u.oneCell'=true)
  (g:Nat) (hs:a.eval s=.slice (some ⟨g,0,none⟩) 0 0) (hown:w.ownsRow base e size (.slice (some ⟨g,0,none⟩) 0 0) 0 []) (B:Nat) (A:Option Addr) (c:Nat) (D:List α) (m:Nat) (hm:m=D.length) (hx:a.eval x=.slice A m c) (hT:Rd enc size B A c D w) (hn:D.length<=1000000) (hbytes:bytes<=1000) (hbase:base<=w.heap.size)
  (h:∀v' w',Own enc size base e v' D w'->Below w.heap.size w w'->K (a.put o.dst v') w'):Oper.wp P o a w K Q:=by
 subst hm;obtain⟨v',w',hrun,r1,r2⟩:=qGJ (P:=P) w base t o.type e i z size bytes ht hi hz hsize hby hzc hs0 he h1 g hown B A c D hT hn hbytes hbase;unfold Oper.wp;simp[execOp,ho,resolve,invoke,builtin,hs,hx,hrun,Result.andThen];exact h v' w' r1 r2
end
end
section
theorem qTZ (s:ByteArray)(e:Evr)(w:World) : Calls Tryz.prog 167 #[.string s,e.val] w fun r w'=>r=.returned (.agg #[.string s,.int .u8 2,.int .i64 e.epoch,.string (bs e.ver),.string (bs e.rel)])/\Below w.heap.size w w' := by
 unfold Evr.val
 go_enter Tryz.func167,Tryz.ntmps167
 go_wp2_with fail
 exact bodyPost_ret (v:=.agg #[.string s,.int .u8 2,.int .i64 e.epoch,.string (bs e.ver),.string (bs e.rel)]) (by simp[results,Tryz.results167,go_sem]) rfl ⟨rfl,(bR.alloc lR _).alloc (by simp) _⟩
theorem qS6 (s:ByteArray)(e:Evr)(w:World) : Calls Tryz.prog 216 #[.string s,e.val] w fun r w'=>r=.returned (.agg #[.string s,.int .u8 2,.int .i64 e.epoch,.string (bs e.ver),.string (bs e.rel)])/\Below w.heap.size w w' := by
 unfold Evr.val
 go_enter Tryz.func216,Tryz.ntmps216
 go_wp2_with fail
 exact bodyPost_ret (v:=.agg #[.string s,.int .u8 2,.int .i64 e.epoch,.string (bs e.ver),.string (bs e.rel)]) (by simp[results,Tryz.results216,go_sem]) rfl ⟨rfl,(bR.alloc lR _).alloc (by simp) _⟩
end
section
open Go.RowKit
def cm : List Prt->List Prt->Int
 | [],[]=>0
 | [],b::_=>cmpP fin b
 | a::_,[]=>cmpP a fin
 | a::x,b::y=>if cmpP a b≠0 then cmpP a b else cm x y
theorem qYD:∀x y : List Prt,cmpV (x++[fin]) (y++[fin])=cm x y
 | [],[]=>by decide
 | [],b::y=>by
  simp only[List.nil_append,List.cons_append,cmpV,cm];split
  ·rfl
  ·rename_i h;exact (Classical.not_not.1 h).symm
 | a::x,[]=>by
  simp only[List.nil_append,List.cons_append,cmpV,cm];split
  ·rfl
  ·rename_i h
   have:cmpV (x++[fin]) []=0:=by cases x<;>rfl
   rw[this];exact (Classical.not_not.1 h).symm
 | a::x,b::y=>by
  simp only[List.cons_append,cmpV,cm,qYD x y]
theorem qWT (a b:qAF) : comp a b=cm (pts a) (pts b) := qYD _ _
theorem qML:∀x y : List Prt,cm x y = -1 \/ cm x y=0 \/ cm x y=1
 | [],[]=>.inr (.inl rfl)
 | [],b::y=>qDF _ _
 | a::x,[]=>qDF _ _
 | a::x,b::y=>by
  simp only[cm];split
  ·exact qDF _ _
  ·exact qML x y
theorem qNW (a b:qAF) : comp a b = -1 \/ comp a b=0 \/ comp a b=1 := by rw[qWT];exact qML _ _
end
section
theorem qYO:∀n : Fin 256,((n.val : Int).tmod 8 == 0)=(bits BinOp.and IntKind.u8 (n.val : Int) 7 == 0) := by decide +kernel
theorem qRJ {n:Int}(h0:0<=n)(h1:n<=255) : (n.tmod 8 == 0)=(bits BinOp.and IntKind.u8 n 7 == 0) := by
 have:=qYO ⟨n.toNat,by omega⟩
 simpa [Int.toNat_of_nonneg h0] using this
theorem qND (n:Int)(w:World)(h:n = -1 \/ n=0 \/ n=1) : Calls Tryz.prog 189 #[.int .i64 n] w fun e w'=>e=.returned (.int .u8 (qMA n))/\w=w' := by
 have i0:∀w:World,(Instr.index 228 (.agg #[.int .u8 1,.int .u8 2,.int .u8 4]) (.int .i64 0)).run Tryz.prog w=.ok (.int .u8 1) w:=fun _=>by kernel_rfl
 have i1:∀w:World,(Instr.index 228 (.agg #[.int .u8 1,.int .u8 2,.int .u8 4]) (.int .i64 1)).run Tryz.prog w=.ok (.int .u8 2) w:=fun _=>by kernel_rfl
 have i2:∀w:World,(Instr.index 228 (.agg #[.int .u8 1,.int .u8 2,.int .u8 4]) (.int .i64 2)).run Tryz.prog w=.ok (.int .u8 4) w:=fun _=>by kernel_rfl
 rcases h with rfl|rfl|rfl
 all_goals
  go_enter Tryz.func189,Tryz.ntmps189
  go_wp2
  go_ret;exact⟨rfl,rfl⟩
theorem qHA (a b:Evr) : ecmp a b = -1 \/ ecmp a b=0 \/ ecmp a b=1 := by
 unfold ecmp;split
 ·exact qEQ _ _
 split
 iterate 2 ·exact qNW _ _
def BoxD (d:Dp)(b:Nat)(W:World) : Prop := W.cell? ⟨b,1,none⟩=some (.int .u8 d.op)/\W.cell? ⟨b,2,none⟩=some (.int .i64 d.evr.epoch)/\W.cell? ⟨b,3,none⟩=some (.string (bs d.evr.ver))/\W.cell? ⟨b,4,none⟩=some (.string (bs d.evr.rel))
theorem qTS (w:World)(d e:Dp) : let W := (w.alloc (.cells #[.string (bs d.name),.int .u8 d.op,.int .i64 d.evr.epoch,.string (bs d.evr.ver),.string (bs d.evr.rel)] 37)).alloc (.cells #[.string (bs e.name),.int .u8 e.op,.int .i64 e.evr.epoch,.string (bs e.evr.ver),.string (bs e.evr.rel)] 37)
  BoxD d w.heap.size W/\BoxD e (w.heap.size+1) W/\w.heap.size+1<W.heap.size/\Below w.heap.size w W:=by
 refine⟨⟨?_,?_,?_,?_⟩,⟨?_,?_,?_,?_⟩,by simp,(bR.alloc lR _).alloc (by simp) _⟩
 all_goals first|exact (World.cell?_alloc_past _ _ _ (by simp)).trans ((World.cell?_alloc_at _ _ _ _ rfl).trans rfl)|exact (World.cell?_alloc_at _ _ _ _ (by simp)).trans rfl
theorem qZ3 (k:Int)(w:World)(e:k=1) : Calls Tryz.prog 189 #[.int .i64 k] w fun e w'=>e=.returned (.int .u8 4)/\w=w' := by
 subst e;exact qND 1 w (by decide)
theorem qZ2 (k:Int)(w:World)(e:k = -1) : Calls Tryz.prog 189 #[.int .i64 k] w fun e w'=>e=.returned (.int .u8 1)/\w=w' := by
 subst e;exact qND (-1) w (by decide)
def qUJ (a b:Dp)(c:Int) : Bool := bits BinOp.and IntKind.u8 a.op 7 == 0 || (bits BinOp.and IntKind.u8 b.op 7 == 0 ||
 (if c=0 then bits BinOp.and IntKind.u8 (bits BinOp.and IntKind.u8 a.op b.op) 7 != 0 else bits BinOp.and IntKind.u8 a.op (qMA (-c)) != 0 || bits BinOp.and IntKind.u8 b.op (qMA c) != 0))
theorem qUK {a b:Dp}(h0:0<=a.op)(h1:a.op<=255)(h2:0<=b.op)(h3:b.op<=255) : qET a b=qUJ a b (ecmp a.evr b.evr) := by
 unfold qET qUJ band;rw[qRJ h0 h1,qRJ h2 h3];rcases qHA a.evr b.evr with e|e|e<;>rw[e]<;>rfl
theorem qUL (a b:Dp)(w:World)(ha:a.evr.ok)(hb:b.evr.ok)(h0:0<=a.op)(h1:a.op<=255)(h2:0<=b.op)(h3:b.op<=255) : Calls Tryz.prog 147 #[a.val,b.val] w fun e w'=>e=.returned (.bool (qET a b))/\Below w.heap.size w w' := by
 obtain⟨⟨a0,a1,a2,a3⟩,⟨b0,b1,b2,b3⟩,hl,hB⟩:=qTS w a b;have C:=hid (fun W=>qX1 a.evr b.evr W ha.1 hb.1 ha.2 hb.2);have H:=hid ((qUK h0 h1 h2 h3).trans (show qUJ a b (ecmp a.evr b.evr)=_ from rfl));unfold qUJ at H;clear h0 h1 h2 h3;have hth:=qHA a.evr b.evr;generalize qET a b=res at *;generalize ecmp a.evr b.evr=c at *;unfold Evr.val at C;unfold Dp.val;have e1:bits BinOp.and IntKind.u8 a.op 7=0 \/ ¬bits BinOp.and IntKind.u8 a.op 7=0:=by omega
 have e2:bits BinOp.and IntKind.u8 b.op 7=0 \/ ¬bits BinOp.and IntKind.u8 b.op 7=0:=by omega
 rcases e1 with e1|e1
 ·have H2:=hid (show res=true by rw[H.out,e1];rfl)
  go_enter Tryz.func147,Tryz.ntmps147
  go_wp2_with fail
  go_ret;exact⟨qA8 H2.out.symm,hB⟩
 have f1:(bits BinOp.and IntKind.u8 a.op 7 == 0)=false:=by simpa using e1
 rcases e2 with e2|e2
 ·have H2:=hid (show res=true by rw[H.out,e2,f1];rfl)
  go_enter Tryz.func147,Tryz.ntmps147
  go_wp2_with fail
  go_ret;exact⟨qA8 H2.out.symm,hB⟩
 have f2:(bits BinOp.and IntKind.u8 b.op 7 == 0)=false:=by simpa using e2
 have H2:=hid (H.out.trans (by rw[f1,f2,Bool.false_or,Bool.false_or]));clear H
 go_enter Tryz.func147,Tryz.ntmps147
 go_wp2_with fail
 go_at_call 132
 generalize (w.alloc (.cells #[.string (bs a.name),.int .u8 a.op,.int .i64 a.evr.epoch,.string (bs a.evr.ver),.string (bs a.evr.rel)] 37)).alloc (.cells #[.string (bs b.name),.int .u8 b.op,.int .i64 b.evr.epoch,.string (bs b.evr.ver),.string (bs b.evr.rel)] 37)=W at *;generalize hn:w.heap.size=n at *;refine (C.out W).mono ?_;rintro e w5 ⟨rfl,hb5⟩;have c0:=(hb5.cell (p:=⟨n,1,none⟩) (show n<W.heap.size by omega)).trans a0;have d0:=(hb5.cell (p:=⟨n+1,1,none⟩) hl).trans b0;have hB5:Below n w w5:=hB.trans (hb5.mono (by omega));clear a0 a1 a2 a3 b0 b1 b2 b3 hb5 hB hl C;have SP:=hid (fun (k:Int) W (e:k=1)=>qZ3 k W e);have SM:=hid (fun (k:Int) W (e:k = -1)=>qZ2 k W e);rcases hth with rfl|rfl|rfl
 ·cases g1:bits BinOp.and IntKind.u8 a.op 4 == 0
  all_goals
   have H3:=hid (H2.out.trans (by rw[if_neg (by decide),show qMA (- (-1))=4 from rfl,show qMA (-1)=1 from rfl]));have g2:(bits BinOp.and IntKind.u8 a.op 4 != 0)=_:=congrArg (!·) g1;simp only[Bool.not_true,Bool.not_false]at g2;clear H2;go_wp2_with fail
   go_quiet ((first|(go_at_call 189;exact (SP.out _ _ (by decide)).mono fun _ _ h=>⟨h.1,_,h.2.symm⟩)|(go_at_call 189;exact (SM.out _ _ (by decide)).mono fun _ _ h=>⟨h.1,_,h.2.symm⟩)));go_wp2
   go_ret;exact⟨qA8 (by rw[H3.out,g2];rfl),by rw[hn];exact⟨hB5.os,hB5.tape,hB5.output,hB5.size,hB5.block⟩⟩
 ·have H3:=hid (H2.out.trans (by rw[if_pos rfl]));clear H2;go_wp2_with fail
  go_ret;exact⟨qA8 H3.out.symm,by rw[hn];exact hB5⟩
 ·cases g1:bits BinOp.and IntKind.u8 a.op 1 == 0
  all_goals
   have H3:=hid (H2.out.trans (by rw[if_neg (by decide),show qMA (- 1)=1 from rfl,show qMA 1=4 from rfl]));have g2:(bits BinOp.and IntKind.u8 a.op 1 != 0)=_:=congrArg (!·) g1;simp only[Bool.not_true,Bool.not_false]at g2;clear H2;go_wp2_with fail
   go_quiet ((first|(go_at_call 189;exact (SP.out _ _ (by decide)).mono fun _ _ h=>⟨h.1,_,h.2.symm⟩)|(go_at_call 189;exact (SM.out _ _ (by decide)).mono fun _ _ h=>⟨h.1,_,h.2.symm⟩)));go_wp2
   go_ret;exact⟨qA8 (by rw[H3.out,g2];rfl),by rw[hn];exact⟨hB5.os,hB5.tape,hB5.output,hB5.size,hB5.block⟩⟩
