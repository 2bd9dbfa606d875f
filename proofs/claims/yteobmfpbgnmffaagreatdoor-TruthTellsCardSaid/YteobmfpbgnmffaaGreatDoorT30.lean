/- TrMeas -/
import Derived.Test.YteobmfpbgnmffaaGreatDoorT10
set_option linter.unusedVariables false
set_option maxHeartbeats 16000000
set_option maxRecDepth 100000
open Go.Lib (hid)
set_option linter.unusedSimpArgs false
namespace Go.Proofs.YteobmfpbgnmffaaGreatDoor
open Go.RowKit Go.Shelf
def WhIn (w:World) : Prop := PkIn w/\qDR w
theorem WhIn.below {w w':World}(h:WhIn w)(hb:Below w.heap.size w w') : WhIn w' := ⟨h.1.below hb,h.2.past lR hb⟩
theorem qED:∀(f:Nat) (t:RV) (w:World),t.ht<=f->t.tree.parts<=1000000->RTree w.heap.size w t->WhIn w->Calls Tryz.prog 96 #[t.val] w (qHV t.tree w)
 |0,t,w,hf,_,_,_=>absurd hf (by rw[qAN];omega)
 | f+1,t,w,hf,hp,ha,hI=>by
  have IH:=hid (fun x W h1 h2 h3 h4=>qED f x W h1 h2 h3 h4);have HA:=hid ha.rrow;have HI:=hid hI;have HW:=hid ha.wf;have HF:=hid (show htL t.args<=f by rw[qAN]at hf;omega);have HP:=hid hp;have hm:=ha.row.len;have HT:=hid (qAD t);by_cases hk:t.kind=1
  ·by_cases hl:t.args.length=0
   ·have hl0:((t.args.length:Int) == 0)=true:=by simp only[beq_iff_eq];omega
    have hok:=hid (show t.tree.okB=qAL t.dep by rw[qAD t,RT.okB,if_pos hk];have:qA1 t.args=[]:=List.eq_nil_of_length_eq_zero (by rw[qA5];exact hl);rw[this];simp);have hpd:=hid (show t.tree.parts=1/\t.tree.deep=0 by rw[qAD t,RT.parts,RT.deep,if_pos hk];have:qA1 t.args=[]:=List.eq_nil_of_length_eq_zero (by rw[qA5];exact hl);rw[this];simp[qA9]);have DM:=hid (fun W h=>qL2 t.dep W ha.wf h);unfold RV.val;rw[hk];clear ha hI hf hp hk hl HT;generalize t.args.length=m at *
    go_enter Tryz.func96,Tryz.ntmps96
    go_wp2_with fail
    go_at_call 101
    refine (DM.out _ (HI.out.1.below (bR.alloc lR _))).mono ?_;rintro en w1 ⟨rfl,hb⟩;have HB:=hid (((Below.refl _ w).alloc lR _).trans (hb.mono (by simp)));clear hb;go_wp2_with fail
    go_ret3
    exact⟨1,0,by rw[hok.out];rfl,by have:=hpd.out;omega,by omega,fun _=>by have:=hpd.out;omega,HB.out⟩
   ·have hl0:((t.args.length:Int) == 0)=false:=by simp only[beq_eq_false_iff_ne];omega
    have hok:=hid (show t.tree.okB=false by
     rw[qAD t,RT.okB,if_pos hk]
     cases hx:qA1 t.args with
     | nil=>exact absurd (by rw[<- qA5,hx];rfl) hl
     | cons x y=>rfl)
    have hpd:=hid (qJX t.tree);unfold RV.val;rw[hk];clear ha hI hf hp hk hl HT;generalize t.args.length=m at *
    go_enter Tryz.func96,Tryz.ntmps96
    go_wp2_with fail
    go_ret3
    exact⟨1,0,by rw[hok.out];rfl,hpd.out,by omega,(fun h=>by rw[hok.out]at h;cases h),(Below.refl _ w).alloc lR _⟩
  ·have hk1:(t.kind == 1)=false:=by simp only[beq_eq_false_iff_ne];exact hk
   have hok:=hid (show t.tree.okB=(decide (2<=t.kind/\t.kind<=7) && (qAH t.dep && (decide (2<=t.args.length/\t.args.length<=qF8 t.kind) && okL (qA1 t.args)))) by rw[qAD t,RT.okB,if_neg hk,qA5]);have hpa:=hid (show t.tree.parts=1+qA9 (qA1 t.args) by rw[qAD t,RT.parts]);have hde:=hid (show t.tree.deep=qBH (qA1 t.args)+1 by rw[qAD t,RT.deep,if_neg hk]);have hz:=hid (show qAH t.dep=((bs t.dep.name).toList.isEmpty && (t.dep.op == 0 && (t.dep.evr.epoch == 0 && ((bs t.dep.evr.ver).toList.isEmpty && (bs t.dep.evr.rel).toList.isEmpty)))) by unfold qAH qDO;rw[qA3,qA3,qA3]);obtain⟨iz,hiz⟩:∃iz,iz=qAH t.dep:=⟨_,rfl⟩;rw[<- hiz]at hz hok;clear hiz;unfold RV.val;clear ha hI hf hp;obtain⟨m,hmm⟩:∃m,m=t.args.length:=⟨_,rfl⟩;rw[<- hmm]at hm hok |-;have HM:=hid hmm;clear hmm HT;generalize t.kind=k at *;generalize t.addr=aA at *;generalize t.cap=ac at *;generalize t.args=l at *;generalize bs t.dep.name=n1 at *;generalize t.dep.op=o1 at *;generalize t.dep.evr.epoch=p1 at *;generalize bs t.dep.evr.ver=v1 at *;generalize bs t.dep.evr.rel=r1 at *;by_cases c1:(1:Int)<k
   rotate_left
   ·have hno:=hid (show t.tree.okB=false by rw[hok.out,decide_eq_false (by omega)];rfl);have c1':decide ((1:Int)<k)=false:=decide_eq_false c1;clear c1 hk
    as_aux_lemma =>
     go_enter Tryz.func96,Tryz.ntmps96
     go_wp2_with fail
     go_quiet (fail);go_wp2_with fail
     go_loopw[2,3,4,56] (fun p d ok i wr=>p=.int .i64 1/\d=.int .i64 0/\ok=.bool false/\i=.int .i64 0/\Below w.heap.size w wr) (fun _ _ _ _ _=>0)
     case atStart=>exact⟨rfl,rfl,rfl,rfl,below_drewN ((Below.refl _ w).alloc lR _)⟩
     case round =>
      obtain⟨rfl,rfl,rfl,rfl,hB⟩:=hrel;rename World=>wr
      by_cases hm0:m=0
      ·subst hm0;go_wp2_with fail
       go_ret3
       exact⟨1,1,by rw[hno.out];rfl,by have:=hpa.out;omega,by have:=hpa.out;omega,(fun h=>by rw[hno.out]at h;cases h),hB⟩
      ·have hk0:0<l.length:=by have:=HM.out;omega
       obtain⟨b,o,rfl,hb,e0,e1,e2,e3,e4,e5,e6⟩:=(HA.out.below hB).at_ hk0
       simp only[Nat.zero_mul,Nat.add_zero]at e0 e1 e2 e3 e4 e5 e6;have i1:(0:Int)<(m:Int):=by omega
       have HBB:=hid hB;have hsz:=hB.size;generalize l[0]=a at *;clear hB hk0 hm0;go_wp2_with fail
       go_ret3
       exact⟨1,1,by rw[hno.out];rfl,by have:=hpa.out;omega,by have:=hpa.out;omega,(fun h=>by rw[hno.out]at h;cases h),HBB.out.alloc hsz _⟩
   by_cases c2:k<=7
   rotate_left
   ·have hno:=hid (show t.tree.okB=false by rw[hok.out,decide_eq_false (by omega)];rfl);have c2':decide (k<=7)=false:=decide_eq_false c2;clear c2 hk
    as_aux_lemma =>
     go_enter Tryz.func96,Tryz.ntmps96
     go_wp2_with fail
     go_quiet (fail);go_wp2_with fail
     go_loopw[2,3,4,56] (fun p d ok i wr=>p=.int .i64 1/\d=.int .i64 0/\ok=.bool false/\i=.int .i64 0/\Below w.heap.size w wr) (fun _ _ _ _ _=>0)
     case atStart=>exact⟨rfl,rfl,rfl,rfl,below_drewN ((Below.refl _ w).alloc lR _)⟩
     case round =>
      obtain⟨rfl,rfl,rfl,rfl,hB⟩:=hrel;rename World=>wr
      by_cases hm0:m=0
      ·subst hm0;go_wp2_with fail
       go_ret3
       exact⟨1,1,by rw[hno.out];rfl,by have:=hpa.out;omega,by have:=hpa.out;omega,(fun h=>by rw[hno.out]at h;cases h),hB⟩
      ·have hk0:0<l.length:=by have:=HM.out;omega
       obtain⟨b,o,rfl,hb,e0,e1,e2,e3,e4,e5,e6⟩:=(HA.out.below hB).at_ hk0
       simp only[Nat.zero_mul,Nat.add_zero]at e0 e1 e2 e3 e4 e5 e6;have i1:(0:Int)<(m:Int):=by omega
       have HBB:=hid hB;have hsz:=hB.size;generalize l[0]=a at *;clear hB hk0 hm0;go_wp2_with fail
       go_ret3
       exact⟨1,1,by rw[hno.out];rfl,by have:=hpa.out;omega,by have:=hpa.out;omega,(fun h=>by rw[hno.out]at h;cases h),HBB.out.alloc hsz _⟩
   by_cases z1:n1.toList.isEmpty=true
   rotate_left
   ·have hno:=hid (show t.tree.okB=false by rw[hok.out,hz.out];simp[z1]);have z1':n1.toList.isEmpty=false:=by simpa using z1
    have z1a:¬n1.toList=[]:=by intro h;rw[h]at z1';cases z1'
    clear z1 hk
    as_aux_lemma =>
     go_enter Tryz.func96,Tryz.ntmps96
     go_wp2_with fail
     go_quiet (fail);go_wp2_with fail
     go_loopw[2,3,4,56] (fun p d ok i wr=>p=.int .i64 1/\d=.int .i64 0/\ok=.bool false/\i=.int .i64 0/\Below w.heap.size w wr) (fun _ _ _ _ _=>0)
     case atStart=>exact⟨rfl,rfl,rfl,rfl,below_drewN ((Below.refl _ w).alloc lR _)⟩
     case round =>
      obtain⟨rfl,rfl,rfl,rfl,hB⟩:=hrel;rename World=>wr
      by_cases hm0:m=0
      ·subst hm0;go_wp2_with fail
       go_ret3
       exact⟨1,1,by rw[hno.out];rfl,by have:=hpa.out;omega,by have:=hpa.out;omega,(fun h=>by rw[hno.out]at h;cases h),hB⟩
      ·have hk0:0<l.length:=by have:=HM.out;omega
       obtain⟨b,o,rfl,hb,e0,e1,e2,e3,e4,e5,e6⟩:=(HA.out.below hB).at_ hk0
       simp only[Nat.zero_mul,Nat.add_zero]at e0 e1 e2 e3 e4 e5 e6;have i1:(0:Int)<(m:Int):=by omega
       have HBB:=hid hB;have hsz:=hB.size;generalize l[0]=a at *;clear hB hk0 hm0;go_wp2_with fail
       go_ret3
       exact⟨1,1,by rw[hno.out];rfl,by have:=hpa.out;omega,by have:=hpa.out;omega,(fun h=>by rw[hno.out]at h;cases h),HBB.out.alloc hsz _⟩
   have hn1:n1=⟨#[]⟩:=toList_inj ((List.isEmpty_iff.1 z1).trans (qA3 []).symm);subst hn1;by_cases z2:o1=0
   rotate_left
   ·have hno:=hid (show t.tree.okB=false by rw[hok.out,hz.out];simp[z2]);have z2':(o1 == 0)=false:=by simpa using z2
    clear hk
    as_aux_lemma =>
     go_enter Tryz.func96,Tryz.ntmps96
     go_wp2_with fail
     go_quiet (fail);go_wp2_with fail
     go_loopw[2,3,4,56] (fun p d ok i wr=>p=.int .i64 1/\d=.int .i64 0/\ok=.bool false/\i=.int .i64 0/\Below w.heap.size w wr) (fun _ _ _ _ _=>0)
     case atStart=>exact⟨rfl,rfl,rfl,rfl,below_drewN ((Below.refl _ w).alloc lR _)⟩
     case round =>
      obtain⟨rfl,rfl,rfl,rfl,hB⟩:=hrel;rename World=>wr
      by_cases hm0:m=0
      ·subst hm0;go_wp2_with fail
       go_ret3
       exact⟨1,1,by rw[hno.out];rfl,by have:=hpa.out;omega,by have:=hpa.out;omega,(fun h=>by rw[hno.out]at h;cases h),hB⟩
      ·have hk0:0<l.length:=by have:=HM.out;omega
       obtain⟨b,o,rfl,hb,e0,e1,e2,e3,e4,e5,e6⟩:=(HA.out.below hB).at_ hk0
       simp only[Nat.zero_mul,Nat.add_zero]at e0 e1 e2 e3 e4 e5 e6;have i1:(0:Int)<(m:Int):=by omega
       have HBB:=hid hB;have hsz:=hB.size;generalize l[0]=a at *;clear hB hk0 hm0;go_wp2_with fail
       go_ret3
       exact⟨1,1,by rw[hno.out];rfl,by have:=hpa.out;omega,by have:=hpa.out;omega,(fun h=>by rw[hno.out]at h;cases h),HBB.out.alloc hsz _⟩
   subst z2;by_cases z3:p1=0
   rotate_left
   ·have hno:=hid (show t.tree.okB=false by rw[hok.out,hz.out];simp[z3]);have z3':(p1 == 0)=false:=by simpa using z3
    clear hk
    as_aux_lemma =>
     go_enter Tryz.func96,Tryz.ntmps96
     go_wp2_with fail
     go_quiet (fail);go_wp2_with fail
     go_loopw[2,3,4,56] (fun p d ok i wr=>p=.int .i64 1/\d=.int .i64 0/\ok=.bool false/\i=.int .i64 0/\Below w.heap.size w wr) (fun _ _ _ _ _=>0)
     case atStart=>exact⟨rfl,rfl,rfl,rfl,below_drewN ((Below.refl _ w).alloc lR _)⟩
     case round =>
      obtain⟨rfl,rfl,rfl,rfl,hB⟩:=hrel;rename World=>wr
      by_cases hm0:m=0
      ·subst hm0;go_wp2_with fail
       go_ret3
       exact⟨1,1,by rw[hno.out];rfl,by have:=hpa.out;omega,by have:=hpa.out;omega,(fun h=>by rw[hno.out]at h;cases h),hB⟩
      ·have hk0:0<l.length:=by have:=HM.out;omega
       obtain⟨b,o,rfl,hb,e0,e1,e2,e3,e4,e5,e6⟩:=(HA.out.below hB).at_ hk0
       simp only[Nat.zero_mul,Nat.add_zero]at e0 e1 e2 e3 e4 e5 e6;have i1:(0:Int)<(m:Int):=by omega
       have HBB:=hid hB;have hsz:=hB.size;generalize l[0]=a at *;clear hB hk0 hm0;go_wp2_with fail
       go_ret3
       exact⟨1,1,by rw[hno.out];rfl,by have:=hpa.out;omega,by have:=hpa.out;omega,(fun h=>by rw[hno.out]at h;cases h),HBB.out.alloc hsz _⟩
   subst z3;by_cases z4:v1.toList.isEmpty=true
   rotate_left
   ·have hno:=hid (show t.tree.okB=false by rw[hok.out,hz.out];simp[z4]);have z4':v1.toList.isEmpty=false:=by simpa using z4
    have z4a:¬v1.toList=[]:=by intro h;rw[h]at z4';cases z4'
    clear z4 hk
    as_aux_lemma =>
     go_enter Tryz.func96,Tryz.ntmps96
     go_wp2_with fail
     go_quiet (fail);go_wp2_with fail
     go_loopw[2,3,4,56] (fun p d ok i wr=>p=.int .i64 1/\d=.int .i64 0/\ok=.bool false/\i=.int .i64 0/\Below w.heap.size w wr) (fun _ _ _ _ _=>0)
     case atStart=>exact⟨rfl,rfl,rfl,rfl,below_drewN ((Below.refl _ w).alloc lR _)⟩
     case round =>
      obtain⟨rfl,rfl,rfl,rfl,hB⟩:=hrel;rename World=>wr
      by_cases hm0:m=0
      ·subst hm0;go_wp2_with fail
       go_ret3
       exact⟨1,1,by rw[hno.out];rfl,by have:=hpa.out;omega,by have:=hpa.out;omega,(fun h=>by rw[hno.out]at h;cases h),hB⟩
      ·have hk0:0<l.length:=by have:=HM.out;omega
       obtain⟨b,o,rfl,hb,e0,e1,e2,e3,e4,e5,e6⟩:=(HA.out.below hB).at_ hk0
       simp only[Nat.zero_mul,Nat.add_zero]at e0 e1 e2 e3 e4 e5 e6;have i1:(0:Int)<(m:Int):=by omega
       have HBB:=hid hB;have hsz:=hB.size;generalize l[0]=a at *;clear hB hk0 hm0;go_wp2_with fail
       go_ret3
       exact⟨1,1,by rw[hno.out];rfl,by have:=hpa.out;omega,by have:=hpa.out;omega,(fun h=>by rw[hno.out]at h;cases h),HBB.out.alloc hsz _⟩
   have hv1:v1=⟨#[]⟩:=toList_inj ((List.isEmpty_iff.1 z4).trans (qA3 []).symm);subst hv1;by_cases z5:r1.toList.isEmpty=true
   rotate_left
   ·have hno:=hid (show t.tree.okB=false by rw[hok.out,hz.out];simp[z5]);have z5':r1.toList.isEmpty=false:=by simpa using z5
    have z5a:¬r1.toList=[]:=by intro h;rw[h]at z5';cases z5'
    clear z5 hk
    as_aux_lemma =>
     go_enter Tryz.func96,Tryz.ntmps96
     go_wp2_with fail
     go_quiet (fail);go_wp2_with fail
     go_loopw[2,3,4,56] (fun p d ok i wr=>p=.int .i64 1/\d=.int .i64 0/\ok=.bool false/\i=.int .i64 0/\Below w.heap.size w wr) (fun _ _ _ _ _=>0)
     case atStart=>exact⟨rfl,rfl,rfl,rfl,below_drewN ((Below.refl _ w).alloc lR _)⟩
     case round =>
      obtain⟨rfl,rfl,rfl,rfl,hB⟩:=hrel;rename World=>wr
      by_cases hm0:m=0
      ·subst hm0;go_wp2_with fail
       go_ret3
       exact⟨1,1,by rw[hno.out];rfl,by have:=hpa.out;omega,by have:=hpa.out;omega,(fun h=>by rw[hno.out]at h;cases h),hB⟩
      ·have hk0:0<l.length:=by have:=HM.out;omega
       obtain⟨b,o,rfl,hb,e0,e1,e2,e3,e4,e5,e6⟩:=(HA.out.below hB).at_ hk0
       simp only[Nat.zero_mul,Nat.add_zero]at e0 e1 e2 e3 e4 e5 e6;have i1:(0:Int)<(m:Int):=by omega
       have HBB:=hid hB;have hsz:=hB.size;generalize l[0]=a at *;clear hB hk0 hm0;go_wp2_with fail
       go_ret3
       exact⟨1,1,by rw[hno.out];rfl,by have:=hpa.out;omega,by have:=hpa.out;omega,(fun h=>by rw[hno.out]at h;cases h),HBB.out.alloc hsz _⟩
   have hr1:r1=⟨#[]⟩:=toList_inj ((List.isEmpty_iff.1 z5).trans (qA3 []).symm);subst hr1;by_cases c4:2<=m
   rotate_left
   ·have hno:=hid (show t.tree.okB=false by rw[hok.out];simp[c4]);have c4':decide ((2:Int)<=(m:Int))=false:=decide_eq_false (by omega);clear c4 hk
    as_aux_lemma =>
     go_enter Tryz.func96,Tryz.ntmps96
     go_wp2_with fail
     go_quiet (fail);go_wp2_with fail
     go_loopw[2,3,4,56] (fun p d ok i wr=>p=.int .i64 1/\d=.int .i64 0/\ok=.bool false/\i=.int .i64 0/\Below w.heap.size w wr) (fun _ _ _ _ _=>0)
     case atStart=>exact⟨rfl,rfl,rfl,rfl,below_drewN ((Below.refl _ w).alloc lR _)⟩
     case round =>
      obtain⟨rfl,rfl,rfl,rfl,hB⟩:=hrel;rename World=>wr
      by_cases hm0:m=0
      ·subst hm0;go_wp2_with fail
       go_ret3
       exact⟨1,1,by rw[hno.out];rfl,by have:=hpa.out;omega,by have:=hpa.out;omega,(fun h=>by rw[hno.out]at h;cases h),hB⟩
      ·have hk0:0<l.length:=by have:=HM.out;omega
       obtain⟨b,o,rfl,hb,e0,e1,e2,e3,e4,e5,e6⟩:=(HA.out.below hB).at_ hk0
       simp only[Nat.zero_mul,Nat.add_zero]at e0 e1 e2 e3 e4 e5 e6;have i1:(0:Int)<(m:Int):=by omega
       have HBB:=hid hB;have hsz:=hB.size;generalize l[0]=a at *;clear hB hk0 hm0;go_wp2_with fail
       go_ret3
       exact⟨1,1,by rw[hno.out];rfl,by have:=hpa.out;omega,by have:=hpa.out;omega,(fun h=>by rw[hno.out]at h;cases h),HBB.out.alloc hsz _⟩
   obtain⟨q,rfl⟩:∃q:Nat,k=(q:Int):=⟨k.toNat,by omega⟩;have hq2:2<=q:=by omega
   have hq8:q<8:=by omega
   obtain⟨x0,x1⟩:=HI.out.2.at_ hq2 hq8;obtain⟨mo,hmo⟩:∃mo,mo=qF8 (q:Int):=⟨_,rfl⟩;rw[<- hmo]at x1 hok;have k0:(0:Int)<=(q:Int):=by omega
   have k1:(q:Int)<8:=by omega
   have hgl:=HI.out.2.1;clear x0 hmo;by_cases c5:m<=mo
   rotate_left
   ·have hno:=hid (show t.tree.okB=false by rw[hok.out];simp[c5]);have c5':decide ((m:Int)<=(mo:Int))=false:=decide_eq_false (by omega);have c4':(2:Int)<=(m:Int):=by omega
    have c5n:decide (m<=mo)=false:=decide_eq_false c5;clear c5 hk
    as_aux_lemma =>
     go_enter Tryz.func96,Tryz.ntmps96
     go_wp2_with fail
     go_quiet (fail);go_wp2_with fail
     go_loopw[2,3,4,56] (fun p d ok i wr=>p=.int .i64 1/\d=.int .i64 0/\ok=.bool false/\i=.int .i64 0/\Below w.heap.size w wr) (fun _ _ _ _ _=>0)
     case atStart=>exact⟨rfl,rfl,rfl,rfl,below_drewN ((Below.refl _ w).alloc lR _)⟩
     case round =>
      obtain⟨rfl,rfl,rfl,rfl,hB⟩:=hrel;rename World=>wr
      by_cases hm0:m=0
      ·subst hm0;go_wp2_with fail
       go_ret3
       exact⟨1,1,by rw[hno.out];rfl,by have:=hpa.out;omega,by have:=hpa.out;omega,(fun h=>by rw[hno.out]at h;cases h),hB⟩
      ·have hk0:0<l.length:=by have:=HM.out;omega
       obtain⟨b,o,rfl,hb,e0,e1,e2,e3,e4,e5,e6⟩:=(HA.out.below hB).at_ hk0
       simp only[Nat.zero_mul,Nat.add_zero]at e0 e1 e2 e3 e4 e5 e6;have i1:(0:Int)<(m:Int):=by omega
       have HBB:=hid hB;have hsz:=hB.size;generalize l[0]=a at *;clear hB hk0 hm0;go_wp2_with fail
       go_ret3
       exact⟨1,1,by rw[hno.out];rfl,by have:=hpa.out;omega,by have:=hpa.out;omega,(fun h=>by rw[hno.out]at h;cases h),HBB.out.alloc hsz _⟩
   have c4':(2:Int)<=(m:Int):=by omega
   have c5':(m:Int)<=(mo:Int):=by omega
   have hokl:=hid (show t.tree.okB=okL (qA1 l) by rw[hok.out,hz.out,decide_eq_true (show 2<=(q:Int)/\(q:Int)<=7 by omega),decide_eq_true (show 2<=m/\m<=mo from⟨c4,c5⟩)];simp);have HP2:=hid (show 1+qA9 (qA1 l)<=1000000 by have:=HP.out;have:=hpa.out;omega);clear hok hz c4 c5 z1 z4 z5 hk
   as_aux_lemma =>
    go_enter Tryz.func96,Tryz.ntmps96
    go_wp2_with fail
    go_quiet (fail);go_wp2_with fail
    go_loopw[2,3,4,56] (fun pv dv okv iv wr => ∃(i pp dd:Nat) (ok:Bool),i<=m/\pv=.int .i64 (pp:Int)/\dv=.int .i64 (dd:Int)/\okv=.bool ok/\iv=.int .i64 (i:Int)/\ok=okL ((qA1 l).take i)/\pp<=1+qA9 ((qA1 l).take i)/\dd<=qA9 ((qA1 l).take i)/\(ok=true->pp=1+qA9 ((qA1 l).take i)/\dd=qBH ((qA1 l).take i))/\Below w.heap.size w wr) (fun _ _ _ iv _=>m - (intOf iv).toNat)
    case atStart=>exact⟨0,1,0,true,by omega,rfl,rfl,rfl,rfl,rfl,by simp[qA9],by simp,fun _=>by simp[qA9,qBH],below_drewN ((Below.refl _ w).alloc lR _)⟩
    case round =>
     obtain⟨i,pp,dd,ok,hi,rfl,rfl,rfl,rfl,hok,hpp,hdd,himp,hB⟩:=hrel;rename World=>wr
     have hpm:=qAR (qA1 l) i;have hp2:=HP2.out;have b1:pp<=1000000:=by omega
     have b2:dd<=1000000:=by omega
     by_cases hlt:i<m
     ·have hka:i<l.length:=by have:=HM.out;omega
      have hRR:=HA.out.below hB;obtain⟨b,o,rfl,hb,e0,e1,e2,e3,e4,e5,e6⟩:=hRR.at_ hka;have TA:=(hRR.2 _ (List.getElem_mem hka)).more hB.size;have hht:=Nat.le_trans (qBN (List.getElem_mem hka)) HF.out;have hkt:i<(qA1 l).length:=by rw[qA5];exact hka
      have g1:=qLN hkt;have g2:=qDG hkt;have g3:=qUN hkt;rw[qAI l i hka]at g1 g2 g3;have hpm2:=qAR (qA1 l) (i+1);have hsz:=hB.size;have i1:(i:Int)<(m:Int):=by omega
      have i0:(0:Int)<=(i:Int):=by omega
      have HBB:=hid hB;have hcall:=IH.out l[i] (wr.alloc (.cells #[.int .u8 l[i].kind,.string (bs l[i].dep.name),.int .u8 l[i].dep.op,.int .i64 l[i].dep.evr.epoch,.string (bs l[i].dep.evr.ver),.string (bs l[i].dep.evr.rel),.slice l[i].addr l[i].args.length l[i].cap] 39)) hht (by omega) ((TA.keeps (bR.alloc lR _)).more (by simp)) (HI.out.below (hB.alloc hsz _));unfold qHV at hcall;unfold RV.val at hcall;have HC:=hid hcall;have G1:=hid g1;have G2:=hid g2;have G3:=hid g3;have HPM2:=hid hpm2;clear hcall TA hRR hht hB g1 g2 g3 hpm2;generalize l[i]=a at *
      cases ok with
      | false =>
       have hno:=hid (show t.tree.okB=false by
        rw[hokl.out]
        cases hx:okL (qA1 l) with
        | false=>rfl
        | true =>
         have h2:=qRC ((qA1 l).take i) ((qA1 l).drop i);rw[List.take_append_drop,hx,<- hok]at h2
         cases h2)
       have hpa1:=hpa.out;clear hok himp HC hka hkt;go_wp2_with fail
       go_ret3
       exact⟨pp,dd+1,by rw[hno.out];rfl,by omega,by omega,(fun h=>by rw[hno.out]at h;cases h),HBB.out.alloc hsz _⟩
      | true =>
       have HOK:=hid hok;have HIMP:=hid himp;clear hok himp hka hkt;go_wp2_with fail
       go_at_call 96
       refine HC.out.mono ?_;rintro en w5 ⟨p',d',rfl,hp',hd',himp',hB5⟩;have HB5:=hid (HBB.out.trans (((Below.refl w.heap.size wr).alloc hsz _).trans (hB5.mono (by simp;omega))));have HI5:=hid himp';have b3:p'<=1000000:=by have:=HPM2.out;have:=G1.out;omega
       have b4:d'<=1000000:=by have:=HPM2.out;have:=G1.out;omega
       have b5:pp+p'<=2000000:=by omega
       clear hB5 himp' HC;go_wp2_with fail
       go_roundw
       case rel=>exact⟨i+1,pp+p',max dd d',a.tree.okB,by omega,by go_num,qT8 (by omega),rfl,by go_num,by rw[G3.out,<- HOK.out,Bool.true_and],by rw[G1.out];omega,by rw[G1.out];omega,fun h=>by
        have h1:=HIMP.out (by first|rfl|trivial);have h2:=HI5.out h;exact⟨by rw[G1.out];omega,by rw[G2.out,h1.2,h2.2]⟩,HB5.out⟩
       case measure=>simp[intOf];omega
     ·obtain rfl:i=m:=by omega
      have i1:¬(i:Int)<(i:Int):=by omega
      have hfull:(qA1 l).take i=qA1 l:=List.take_of_length_le (by rw[qA5];have:=HM.out;omega);rw[hfull]at hok hpp hdd himp;have HX:=hid (show ok=t.tree.okB/\pp<=t.tree.parts/\dd+1<=t.tree.parts/\(ok=true->pp=t.tree.parts/\dd+1=t.tree.deep) by rw[hokl.out,hpa.out,hde.out];exact⟨hok,hpp,by omega,fun h=>⟨(himp h).1,by rw[(himp h).2]⟩⟩);have HBB:=hid hB;clear hok hpp hdd himp hB hpm hp2 hfull;go_wp2_with fail
      go_ret3
      exact⟨pp,dd+1,by rw[HX.out.1];rfl,HX.out.2.1,HX.out.2.2.1,fun h=>HX.out.2.2.2 (by rw[HX.out.1];exact h),HBB.out⟩
theorem qM6 (t:RV)(w:World)(hp:t.tree.parts<=1000000)(ht:RTree w.heap.size w t)(hI:WhIn w) : Calls Tryz.prog 45 #[t.val] w fun e w'=>e=.returned (.bool t.tree.whole)/\Below w.heap.size w w' := by
 have HC:=hid (qED t.ht t (w.alloc (.cells #[.int .u8 t.kind,.string (bs t.dep.name),.int .u8 t.dep.op,.int .i64 t.dep.evr.epoch,.string (bs t.dep.evr.ver),.string (bs t.dep.evr.rel),.slice t.addr t.args.length t.cap] 39)) lR hp ((ht.keeps (bR.alloc lR _)).more (by simp)) (hI.below (bR.alloc lR _)));have HP:=hid hp;unfold qHV at HC;unfold RV.val at HC |-;clear ht hI hp;generalize t.args.length=m at *
 go_enter Tryz.func45,Tryz.ntmps45
 go_wp2_with fail
 go_at_call 96
 refine HC.out.mono ?_;rintro en w1 ⟨p,d,rfl,h1,h2,h3,hb⟩;have HB:=hid (((Below.refl w.heap.size w).alloc lR _).trans (hb.mono (by simp)));have H3:=hid h3;clear hb h3 HC h1 h2
 cases hok:t.tree.okB with
 | false =>
  have hw:=hid (show t.tree.whole=false by unfold RT.whole;rw[hok];rfl);clear hok;go_wp2_with fail
  go_ret;exact⟨by rw[hw.out];rfl,HB.out⟩
 | true =>
  obtain⟨e1,e2⟩:=H3.out hok;by_cases c1:p<=24
  ·have c1':(p:Int)<=24:=by omega
   by_cases c2:d<=8
   ·have c2':(d:Int)<=8:=by omega
    have hw:=hid (show t.tree.whole=true by unfold RT.whole;rw[hok,decide_eq_true (by omega)];rfl);clear hok e1 e2 c1 c2;go_wp2_with fail
    go_ret;exact⟨by rw[hw.out];rfl,HB.out⟩
   ·have c2':decide ((d:Int)<=8)=false:=decide_eq_false (by omega);have hw:=hid (show t.tree.whole=false by unfold RT.whole;rw[hok,decide_eq_false (by omega)];rfl);clear hok e1 e2 c1 c2;go_wp2_with fail
    go_ret;exact⟨by rw[hw.out];rfl,HB.out⟩
  ·have c1':decide ((p:Int)<=24)=false:=decide_eq_false (by omega);have hw:=hid (show t.tree.whole=false by unfold RT.whole;rw[hok,decide_eq_false (by omega)];rfl);clear hok e1 e2 c1;go_wp2_with fail
   go_ret;exact⟨by rw[hw.out];rfl,HB.out⟩
theorem qKP {t:RT}(h:t.whole=true) : t.okB=true := by unfold RT.whole at h;simp only[Bool.and_eq_true]at h;exact h.1
