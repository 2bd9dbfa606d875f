/- RtMeas, RtPart, RtShow -/
import Derived.Test.YteobmfpbgnmffaaGreatDoorT38
set_option linter.unusedVariables false
set_option maxHeartbeats 16000000
set_option maxRecDepth 100000
open Go.Lib (hid)
set_option linter.unusedSimpArgs false
namespace Go.Proofs.YteobmfpbgnmffaaGreatDoor
open Go.RowKit Go.Shelf
section
theorem qGI:∀(f:Nat) (t:RV) (w:World),t.ht<=f->t.tree.parts<=1000000->RTree w.heap.size w t->Calls Tryz.prog 152 #[t.val] w fun e w'=>e=.returned (.int .i64 (t.tree.parts : Int))/\Below w.heap.size w w'
 |0,t,w,hf,_,_=>absurd hf (by rw[qAN];omega)
 | f+1,t,w,hf,hp,h=>by
  have IH:=hid (fun x W h1 h2 h3=>qGI f x W h1 h2 h3);have HA:=hid h.rrow;have HF:=hid (show htL t.args<=f by rw[qAN]at hf;omega);have hm:=h.row.len;have hpa:=hid (show t.tree.parts=1+qA9 (qA1 t.args) by rw[qAD t,RT.parts]);have HP:=hid (show 1+qA9 (qA1 t.args)<=1000000 by rw[qAD t,RT.parts]at hp;exact hp);rw[hpa.out];unfold RV.val;obtain⟨n,hnn⟩:∃n,n=t.args.length:=⟨_,rfl⟩;rw[<- hnn]at hm |-;have HN:=hid hnn;clear h hf hp hnn hpa;generalize t.addr=aA at *;generalize t.cap=ac at *;generalize t.args=l at *;generalize bs t.dep.name=s0 at *;generalize bs t.dep.evr.ver=s1 at *;generalize bs t.dep.evr.rel=s2 at *;obtain⟨W1,hW1⟩:∃W1,W1=w.alloc (.cells #[.int .u8 t.kind,.string s0,.int .u8 t.dep.op,.int .i64 t.dep.evr.epoch,.string s1,.string s2,.slice aA n ac] 39):=⟨_,rfl⟩;have HC6:=hid (show W1.cell? ⟨w.heap.size,6,none⟩=some (.slice aA n ac) by rw[hW1];exact (World.cell?_alloc_at _ _ _ _ rfl).trans rfl);have HB1:=hid (show Below w.heap.size w W1 by rw[hW1];exact bR.alloc lR _);have Z1:=hid (show W1.heap.size=w.heap.size+1 by rw[hW1];simp);have HW1:=hid hW1;clear hW1
  go_enter Tryz.func152,Tryz.ntmps152
  go_wp2_with fail
  go_loopw[3,4] (fun m i wr => ∃k:Nat,k<=n/\i=.int .i64 (k:Int)/\m=.int .i64 ((1+qA9 ((qA1 l).take k):Nat):Int)/\Below (w.heap.size+1) W1 wr) (fun _ i _=>n - (intOf i).toNat)
  case atStart=>exact⟨0,by omega,rfl,by simp[qA9],by rw[HW1.out];exact Below.refl _ _⟩
  case round =>
   obtain⟨k,hk,rfl,rfl,hB⟩:=hrel;rename World=>wr
   have q6:wr.cell? ⟨w.heap.size,6,none⟩=some (.slice aA n ac):=(hB.cell (p:=⟨w.heap.size,6,none⟩) (by show w.heap.size<w.heap.size+1;omega)).trans HC6.out;have HBW:=hid (HB1.out.trans (hB.mono (by omega)));have HBR:=hid hB;have hz1:w.heap.size+1<=wr.heap.size:=by have:=hB.size;have:=Z1.out;omega
   have hpm:=qAR (qA1 l) k;have hp2:=HP.out;clear hB;by_cases hlt:k<n
   ·have hkl:k<l.length:=by have:=HN.out;omega
    have RR:=HA.out.below HBW.out;obtain⟨b,o,rfl,hb,c0,c1,c2,c3,c4,c5,c6⟩:=RR.at_ hkl;have TA:=(RR.2 _ (List.getElem_mem hkl)).more HBW.out.size;have hkt:k<(qA1 l).length:=by rw[qA5];exact hkl
    have g1:=qCB hkt;have hpm2:=qAR (qA1 l) (k+1);rw[qAI l k hkl]at g1;have hht:=Nat.le_trans (qBN (List.getElem_mem hkl)) HF.out;have hc2:=IH.out l[k] wr hht (by omega) TA;unfold RV.val at hc2;have HC:=hid hc2;have G1:=hid g1;have hq:l[k].tree.parts<=1000000:=by omega
    have i0:(0:Int)<=(k:Int):=by omega
    have i1:(k:Int)<(n:Int):=by omega
    obtain⟨c,hcc⟩:∃c,c=1+qA9 ((qA1 l).take k):=⟨_,rfl⟩;rw[<- hcc];have hcm:c<=1000000:=by omega
    have HCC:=hid hcc;clear hc2 TA RR g1 hht hpm hpm2 hp2 hcc;generalize l[k]=a at *;obtain⟨p,hpp⟩:∃p,p=a.tree.parts:=⟨_,rfl⟩;rw[<- hpp]at HC hq G1;clear hkt hkl hpp;go_wp2_with fail
    go_at_call 152
    refine HC.out.mono ?_;rintro e w2 ⟨rfl,hb2⟩;have HB2:=hid (HBR.out.trans (hb2.mono hz1));clear hb2 HC;go_wp2_with fail
    go_roundw
    case rel=>exact⟨k+1,by omega,by go_num,by rw[G1.out,<- Nat.add_assoc,<- HCC.out];go_num,HB2.out⟩
    case measure=>simp[intOf];omega
   ·have i1:¬(k:Int)<(n:Int):=by omega
    obtain rfl:k=n:=by omega
    have hfull:(qA1 l).take k=qA1 l:=List.take_of_length_le (by rw[qA5];have:=HN.out;omega);rw[hfull];clear hfull;go_wp2_with fail
    go_ret;exact⟨rfl,HBW.out⟩
theorem qHS:∀(f:Nat) (t:RV) (w:World),t.ht<=f->t.tree.parts<=1000000->RTree w.heap.size w t->Calls Tryz.prog 153 #[t.val] w fun e w'=>e=.returned (.int .i64 (t.tree.deep : Int))/\Below w.heap.size w w'
 |0,t,w,hf,_,_=>absurd hf (by rw[qAN];omega)
 | f+1,t,w,hf,hp,h=>by
  have IH:=hid (fun x W h1 h2 h3=>qHS f x W h1 h2 h3);have HA:=hid h.rrow;have HF:=hid (show htL t.args<=f by rw[qAN]at hf;omega);have hm:=h.row.len;have HP:=hid (show 1+qA9 (qA1 t.args)<=1000000 by rw[qAD t,RT.parts]at hp;exact hp);by_cases hk:t.kind=1
  ·have hd:t.tree.deep=0:=by rw[qAD t,RT.deep,if_pos hk]
   rw[hd];unfold RV.val;rw[hk];clear h hd hk hf hp IH HA HF HP;generalize t.args.length=m at *
   go_enter Tryz.func153,Tryz.ntmps153
   go_wp2_with fail
   go_ret;exact⟨rfl,bR.alloc lR _⟩
  have hk1:(t.kind == 1)=false:=by simp only[beq_eq_false_iff_ne];exact hk
  have hd:t.tree.deep=qBH (qA1 t.args)+1:=by rw[qAD t,RT.deep,if_neg hk]
  have hdp:=qB6.deepL_parts (qA1 t.args);have HDP:=hid hdp;rw[hd];unfold RV.val;obtain⟨n,hnn⟩:∃n,n=t.args.length:=⟨_,rfl⟩;rw[<- hnn]at hm |-;have HN:=hid hnn;clear h hf hp hnn hk hd hdp;generalize t.addr=aA at *;generalize t.cap=ac at *;generalize t.args=l at *;generalize t.kind=kd at *;generalize bs t.dep.name=s0 at *;generalize bs t.dep.evr.ver=s1 at *;generalize bs t.dep.evr.rel=s2 at *;obtain⟨W1,hW1⟩:∃W1,W1=w.alloc (.cells #[.int .u8 kd,.string s0,.int .u8 t.dep.op,.int .i64 t.dep.evr.epoch,.string s1,.string s2,.slice aA n ac] 39):=⟨_,rfl⟩;have HC6:=hid (show W1.cell? ⟨w.heap.size,6,none⟩=some (.slice aA n ac) by rw[hW1];exact (World.cell?_alloc_at _ _ _ _ rfl).trans rfl);have HB1:=hid (show Below w.heap.size w W1 by rw[hW1];exact bR.alloc lR _);have Z1:=hid (show W1.heap.size=w.heap.size+1 by rw[hW1];simp);have HW1:=hid hW1;clear hW1
  go_enter Tryz.func153,Tryz.ntmps153
  go_wp2_with fail
  go_loopw[3,4] (fun m i wr => ∃k:Nat,k<=n/\i=.int .i64 (k:Int)/\m=.int .i64 ((qBH ((qA1 l).take k):Nat):Int)/\Below (w.heap.size+1) W1 wr) (fun _ i _=>n - (intOf i).toNat)
  case atStart=>exact⟨0,by omega,rfl,by simp[qBH],by rw[HW1.out];exact Below.refl _ _⟩
  case round =>
   obtain⟨k,hk,rfl,rfl,hB⟩:=hrel;rename World=>wr
   have q6:wr.cell? ⟨w.heap.size,6,none⟩=some (.slice aA n ac):=(hB.cell (p:=⟨w.heap.size,6,none⟩) (by show w.heap.size<w.heap.size+1;omega)).trans HC6.out;have HBW:=hid (HB1.out.trans (hB.mono (by omega)));have HBR:=hid hB;have hz1:w.heap.size+1<=wr.heap.size:=by have:=hB.size;have:=Z1.out;omega
   have hpm:=qAR (qA1 l) k;have hp2:=HP.out;have hdm:=qB6.deepL_parts ((qA1 l).take k);clear hB;by_cases hlt:k<n
   ·have hkl:k<l.length:=by have:=HN.out;omega
    have RR:=HA.out.below HBW.out;obtain⟨b,o,rfl,hb,c0,c1,c2,c3,c4,c5,c6⟩:=RR.at_ hkl;have TA:=(RR.2 _ (List.getElem_mem hkl)).more HBW.out.size;have hkt:k<(qA1 l).length:=by rw[qA5];exact hkl
    have g1:=qDG hkt;have g2:=qCB hkt;have hpm2:=qAR (qA1 l) (k+1);have hdp2:=qB6 l[k].tree;rw[qAI l k hkl]at g1 g2;have hht:=Nat.le_trans (qBN (List.getElem_mem hkl)) HF.out;have hc2:=IH.out l[k] wr hht (by omega) TA;unfold RV.val at hc2;have HC:=hid hc2;have G1:=hid g1;have hq:l[k].tree.deep<=1000000:=by omega
    have i0:(0:Int)<=(k:Int):=by omega
    have i1:(k:Int)<(n:Int):=by omega
    obtain⟨c,hcc⟩:∃c,c=qBH ((qA1 l).take k):=⟨_,rfl⟩;rw[<- hcc];have hcm:c<=1000000:=by omega
    have HCC:=hid hcc;clear hc2 TA RR g1 g2 hht hpm hpm2 hp2 hcc hdm hdp2;generalize l[k]=a at *;obtain⟨p,hpp⟩:∃p,p=a.tree.deep:=⟨_,rfl⟩;rw[<- hpp]at HC hq G1;clear hkt hkl hpp;rcases Nat.le_total c p with hcp|hcp
    all_goals
     have hmx:max (c:Int) (p:Int)=((max c p:Nat):Int):=by omega
     go_wp2_with fail
     go_at_call 153
     refine HC.out.mono ?_;rintro e w2 ⟨rfl,hb2⟩;have HB2:=hid (HBR.out.trans (hb2.mono hz1));clear hb2;go_wp2_with fail
     go_roundw
     case rel=>exact⟨k+1,by omega,by go_num,by rw[G1.out,<- HCC.out];go_num,HB2.out⟩
     case measure=>simp[intOf];omega
   ·have i1:¬(k:Int)<(n:Int):=by omega
    obtain rfl:k=n:=by omega
    have hfull:(qA1 l).take k=qA1 l:=List.take_of_length_le (by rw[qA5];have:=HN.out;omega);rw[hfull];have hbig:=HDP.out;obtain⟨c,hcc⟩:∃c,c=qBH (qA1 l):=⟨_,rfl⟩;rw[<- hcc]at hbig |-;have hcm:c<=1000000:=by omega
    have HCC:=hid hcc;clear hfull hcc hbig hpm hp2 hdm;go_wp2_with fail
    go_ret;exact⟨by rw[<- HCC.out];go_num,HBW.out⟩
end
section
theorem qHT:∀(f:Nat) (t:RV) (w:World),t.ht<=f->RTree w.heap.size w t->Calls Tryz.prog 151 #[t.val] w fun e w'=>e=.returned (.bool t.tree.okW)/\Below w.heap.size w w'
 |0,t,w,hf,_=>absurd hf (by rw[qAN];omega)
 | f+1,t,w,hf,h=>by
  have IH:=hid (fun x W h1 h2=>qHT f x W h1 h2);have HA:=hid h.rrow;have HF:=hid (show htL t.args<=f by rw[qAN]at hf;omega);have hm:=h.row.len;have DM:=hid (fun W=>qGG t.dep W h.wf);have hok:=hid (show t.tree.okW=(if t.kind=1 then (qA1 t.args).isEmpty && qAL t.dep else decide (2<=t.kind/\t.kind<=7) && (qBJ t.kind t.args.length && (okWL (qA1 t.args) && qAH t.dep))) by rw[qAD t,RT.okW,qA5]);have hz:=hid (show qAH t.dep=((bs t.dep.name).toList.isEmpty && (t.dep.op == 0 && (t.dep.evr.epoch == 0 && ((bs t.dep.evr.ver).toList.isEmpty && (bs t.dep.evr.rel).toList.isEmpty)))) by unfold qAH qDO;rw[qA3,qA3,qA3]);have hem:=hid (show (qA1 t.args).isEmpty=decide (t.args.length=0) by rw[<- qA5];cases qA1 t.args<;>simp);unfold RV.val;unfold Dp.val at DM;obtain⟨ok,hokk⟩:∃ok,ok=t.tree.okW:=⟨_,rfl⟩;rw[<- hokk]at hok |-;obtain⟨n,hnn⟩:∃n,n=t.args.length:=⟨_,rfl⟩;rw[<- hnn]at hm hok hem |-;have HN:=hid hnn;clear h hf hnn hokk;generalize t.addr=aA at *;generalize t.cap=ac at *;generalize t.args=l at *;generalize t.kind=q at *;obtain⟨dm,hdm⟩:∃dm,dm=qAL t.dep:=⟨_,rfl⟩;rw[<- hdm]at hok DM;obtain⟨iz,hiz⟩:∃iz,iz=qAH t.dep:=⟨_,rfl⟩;rw[<- hiz]at hok hz;clear hdm hiz;generalize bs t.dep.name=s0 at *;generalize bs t.dep.evr.ver=s1 at *;generalize bs t.dep.evr.rel=s2 at *;generalize t.dep.op=o0 at *;generalize t.dep.evr.epoch=e0' at *;obtain⟨W1,hW1⟩:∃W1,W1=w.alloc (.cells #[.int .u8 q,.string s0,.int .u8 o0,.int .i64 e0',.string s1,.string s2,.slice aA n ac] 39):=⟨_,rfl⟩;have K:=hid (show W1.cell? ⟨w.heap.size,0,none⟩=some (.int .u8 q)/\W1.cell? ⟨w.heap.size,1,none⟩=some (.string s0)/\W1.cell? ⟨w.heap.size,2,none⟩=some (.int .u8 o0)/\W1.cell? ⟨w.heap.size,3,none⟩=some (.int .i64 e0')/\W1.cell? ⟨w.heap.size,4,none⟩=some (.string s1)/\W1.cell? ⟨w.heap.size,5,none⟩=some (.string s2)/\W1.cell? ⟨w.heap.size,6,none⟩=some (.slice aA n ac) by
   rw[hW1];exact⟨(World.cell?_alloc_at _ _ _ _ rfl).trans rfl,(World.cell?_alloc_at _ _ _ _ rfl).trans rfl,(World.cell?_alloc_at _ _ _ _ rfl).trans rfl,(World.cell?_alloc_at _ _ _ _ rfl).trans rfl,(World.cell?_alloc_at _ _ _ _ rfl).trans rfl,(World.cell?_alloc_at _ _ _ _ rfl).trans rfl,(World.cell?_alloc_at _ _ _ _ rfl).trans rfl⟩)
  have HB1:=hid (show Below w.heap.size w W1 by rw[hW1];exact bR.alloc lR _);have Z1:=hid (show W1.heap.size=w.heap.size+1 by rw[hW1];simp);have HW1:=hid hW1;clear hW1;by_cases hk:q=1
  ·subst hk;have HOK:=hid (show ok=(decide (n=0) && dm) by rw[hok.out,if_pos rfl,hem.out]);clear hok hz hem IH HA HF;cases dm
   ·go_enter Tryz.func151,Tryz.ntmps151
    go_wp2_with fail
    go_at_call 170
    refine (DM.out _).mono ?_;rintro e w2 ⟨rfl,hb⟩;have HB2:=hid (((Below.refl w.heap.size w).alloc lR _).trans (hb.mono (by simp)));clear hb;go_wp2
    go_ret;exact⟨qA8 (by rw[HOK.out];simp),HB2.out⟩
   ·have g6:(w.alloc (.cells #[.int .u8 1,.string s0,.int .u8 o0,.int .i64 e0',.string s1,.string s2,.slice aA n ac] 39)).cell? ⟨w.heap.size,6,none⟩=some (.slice aA n ac):=(World.cell?_alloc_at _ _ _ _ rfl).trans rfl
    go_enter Tryz.func151,Tryz.ntmps151
    go_wp2_with fail
    go_at_call 170
    refine (DM.out _).mono ?_;rintro e w2 ⟨rfl,hb⟩;have HB2:=hid (((Below.refl w.heap.size w).alloc lR _).trans (hb.mono (by simp)));have f6:w2.cell? ⟨w.heap.size,6,none⟩=some (.slice aA n ac):=(hb.cell (p:=⟨w.heap.size,6,none⟩) (by simp)).trans g6;clear hb g6;by_cases hn:n=0
    ·subst hn;go_wp2
     go_ret;exact⟨qA8 (by rw[HOK.out];simp),HB2.out⟩
    ·have hn2:((n:Int) == 0)=false:=by simp only[beq_eq_false_iff_ne];omega
     go_wp2
     go_ret;exact⟨qA8 (by rw[HOK.out,decide_eq_false hn];simp),HB2.out⟩
  ·have HOK:=hid (show ok=(decide (2<=q/\q<=7) && (qBJ q n && (okWL (qA1 l) && iz))) by rw[hok.out,if_neg hk]);clear hok hem DM;have hk1:(q == 1)=false:=by simpa using hk
   have HM0:=hid hm;have HK1:=hid hk;clear hk hm
   go_enter Tryz.func151,Tryz.ntmps151
   go_upto_block 0 with fail
   rw[<- HW1.out];go_cut [2] from 22 (fun s W=>s=.bool false/\W1=W/\Hid ((2<=q/\q<=7)/\qBJ q n=true))
   case first =>
    by_cases hq:2<=q/\q<=7
    ·obtain rfl|rfl|rfl|rfl|rfl|rfl:q=2 \/ q=3 \/ q=6 \/ q=4 \/ q=5 \/ q=7:=by omega
     ·have HAR:=hid (show qBJ 2 n=decide (2<=n) by unfold qBJ;simp);by_cases hc0:2<=n
      ·have HAT:=hid (show (2<=(2:Int)/\(2:Int)<=7)/\qBJ 2 n=true from⟨by omega,by rw[HAR.out];exact decide_eq_true hc0⟩);have hn2:¬(n:Int)<2:=by omega
       clear hc0 hq HAR;go_wp2_with fail
       go_meet
       case rel=>exact⟨rfl,rfl,HAT⟩
      ·have HAT:=hid (show qBJ 2 n=false by rw[HAR.out];exact decide_eq_false hc0);have hn2:(n:Int)<2:=by omega
       clear hc0 hq HAR;go_wp2_with fail
       go_ret;exact⟨qA8 (by rw[HOK.out,HAT.out];simp),HB1.out⟩
     ·have HAR:=hid (show qBJ 3 n=decide (2<=n) by unfold qBJ;simp);by_cases hc0:2<=n
      ·have HAT:=hid (show (2<=(3:Int)/\(3:Int)<=7)/\qBJ 3 n=true from⟨by omega,by rw[HAR.out];exact decide_eq_true hc0⟩);have hn2:¬(n:Int)<2:=by omega
       clear hc0 hq HAR;go_wp2_with fail
       go_meet
       case rel=>exact⟨rfl,rfl,HAT⟩
      ·have HAT:=hid (show qBJ 3 n=false by rw[HAR.out];exact decide_eq_false hc0);have hn2:(n:Int)<2:=by omega
       clear hc0 hq HAR;go_wp2_with fail
       go_ret;exact⟨qA8 (by rw[HOK.out,HAT.out];simp),HB1.out⟩
     ·have HAR:=hid (show qBJ 6 n=decide (2<=n) by unfold qBJ;simp);by_cases hc0:2<=n
      ·have HAT:=hid (show (2<=(6:Int)/\(6:Int)<=7)/\qBJ 6 n=true from⟨by omega,by rw[HAR.out];exact decide_eq_true hc0⟩);have hn2:¬(n:Int)<2:=by omega
       clear hc0 hq HAR;go_wp2_with fail
       go_meet
       case rel=>exact⟨rfl,rfl,HAT⟩
      ·have HAT:=hid (show qBJ 6 n=false by rw[HAR.out];exact decide_eq_false hc0);have hn2:(n:Int)<2:=by omega
       clear hc0 hq HAR;go_wp2_with fail
       go_ret;exact⟨qA8 (by rw[HOK.out,HAT.out];simp),HB1.out⟩
     ·have HAR:=hid (show qBJ 4 n=decide (n=2 \/ n=3) by unfold qBJ;simp);by_cases hc0:n=2 \/ n=3
      ·have HAT:=hid (show (2<=(4:Int)/\(4:Int)<=7)/\qBJ 4 n=true from⟨by omega,by rw[HAR.out];exact decide_eq_true hc0⟩);rcases hc0 with hc0|hc0
       ·have hn2:((n:Int) != 2)=false:=by simp[hc0]
        have hn3:((n:Int) != 3)=true:=by simp[hc0]
        clear hc0 hq HAR;go_wp2_with fail
        go_meet
        case rel=>exact⟨rfl,rfl,HAT⟩
       ·have hn2:((n:Int) != 2)=true:=by simp[hc0]
        have hn3:((n:Int) != 3)=false:=by simp[hc0]
        clear hc0 hq HAR;go_wp2_with fail
        go_meet
        case rel=>exact⟨rfl,rfl,HAT⟩
      ·have HAT:=hid (show qBJ 4 n=false by rw[HAR.out];exact decide_eq_false hc0);have hn2:((n:Int) != 2)=true:=by simp only[bne_iff_ne];omega
       have hn3:((n:Int) != 3)=true:=by simp only[bne_iff_ne];omega
       clear hc0 hq HAR;go_wp2_with fail
       go_ret;exact⟨qA8 (by rw[HOK.out,HAT.out];simp),HB1.out⟩
     ·have HAR:=hid (show qBJ 5 n=decide (n=2 \/ n=3) by unfold qBJ;simp);by_cases hc0:n=2 \/ n=3
      ·have HAT:=hid (show (2<=(5:Int)/\(5:Int)<=7)/\qBJ 5 n=true from⟨by omega,by rw[HAR.out];exact decide_eq_true hc0⟩);rcases hc0 with hc0|hc0
       ·have hn2:((n:Int) != 2)=false:=by simp[hc0]
        have hn3:((n:Int) != 3)=true:=by simp[hc0]
        clear hc0 hq HAR;go_wp2_with fail
        go_meet
        case rel=>exact⟨rfl,rfl,HAT⟩
       ·have hn2:((n:Int) != 2)=true:=by simp[hc0]
        have hn3:((n:Int) != 3)=false:=by simp[hc0]
        clear hc0 hq HAR;go_wp2_with fail
        go_meet
        case rel=>exact⟨rfl,rfl,HAT⟩
      ·have HAT:=hid (show qBJ 5 n=false by rw[HAR.out];exact decide_eq_false hc0);have hn2:((n:Int) != 2)=true:=by simp only[bne_iff_ne];omega
       have hn3:((n:Int) != 3)=true:=by simp only[bne_iff_ne];omega
       clear hc0 hq HAR;go_wp2_with fail
       go_ret;exact⟨qA8 (by rw[HOK.out,HAT.out];simp),HB1.out⟩
     ·have HAR:=hid (show qBJ 7 n=decide (n=2) by unfold qBJ;simp);by_cases hc0:n=2
      ·have HAT:=hid (show (2<=(7:Int)/\(7:Int)<=7)/\qBJ 7 n=true from⟨by omega,by rw[HAR.out];exact decide_eq_true hc0⟩);have hn2:((n:Int) != 2)=false:=by simp[hc0]
       clear hc0 hq HAR;go_wp2_with fail
       go_meet
       case rel=>exact⟨rfl,rfl,HAT⟩
      ·have HAT:=hid (show qBJ 7 n=false by rw[HAR.out];exact decide_eq_false hc0);have hn2:((n:Int) != 2)=true:=by simp only[bne_iff_ne];omega
       clear hc0 hq HAR;go_wp2_with fail
       go_ret;exact⟨qA8 (by rw[HOK.out,HAT.out];simp),HB1.out⟩
    ·have HQ:=hid (show decide (2<=q/\q<=7)=false from decide_eq_false hq);have b2:(q == 2)=false:=by simp only[beq_eq_false_iff_ne];omega
     have b3:(q == 3)=false:=by simp only[beq_eq_false_iff_ne];omega
     have b4:(q == 4)=false:=by simp only[beq_eq_false_iff_ne];omega
     have b5:(q == 5)=false:=by simp only[beq_eq_false_iff_ne];omega
     have b6:(q == 6)=false:=by simp only[beq_eq_false_iff_ne];omega
     have b7:(q == 7)=false:=by simp only[beq_eq_false_iff_ne];omega
     clear hq;go_wp2_with fail
     go_ret;exact⟨qA8 (by rw[HOK.out,HQ.out];simp),HB1.out⟩
   case rest =>
    obtain⟨rfl,rfl,HQA⟩:=hcut;have hm:=HM0.out;go_wp2_with fail
    skip
    go_loopw[4] (fun iv wr => ∃k:Nat,k<=n/\iv=.int .i64 (k:Int)/\Hid (okWL ((qA1 l).take k)=true)/\Below (w.heap.size+1) W1 wr) (fun iv _=>n - (intOf iv).toNat)
    case atStart=>exact⟨0,by omega,rfl,hid (by simp[okWL]),Below.refl _ _⟩
    case round =>
     obtain⟨k,hk2,rfl,HOW,hB⟩:=hrel;rename World=>wr
     have HBW:=hid (HB1.out.trans (hB.mono (by omega)));have HBR:=hid hB;have hz1:w.heap.size+1<=wr.heap.size:=by have:=hB.size;have:=Z1.out;omega
     have hc:∀j:Nat,wr.cell? ⟨w.heap.size,j,none⟩=W1.cell? ⟨w.heap.size,j,none⟩:=fun j=>hB.cell (p:=⟨w.heap.size,j,none⟩) (by show w.heap.size<w.heap.size+1;omega);obtain⟨k0,k1,k2,k3,k4,k5,k6⟩:=K.out;by_cases hlt:k<n
     ·have hkl:k<l.length:=by have:=HN.out;omega
      have q6:wr.cell? ⟨w.heap.size,6,none⟩=some (.slice aA n ac):=(hc 6).trans k6;have RR:=HA.out.below HBW.out;obtain⟨b,o,rfl,hb,c0,c1,c2,c3,c4,c5,c6⟩:=RR.at_ hkl;have TA:=(RR.2 _ (List.getElem_mem hkl)).more HBW.out.size;have hkt:k<(qA1 l).length:=by rw[qA5];exact hkl
      have g1:=qRG hkt;rw[qAI l k hkl]at g1;have hht:=Nat.le_trans (qBN (List.getElem_mem hkl)) HF.out;have hc2:=IH.out l[k] wr hht TA;unfold RV.val at hc2;have HC:=hid hc2;have G1:=hid g1;have i0:(0:Int)<=(k:Int):=by omega
      have i1:(k:Int)<(n:Int):=by omega
      clear hc2 TA RR g1 hht hB hc k0 k1 k2 k3 k4 k5 k6;generalize l[k]=a at *;obtain⟨r,hr⟩:∃r,r=a.tree.okW:=⟨_,rfl⟩;rw[<- hr]at HC G1;clear hkt hkl hr;cases r
      ·go_wp2_with fail
       go_at_call 151
       refine HC.out.mono ?_;rintro e w2 ⟨rfl,hb2⟩;have HB2:=hid (HBW.out.trans (hb2.mono HBW.out.size));clear hb2 HC;go_wp2_with fail
       go_ret;exact⟨qA8 (by rw[HOK.out,qRF (l:=qA1 l) (k:=k+1) (by rw[G1.out];simp)];simp),HB2.out⟩
      ·go_wp2_with fail
       go_at_call 151
       refine HC.out.mono ?_;rintro e w2 ⟨rfl,hb2⟩;have HB2:=hid (HBR.out.trans (hb2.mono hz1));clear hb2 HC;go_wp2_with fail
       go_roundw
       case rel=>exact⟨k+1,by omega,by go_num,hid (by rw[G1.out,HOW.out];rfl),HB2.out⟩
       case measure=>simp[intOf];omega
     ·have i1:¬(k:Int)<(n:Int):=by omega
      have hfull:okWL (qA1 l)=true:=by have:=HOW.out;rwa [List.take_of_length_le (by rw[qA5];have:=HN.out;omega)]at this
      have HFL:=hid hfull;have q6:wr.cell? ⟨w.heap.size,6,none⟩=some (.slice aA n ac):=(hc 6).trans k6;have q1:wr.cell? ⟨w.heap.size,1,none⟩=some (.string s0):=(hc 1).trans k1;have q2:wr.cell? ⟨w.heap.size,2,none⟩=some (.int .u8 o0):=(hc 2).trans k2;have q3:wr.cell? ⟨w.heap.size,3,none⟩=some (.int .i64 e0'):=(hc 3).trans k3;have q4:wr.cell? ⟨w.heap.size,4,none⟩=some (.string s1):=(hc 4).trans k4;have q5:wr.cell? ⟨w.heap.size,5,none⟩=some (.string s2):=(hc 5).trans k5;clear hfull hB hc k0 k1 k2 k3 k4 k5 k6 HOW;cases iz
      ·go_wp2_with fail
       all_goals
        first
         | (go_ret;refine⟨qA8 ?_,HBW.out⟩;rw[HOK.out];simp;done)
         | (exfalso;have h:=hz.out;rw[eq_comm,Bool.eq_false_iff]at h;apply h;simp only[Bool.and_eq_true,List.isEmpty_iff,beq_iff_eq];exact⟨by assumption,by assumption,by assumption,by assumption,by assumption⟩)
      ·have h:=hz.out.symm;simp only[Bool.and_eq_true,List.isEmpty_iff,beq_iff_eq]at h;obtain⟨z1,z2,z3,z4,z5⟩:=h;go_wp2_with fail
       go_ret;exact⟨qA8 (by rw[HOK.out,HFL.out,HQA.out.2,decide_eq_true HQA.out.1];simp),HBW.out⟩
end
section
theorem qM5 (t:RV)(w:World)(hp:t.tree.parts<=1000000)(ht:RTree w.heap.size w t) : Calls Tryz.prog 108 #[t.val] w fun e w'=>e=.returned (.bool t.tree.whole)/\Below w.heap.size w w' := by
 have H1:=hid (fun (W:World) (hW:Below w.heap.size w W)=>qHT t.ht t W lR ((ht.keeps hW).more hW.size));have H2:=hid (fun (W:World) (hW:Below w.heap.size w W)=>qGI t.ht t W lR hp ((ht.keeps hW).more hW.size));have H3:=hid (fun (W:World) (hW:Below w.heap.size w W)=>qHS t.ht t W lR hp ((ht.keeps hW).more hW.size));have hw:=hid (qXW t.tree);have hdp:=qB6 t.tree;unfold RV.val at H1 H2 H3 |-;clear ht;obtain⟨W1,hW1⟩:∃W1,W1=w.alloc (.cells #[.int .u8 t.kind,.string (bs t.dep.name),.int .u8 t.dep.op,.int .i64 t.dep.evr.epoch,.string (bs t.dep.evr.ver),.string (bs t.dep.evr.rel),.slice t.addr t.args.length t.cap] 39):=⟨_,rfl⟩;have HX:=hid (show Box7 w.heap.size (.int .u8 t.kind) (.string (bs t.dep.name)) (.int .u8 t.dep.op) (.int .i64 t.dep.evr.epoch) (.string (bs t.dep.evr.ver)) (.string (bs t.dep.evr.rel)) (.slice t.addr t.args.length t.cap) W1 by rw[hW1];exact Box7.new _ _ _ _ _ _ _ _ _);have HB1:=hid (show Below w.heap.size w W1 by rw[hW1];exact bR.alloc lR _);have HW1:=hid hW1;clear hW1;obtain⟨ok,hok⟩:∃ok,ok=t.tree.okW:=⟨_,rfl⟩;obtain⟨p,hpp⟩:∃p,p=t.tree.parts:=⟨_,rfl⟩;obtain⟨d,hdd⟩:∃d,d=t.tree.deep:=⟨_,rfl⟩;rw[<- hok]at hw H1;rw[<- hpp]at hw H2 hp hdp;rw[<- hdd]at hw H3 hdp;clear hok hpp hdd;generalize t.args.length=m at *
 go_enter Tryz.func108,Tryz.ntmps108
 go_wp2_with fail
 go_at_call 151
 rw[<- HW1.out];refine (H1.out _ HB1.out).mono ?_;rintro en w2 ⟨rfl,hb⟩;have HB2:=hid (HB1.out.trans (hb.mono HB1.out.size));have HX2:=hid (HX.out.past (hb.mono HX.out.2.2));obtain⟨⟨h0,h1,h2,h3,h4,h5,h6⟩,_,_⟩:=HX2.out;clear hb
 cases ok with
 | false =>
  go_wp2_with fail
  go_ret;exact⟨by rw[hw.out];rfl,HB2.out⟩
 | true =>
  go_wp2_with fail
  go_at_call 152
  refine (H2.out _ HB2.out).mono ?_;rintro en w3 ⟨rfl,hb⟩;have HB3:=hid (HB2.out.trans (hb.mono HB2.out.size));obtain⟨⟨h0,h1,h2,h3,h4,h5,h6⟩,_,_⟩:=HX2.out.past (hb.mono HX2.out.2.2);clear hb;by_cases c1:(p:Int)<=24
  ·go_wp2_with fail
   go_at_call 153
   refine (H3.out _ HB3.out).mono ?_;rintro en w4 ⟨rfl,hb⟩;have HB4:=hid (HB3.out.trans (hb.mono HB3.out.size));clear hb;by_cases c2:(d:Int)<=8
   ·have hr:(true && decide (p<=24/\d<=8))=true:=by rw[decide_eq_true (by omega)];rfl
    rw[hr]at hw;clear hr;go_wp2_with fail
    go_ret;exact⟨by rw[hw.out];rfl,HB4.out⟩
   ·have hr:(true && decide (p<=24/\d<=8))=false:=by rw[decide_eq_false (by omega)];rfl
    have c2':decide ((d:Int)<=8)=false:=decide_eq_false c2;rw[hr]at hw;clear hr;go_wp2_with fail
    go_ret;exact⟨by rw[hw.out];rfl,HB4.out⟩
  ·have hr:(true && decide (p<=24/\d<=8))=false:=by rw[decide_eq_false (by omega)];rfl
   have c1':decide ((p:Int)<=24)=false:=decide_eq_false c1;rw[hr]at hw;clear hr;go_wp2_with fail
   go_ret;exact⟨by rw[hw.out];rfl,HB3.out⟩
