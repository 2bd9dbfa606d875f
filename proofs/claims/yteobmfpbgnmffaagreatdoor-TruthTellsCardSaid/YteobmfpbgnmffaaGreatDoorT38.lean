/- R9Meas, R9Plain, RtPlain, R9Fits -/
import Derived.Test.YteobmfpbgnmffaaGreatDoorT14
import Derived.Deep.CutBlock
set_option linter.unusedVariables false
set_option maxHeartbeats 16000000
set_option maxRecDepth 100000
open Go.Lib (hid)
set_option linter.unusedSimpArgs false
namespace Go.Proofs.YteobmfpbgnmffaaGreatDoor
open Go.RowKit Go.Shelf
section
theorem qGE:∀(f:Nat) (t:RV) (w:World),t.ht<=f->t.tree.parts<=1000000->RTree w.heap.size w t->Calls Tryz.prog 197 #[t.val] w fun e w'=>e=.returned (.int .i64 (t.tree.parts : Int))/\Below w.heap.size w w'
 |0,t,w,hf,_,_=>absurd hf (by rw[qAN];omega)
 | f+1,t,w,hf,hp,h=>by
  have IH:=hid (fun x W h1 h2 h3=>qGE f x W h1 h2 h3);have HA:=hid h.rrow;have HF:=hid (show htL t.args<=f by rw[qAN]at hf;omega);have hm:=h.row.len;have hpa:=hid (show t.tree.parts=1+qA9 (qA1 t.args) by rw[qAD t,RT.parts]);have HP:=hid (show 1+qA9 (qA1 t.args)<=1000000 by rw[qAD t,RT.parts]at hp;exact hp);rw[hpa.out];unfold RV.val;obtain⟨n,hnn⟩:∃n,n=t.args.length:=⟨_,rfl⟩;rw[<- hnn]at hm |-;have HN:=hid hnn;clear h hf hp hnn hpa;generalize t.addr=aA at *;generalize t.cap=ac at *;generalize t.args=l at *;generalize bs t.dep.name=s0 at *;generalize bs t.dep.evr.ver=s1 at *;generalize bs t.dep.evr.rel=s2 at *;obtain⟨W1,hW1⟩:∃W1,W1=w.alloc (.cells #[.int .u8 t.kind,.string s0,.int .u8 t.dep.op,.int .i64 t.dep.evr.epoch,.string s1,.string s2,.slice aA n ac] 39):=⟨_,rfl⟩;have HC6:=hid (show W1.cell? ⟨w.heap.size,6,none⟩=some (.slice aA n ac) by rw[hW1];exact (World.cell?_alloc_at _ _ _ _ rfl).trans rfl);have HB1:=hid (show Below w.heap.size w W1 by rw[hW1];exact bR.alloc lR _);have Z1:=hid (show W1.heap.size=w.heap.size+1 by rw[hW1];simp);have HW1:=hid hW1;clear hW1
  go_enter Tryz.func197,Tryz.ntmps197
  go_wp2_with fail
  go_loopw[3,4] (fun m i wr => ∃k:Nat,k<=n/\i=.int .i64 (k:Int)/\m=.int .i64 ((1+qA9 ((qA1 l).take k):Nat):Int)/\Below (w.heap.size+1) W1 wr) (fun _ i _=>n - (intOf i).toNat)
  case atStart=>exact⟨0,by omega,rfl,by simp[qA9],by rw[HW1.out];exact Below.refl _ _⟩
  case round =>
   obtain⟨k,hk,rfl,rfl,hB⟩:=hrel;rename World=>wr
   have q6:wr.cell? ⟨w.heap.size,6,none⟩=some (.slice aA n ac):=(hB.cell (p:=⟨w.heap.size,6,none⟩) (by show w.heap.size<w.heap.size+1;omega)).trans HC6.out;have HBW:=hid (HB1.out.trans (hB.mono (by omega)));have HBR:=hid hB;have hz1:w.heap.size+1<=wr.heap.size:=by have:=hB.size;have:=Z1.out;omega
   have hpm:=qAR (qA1 l) k;have hp2:=HP.out;clear hB;by_cases hlt:k<n
   ·have hkl:k<l.length:=by have:=HN.out;omega
    have RR:=HA.out.below HBW.out;obtain⟨b,o,rfl,hb,c0,c1,c2,c3,c4,c5,c6⟩:=RR.at_ hkl;have TA:=(RR.2 _ (List.getElem_mem hkl)).more HBW.out.size;have hkt:k<(qA1 l).length:=by rw[qA5];exact hkl
    have g1:=qCB hkt;have hpm2:=qAR (qA1 l) (k+1);rw[qAI l k hkl]at g1;have hht:=Nat.le_trans (qBN (List.getElem_mem hkl)) HF.out;have hc2:=IH.out l[k] wr hht (by omega) TA;unfold RV.val at hc2;have HC:=hid hc2;have G1:=hid g1;have hq:l[k].tree.parts<=1000000:=by omega
    have i0:(0:Int)<=(k:Int):=by omega
    have i1:(k:Int)<(n:Int):=by omega
    obtain⟨c,hcc⟩:∃c,c=1+qA9 ((qA1 l).take k):=⟨_,rfl⟩;rw[<- hcc];have hcm:c<=1000000:=by omega
    have HCC:=hid hcc;clear hc2 TA RR g1 hht hpm hpm2 hp2 hcc;generalize l[k]=a at *;obtain⟨p,hpp⟩:∃p,p=a.tree.parts:=⟨_,rfl⟩;rw[<- hpp]at HC hq G1;clear hkt hkl hpp;go_wp2_with fail
    go_at_call 197
    refine HC.out.mono ?_;rintro e w2 ⟨rfl,hb2⟩;have HB2:=hid (HBR.out.trans (hb2.mono hz1));clear hb2 HC;go_wp2_with fail
    go_roundw
    case rel=>exact⟨k+1,by omega,by go_num,by rw[G1.out,<- Nat.add_assoc,<- HCC.out];go_num,HB2.out⟩
    case measure=>simp[intOf];omega
   ·have i1:¬(k:Int)<(n:Int):=by omega
    obtain rfl:k=n:=by omega
    have hfull:(qA1 l).take k=qA1 l:=List.take_of_length_le (by rw[qA5];have:=HN.out;omega);rw[hfull];clear hfull;go_wp2_with fail
    go_ret;exact⟨rfl,HBW.out⟩
theorem qGF:∀(f:Nat) (t:RV) (w:World),t.ht<=f->t.tree.parts<=1000000->RTree w.heap.size w t->Calls Tryz.prog 198 #[t.val] w fun e w'=>e=.returned (.int .i64 (t.tree.deep : Int))/\Below w.heap.size w w'
 |0,t,w,hf,_,_=>absurd hf (by rw[qAN];omega)
 | f+1,t,w,hf,hp,h=>by
  have IH:=hid (fun x W h1 h2 h3=>qGF f x W h1 h2 h3);have HA:=hid h.rrow;have HF:=hid (show htL t.args<=f by rw[qAN]at hf;omega);have hm:=h.row.len;have HP:=hid (show 1+qA9 (qA1 t.args)<=1000000 by rw[qAD t,RT.parts]at hp;exact hp);by_cases hk:t.kind=1
  ·have hd:t.tree.deep=0:=by rw[qAD t,RT.deep,if_pos hk]
   rw[hd];unfold RV.val;rw[hk];clear h hd hk hf hp IH HA HF HP;generalize t.args.length=m at *
   go_enter Tryz.func198,Tryz.ntmps198
   go_wp2_with fail
   go_ret;exact⟨rfl,bR.alloc lR _⟩
  have hk1:(t.kind == 1)=false:=by simp only[beq_eq_false_iff_ne];exact hk
  have hd:t.tree.deep=qBH (qA1 t.args)+1:=by rw[qAD t,RT.deep,if_neg hk]
  have hdp:=qB6.deepL_parts (qA1 t.args);have HDP:=hid hdp;rw[hd];unfold RV.val;obtain⟨n,hnn⟩:∃n,n=t.args.length:=⟨_,rfl⟩;rw[<- hnn]at hm |-;have HN:=hid hnn;clear h hf hp hnn hk hd hdp;generalize t.addr=aA at *;generalize t.cap=ac at *;generalize t.args=l at *;generalize t.kind=kd at *;generalize bs t.dep.name=s0 at *;generalize bs t.dep.evr.ver=s1 at *;generalize bs t.dep.evr.rel=s2 at *;obtain⟨W1,hW1⟩:∃W1,W1=w.alloc (.cells #[.int .u8 kd,.string s0,.int .u8 t.dep.op,.int .i64 t.dep.evr.epoch,.string s1,.string s2,.slice aA n ac] 39):=⟨_,rfl⟩;have HC6:=hid (show W1.cell? ⟨w.heap.size,6,none⟩=some (.slice aA n ac) by rw[hW1];exact (World.cell?_alloc_at _ _ _ _ rfl).trans rfl);have HB1:=hid (show Below w.heap.size w W1 by rw[hW1];exact bR.alloc lR _);have Z1:=hid (show W1.heap.size=w.heap.size+1 by rw[hW1];simp);have HW1:=hid hW1;clear hW1
  go_enter Tryz.func198,Tryz.ntmps198
  go_wp2_with fail
  go_loopw[3,4] (fun m i wr => ∃k:Nat,k<=n/\i=.int .i64 (k:Int)/\m=.int .i64 ((qBH ((qA1 l).take k):Nat):Int)/\Below (w.heap.size+1) W1 wr) (fun _ i _=>n - (intOf i).toNat)
  case atStart=>exact⟨0,by omega,rfl,by simp[qBH],by rw[HW1.out];exact Below.refl _ _⟩
  case round =>
   obtain⟨k,hk,rfl,rfl,hB⟩:=hrel;rename World=>wr
   have q6:wr.cell? ⟨w.heap.size,6,none⟩=some (.slice aA n ac):=(hB.cell (p:=⟨w.heap.size,6,none⟩) (by show w.heap.size<w.heap.size+1;omega)).trans HC6.out;have HBW:=hid (HB1.out.trans (hB.mono (by omega)));have HBR:=hid hB;have hz1:w.heap.size+1<=wr.heap.size:=by have:=hB.size;have:=Z1.out;omega
   have hpm:=qAR (qA1 l) k;have hp2:=HP.out;have hdm:=qB6.deepL_parts ((qA1 l).take k);clear hB;by_cases hlt:k<n
   ·have hkl:k<l.length:=by have:=HN.out;omega
    have RR:=HA.out.below HBW.out;obtain⟨b,o,rfl,hb,c0,c1,c2,c3,c4,c5,c6⟩:=RR.at_ hkl;have TA:=(RR.2 _ (List.getElem_mem hkl)).more HBW.out.size;have hkt:k<(qA1 l).length:=by rw[qA5];exact hkl
    have g1:=qDG hkt;have g2:=qCB hkt;have hpm2:=qAR (qA1 l) (k+1);have hdp2:=qB6 l[k].tree;rw[qAI l k hkl]at g1 g2;have hht:=Nat.le_trans (qBN (List.getElem_mem hkl)) HF.out;have hc2:=IH.out l[k] wr hht (by omega) TA;unfold RV.val at hc2;have HC:=hid hc2;have G1:=hid g1;have hq:l[k].tree.deep<=1000000:=by omega
    have i0:(0:Int)<=(k:Int):=by omega
    have i1:(k:Int)<(n:Int):=by omega
    obtain⟨c,hcc⟩:∃c,c=qBH ((qA1 l).take k):=⟨_,rfl⟩;rw[<- hcc];have hcm:c<=1000000:=by omega
    have HCC:=hid hcc;clear hc2 TA RR g1 g2 hht hpm hpm2 hp2 hcc hdm hdp2;generalize l[k]=a at *;obtain⟨p,hpp⟩:∃p,p=a.tree.deep:=⟨_,rfl⟩;rw[<- hpp]at HC hq G1;clear hkt hkl hpp;rcases Nat.lt_or_ge c p with hcp|hcp
    ·have hmx:(c:Int)<(p:Int):=by omega
     go_wp2_with fail
     go_at_call 198
     refine HC.out.mono ?_;rintro e w2 ⟨rfl,hb2⟩;have HB2:=hid (HBR.out.trans (hb2.mono hz1));clear hb2;go_wp2_with fail
     go_roundw
     case rel=>exact⟨k+1,by omega,by go_num,by rw[G1.out,<- HCC.out];go_num,HB2.out⟩
     case measure=>simp[intOf];omega
    ·have hmx:¬(c:Int)<(p:Int):=by omega
     go_wp2_with fail
     go_at_call 198
     refine HC.out.mono ?_;rintro e w2 ⟨rfl,hb2⟩;have HB2:=hid (HBR.out.trans (hb2.mono hz1));clear hb2;go_wp2_with fail
     go_roundw
     case rel=>exact⟨k+1,by omega,by go_num,by rw[G1.out,<- HCC.out];go_num,HB2.out⟩
     case measure=>simp[intOf];omega
   ·have i1:¬(k:Int)<(n:Int):=by omega
    obtain rfl:k=n:=by omega
    have hfull:(qA1 l).take k=qA1 l:=List.take_of_length_le (by rw[qA5];have:=HN.out;omega);rw[hfull];have hbig:=HDP.out;obtain⟨c,hcc⟩:∃c,c=qBH (qA1 l):=⟨_,rfl⟩;rw[<- hcc]at hbig |-;have hcm:c<=1000000:=by omega
    have HCC:=hid hcc;clear hfull hcc hbig hpm hp2 hdm;go_wp2_with fail
    go_ret;exact⟨by rw[<- HCC.out];go_num,HBW.out⟩
end
section
def fitA (wh k:Int)(n:Nat)(al:Bool) : Bool :=
 if k=2 \/ k=3 \/ k=6 then decide (2<=n) else if k=7 then decide (n=2) else if k=4 then decide (n=2 \/ n=3) && (!al && decide (wh=1)) else if k=5 then decide (n=2 \/ n=3) && (!al && decide (wh<=2)) else false
mutual
def fitR (wh:Int)(al:Bool) : RT->Bool | .mk k d l=>if k=1 then l.isEmpty && qAL d else (fitA wh k l.length al && qAH d) && qD2 wh (alone al k) l
def qD2 (wh:Int)(al:Bool) : List RT->Bool|[]=>true|t::l=>fitR wh al t && qD2 wh al l
end
theorem qYF {wh k:Int}{n:Nat}{al:Bool}(d:Dp)(h1:1<=wh)(h3:wh<=3)(hk:k≠1)(hn:n<=24) : okP wh k n d al=(fitA wh k n al && qAH d) := by
 have hz:(k == 1)=false:=by simpa using hk
 unfold okP fitA;rw[hz,show (k != 1)=true by simpa using hk];by_cases a:k=2 \/ k=3 \/ k=6
 ·rw[show qB3 k=⟨2,24,true,3⟩ by unfold qB3;rw[if_neg hk,if_pos a],if_pos a];have e1:(n:Int)<=24:=by omega
  by_cases e2:2<=n
  ·have e3:(2:Int)<=(n:Int):=by omega
   simp[h3,e1,e2,e3]
  ·have e3:¬(2:Int)<=(n:Int):=by omega
   simp[e2,e3]
 by_cases b:k=7
 ·subst b;rw[if_neg a,if_pos rfl,show qB3 7=⟨2,2,true,3⟩ from rfl];by_cases e2:n=2
  ·subst e2;simp[h3]
  ·by_cases e3:(2:Int)<=(n:Int)
   ·have e4:¬(n:Int)<=2:=by omega
    simp[e2,e4]
   ·simp[e2,e3]
 by_cases c:k=4
 ·subst c;rw[if_neg a,if_neg b,if_pos rfl,show qB3 4=⟨2,3,false,1⟩ from rfl];by_cases e2:n=2 \/ n=3
  ·have e3:(2:Int)<=(n:Int):=by omega
   have e4:(n:Int)<=3:=by omega
   by_cases e5:wh=1
   ·subst e5;cases al<;>simp[e2,e3,e4]
   ·have e6:¬wh<=1:=by omega
    simp[e5,e6]
  ·by_cases e3:(2:Int)<=(n:Int)
   ·have e4:¬(n:Int)<=3:=by omega
    simp[e2,e4]
   ·simp[e2,e3]
 by_cases d:k=5
 ·subst d;rw[if_neg a,if_neg b,if_neg c,if_pos rfl,show qB3 5=⟨2,3,false,2⟩ from rfl];by_cases e2:n=2 \/ n=3
  ·have e3:(2:Int)<=(n:Int):=by omega
   have e4:(n:Int)<=3:=by omega
   by_cases e5:wh<=2
   ·cases al<;>simp[e2,e3,e4,e5]
   ·simp[e5]
  ·by_cases e3:(2:Int)<=(n:Int)
   ·have e4:¬(n:Int)<=3:=by omega
    simp[e2,e4]
   ·simp[e2,e3]
 ·rw[if_neg a,if_neg b,if_neg c,if_neg d,show qB3 k=⟨0,0,false,0⟩ by unfold qB3;rw[if_neg hk,if_neg a,if_neg c,if_neg d,if_neg b]];have e:¬wh<=0:=by omega
  simp[e]
mutual
theorem qQM (wh:Int)(h1:1<=wh)(h3:wh<=3):∀(t:RT) (al:Bool),t.parts<=24->fitR wh al t=okF wh al t
 | .mk k d l,al,hp=>by
  have hp:1+qA9 l<=24:=hp;have hl:=qBS l;rw[fitR,okF,qMP wh h1 h3 l (alone al k) (by omega)];by_cases hk:k=1
  ·subst hk;rw[if_pos rfl]
   cases l with
   | nil=>simp[okP,okFL,show qB3 1=⟨0,0,true,3⟩ from rfl,h3]
   | cons a l =>
    have e:¬((l.length:Int)+1<=0):=by omega
    simp[okP,show qB3 1=⟨0,0,true,3⟩ from rfl,e]
  ·rw[if_neg hk,qYF d h1 h3 hk (by omega)]
theorem qMP (wh:Int)(h1:1<=wh)(h3:wh<=3):∀(l:List RT) (al:Bool),qA9 l<=24->qD2 wh al l=okFL wh al l
 | [],al,_=>rfl
 | t::l,al,hp=>by
  have hp:t.parts+qA9 l<=24:=hp;rw[qD2,okFL,qQM wh h1 h3 t al (by omega),qMP wh h1 h3 l al (by omega)]
end
theorem qUH (wh:Int)(t:RT) : mayT wh t=if wh<1 \/ 3<wh then 1 else if 24<t.parts then 40 else if 8<t.deep then 21 else if fitR wh false t=true then 0 else 4 := by
 unfold mayT;split
 ·rfl
 ·split
  ·rfl
  ·split
   ·rfl
   ·rw[qQM wh (by omega) (by omega) t false (by omega)]
theorem qO4 {wh:Int}{al:Bool}{l:List RT}{k:Nat}(hk:k<l.length) : qD2 wh al (l.take (k+1))=(qD2 wh al (l.take k) && fitR wh al l[k]) := by
 induction l generalizing k with
 | nil=>simp at hk
 | cons a l ih=>cases k with
  | zero=>simp[qD2]
  | succ k=>simp only[List.take_succ_cons,qD2,List.getElem_cons_succ];rw[ih (by simpa using hk),Bool.and_assoc]
theorem qMQ {wh:Int}{al:Bool} : ∀ {l:List RT} {k:Nat},qD2 wh al (l.take k)=false->qD2 wh al l=false
 | [],k,h=>by simp[qD2]at h
 | a::l,0,h=>by simp[qD2]at h
 | a::l,k+1,h=>by
  simp only[List.take_succ_cons,qD2,Bool.and_eq_false_iff]at h |-;rcases h with h|h
  ·exact .inl h
  ·exact .inr (qMQ h)
end
section
open Go.RowKit
def qBJ (k:Int)(n:Nat) : Bool := if k=4 \/ k=5 then decide (n=2 \/ n=3) else if k=7 then decide (n=2) else decide (2<=n)
mutual
def RT.okW : RT->Bool | .mk k d l=>if k=1 then l.isEmpty && qAL d else decide (2<=k/\k<=7) && (qBJ k l.length && (okWL l && qAH d))
def okWL : List RT->Bool|[]=>true|t::l=>t.okW && okWL l
end
theorem qNR {k:Int}{n:Nat}(hn:n<=24) : qBJ k n=decide (2<=n/\n<=qF8 k) := by
 unfold qBJ qF8;split
 ·apply decide_eq_decide.2;omega
 ·split
  iterate 2 ·apply decide_eq_decide.2;omega
mutual
theorem qWG:∀t : RT,t.parts<=24->t.okW=t.okB
 | .mk k d l,h=>by
  have hp:1+qA9 l<=24:=h;have hl:=qBS l;unfold RT.okW RT.okB;rw[qRE l (by omega),qNR (by omega)];cases qAH d<;>cases okL l<;>simp
theorem qRE:∀l : List RT,qA9 l<=24->okWL l=okL l
 | [],_=>rfl
 | t::l,h=>by
  have hp:t.parts+qA9 l<=24:=h;unfold okWL okL;rw[qWG t (by omega),qRE l (by omega)]
end
theorem qXW (t:RT) : t.whole=(t.okW && decide (t.parts<=24/\t.deep<=8)) := by
 unfold RT.whole;by_cases h:t.parts<=24
 ·rw[qWG t h]
 ·rw[decide_eq_false (by omega),Bool.and_false,Bool.and_false]
theorem qRG {l:List RT}{k:Nat}(hk:k<l.length) : okWL (l.take (k+1))=(okWL (l.take k) && l[k].okW) := by
 induction l generalizing k with
 | nil=>simp at hk
 | cons a l ih=>cases k with
  | zero=>simp[okWL]
  | succ k=>simp only[List.take_succ_cons,okWL,List.getElem_cons_succ];rw[ih (by simpa using hk),Bool.and_assoc]
theorem qRF:∀ {l:List RT} {k:Nat},okWL (l.take k)=false->okWL l=false
 | [],k,h=>by simp[okWL]at h
 | a::l,0,h=>by simp[okWL]at h
 | a::l,k+1,h=>by
  simp only[List.take_succ_cons,okWL,Bool.and_eq_false_iff]at h |-;rcases h with h|h
  ·exact .inl h
  ·exact .inr (qRF h)
end
section
theorem qM3 (wh:Int)(f:Nat)(t:RV)(al:Bool)(w:World)(ih:∀(t:RV) (al:Bool) (w:World),t.ht<=f->RTree w.heap.size w t->Calls Tryz.prog 199 #[t.val,.int .u8 wh,.bool al] w fun e w'=>e=.returned (.bool (fitR wh al t.tree))/\Below w.heap.size w w')(hf:t.ht<=f+1)(h:RTree w.heap.size w t) : Calls Tryz.prog 199 #[t.val,.int .u8 wh,.bool al] w fun e w'=>e=.returned (.bool (fitR wh al t.tree))/\Below w.heap.size w w' := by
  have IH:=hid ih;clear ih;have HA:=hid h.rrow;have HF:=hid (show htL t.args<=f by rw[qAN]at hf;omega);have hm:=h.row.len;have DM:=hid (fun W=>qGG t.dep W h.wf);have hok:=hid (show fitR wh al t.tree=(if t.kind=1 then (qA1 t.args).isEmpty && qAL t.dep else (fitA wh t.kind t.args.length al && qAH t.dep) && qD2 wh (alone al t.kind) (qA1 t.args)) by rw[qAD t,fitR,qA5]);have hz:=hid (show qAH t.dep=((bs t.dep.name).toList.isEmpty && (t.dep.op == 0 && (t.dep.evr.epoch == 0 && ((bs t.dep.evr.ver).toList.isEmpty && (bs t.dep.evr.rel).toList.isEmpty)))) by unfold qAH qDO;rw[qA3,qA3,qA3]);have hem:=hid (show (qA1 t.args).isEmpty=decide (t.args.length=0) by rw[<- qA5];cases qA1 t.args<;>simp);unfold RV.val;unfold Dp.val at DM;obtain⟨ok,hokk⟩:∃ok,ok=fitR wh al t.tree:=⟨_,rfl⟩;rw[<- hokk]at hok |-;obtain⟨n,hnn⟩:∃n,n=t.args.length:=⟨_,rfl⟩;rw[<- hnn]at hm hok hem |-;have HN:=hid hnn;clear h hf hnn hokk;generalize t.addr=aA at *;generalize t.cap=ac at *;generalize t.args=l at *;generalize t.kind=q at *;obtain⟨dm,hdm⟩:∃dm,dm=qAL t.dep:=⟨_,rfl⟩;rw[<- hdm]at hok DM;obtain⟨iz,hiz⟩:∃iz,iz=qAH t.dep:=⟨_,rfl⟩;rw[<- hiz]at hok hz;clear hdm hiz;generalize bs t.dep.name=s0 at *;generalize bs t.dep.evr.ver=s1 at *;generalize bs t.dep.evr.rel=s2 at *;generalize t.dep.op=o0 at *;generalize t.dep.evr.epoch=e0' at *;obtain⟨W1,hW1⟩:∃W1,W1=w.alloc (.cells #[.int .u8 q,.string s0,.int .u8 o0,.int .i64 e0',.string s1,.string s2,.slice aA n ac] 39):=⟨_,rfl⟩;have K:=hid (show W1.cell? ⟨w.heap.size,0,none⟩=some (.int .u8 q)/\W1.cell? ⟨w.heap.size,1,none⟩=some (.string s0)/\W1.cell? ⟨w.heap.size,2,none⟩=some (.int .u8 o0)/\W1.cell? ⟨w.heap.size,3,none⟩=some (.int .i64 e0')/\W1.cell? ⟨w.heap.size,4,none⟩=some (.string s1)/\W1.cell? ⟨w.heap.size,5,none⟩=some (.string s2)/\W1.cell? ⟨w.heap.size,6,none⟩=some (.slice aA n ac) by
   rw[hW1];exact⟨(World.cell?_alloc_at _ _ _ _ rfl).trans rfl,(World.cell?_alloc_at _ _ _ _ rfl).trans rfl,(World.cell?_alloc_at _ _ _ _ rfl).trans rfl,(World.cell?_alloc_at _ _ _ _ rfl).trans rfl,(World.cell?_alloc_at _ _ _ _ rfl).trans rfl,(World.cell?_alloc_at _ _ _ _ rfl).trans rfl,(World.cell?_alloc_at _ _ _ _ rfl).trans rfl⟩)
  have HB1:=hid (show Below w.heap.size w W1 by rw[hW1];exact bR.alloc lR _);have Z1:=hid (show W1.heap.size=w.heap.size+1 by rw[hW1];simp);have HW1:=hid hW1;clear hW1;by_cases hk:q=1
  ·subst hk;have HOK:=hid (show ok=(decide (n=0) && dm) by rw[hok.out,if_pos rfl,hem.out]);clear hok hz hem IH HA HF;by_cases hn:n=0
   ·subst hn
    go_enter Tryz.func199,Tryz.ntmps199
    go_wp2_with fail
    go_at_call 170
    refine (DM.out _).mono ?_;rintro e w2 ⟨rfl,hb⟩;have HB2:=hid (((Below.refl w.heap.size w).alloc lR _).trans (hb.mono (by simp)));clear hb;go_wp2_with fail
    go_ret;exact⟨qA8 (by rw[HOK.out];simp),HB2.out⟩
   ·have hn2:((n:Int) == 0)=false:=by simp only[beq_eq_false_iff_ne];omega
    go_enter Tryz.func199,Tryz.ntmps199
    go_wp2_with fail
    go_ret;exact⟨qA8 (by rw[HOK.out,decide_eq_false hn];simp),bR.alloc lR _⟩
  ·have HOK:=hid (show ok=((fitA wh q n al && iz) && qD2 wh (alone al q) (qA1 l)) by rw[hok.out,if_neg hk]);clear hok hem DM;have hk1:(q == 1)=false:=by simpa using hk
   have HM0:=hid hm;have HK1:=hid hk;clear hk hm
   go_enter Tryz.func199,Tryz.ntmps199
   go_upto_block 0 with fail
   rw[<- HW1.out];go_cut [2,8] from 69 (fun a s W=>a=.bool (alone al q)/\s=.bool (fitA wh q n al)/\W1=W)
   case first =>
    by_cases hq:2<=q/\q<=7
    ·obtain rfl|rfl|rfl|rfl|rfl|rfl:q=2 \/ q=3 \/ q=6 \/ q=4 \/ q=5 \/ q=7:=by omega
     ·have HFA:=hid (show fitA wh 2 n al=decide (2<=n) by unfold fitA;simp);by_cases hc:2<=n
      ·have hn2:(2:Int)<=(n:Int):=by omega
       have HFB:=hid (show fitA wh 2 n al=true by rw[HFA.out];exact decide_eq_true hc);clear hc hq
       as_aux_lemma =>
        go_wp2_with fail
        go_meet
        case rel=>exact⟨by unfold alone;cases al<;>rfl,by rw[HFB.out],rfl⟩
      ·have hn2:¬(2:Int)<=(n:Int):=by omega
       have HFB:=hid (show fitA wh 2 n al=false by rw[HFA.out];exact decide_eq_false hc);clear hc hq
       as_aux_lemma =>
        go_wp2_with fail
        go_meet
        case rel=>exact⟨by unfold alone;cases al<;>rfl,by rw[HFB.out],rfl⟩
     ·have HFA:=hid (show fitA wh 3 n al=decide (2<=n) by unfold fitA;simp);by_cases hc:2<=n
      ·have hn2:(2:Int)<=(n:Int):=by omega
       have HFB:=hid (show fitA wh 3 n al=true by rw[HFA.out];exact decide_eq_true hc);clear hc hq
       as_aux_lemma =>
        go_wp2_with fail
        go_meet
        case rel=>exact⟨by unfold alone;cases al<;>rfl,by rw[HFB.out],rfl⟩
      ·have hn2:¬(2:Int)<=(n:Int):=by omega
       have HFB:=hid (show fitA wh 3 n al=false by rw[HFA.out];exact decide_eq_false hc);clear hc hq
       as_aux_lemma =>
        go_wp2_with fail
        go_meet
        case rel=>exact⟨by unfold alone;cases al<;>rfl,by rw[HFB.out],rfl⟩
     ·have HFA:=hid (show fitA wh 6 n al=decide (2<=n) by unfold fitA;simp);by_cases hc:2<=n
      ·have hn2:(2:Int)<=(n:Int):=by omega
       have HFB:=hid (show fitA wh 6 n al=true by rw[HFA.out];exact decide_eq_true hc);clear hc hq
       as_aux_lemma =>
        go_wp2_with fail
        go_meet
        case rel=>exact⟨by unfold alone;cases al<;>rfl,by rw[HFB.out],rfl⟩
      ·have hn2:¬(2:Int)<=(n:Int):=by omega
       have HFB:=hid (show fitA wh 6 n al=false by rw[HFA.out];exact decide_eq_false hc);clear hc hq
       as_aux_lemma =>
        go_wp2_with fail
        go_meet
        case rel=>exact⟨by unfold alone;cases al<;>rfl,by rw[HFB.out],rfl⟩
     ·have HFA:=hid (show fitA wh 4 n al=(decide (n=2 \/ n=3) && (!al && decide (wh=1))) by unfold fitA;simp);by_cases hc:n=2 \/ n=3
      ·have e2:((n:Int) == 2)=decide (n=2):=by rw[Bool.eq_iff_iff];simp;omega
       have e3:((n:Int) == 3)=decide (n=3):=by rw[Bool.eq_iff_iff];simp;omega
       cases al
       ·by_cases hw:wh=1
        ·have HFB:=hid (show fitA wh 4 n false=true by rw[HFA.out,decide_eq_true hc,decide_eq_true hw];rfl);have hw2:(wh == 1)=true:=by simpa using hw
         rcases hc with rfl|rfl
         ·clear hq e2 e3 hw
          as_aux_lemma =>
           go_wp2_with fail
           go_meet
           case rel=>exact⟨by unfold alone;rfl,by rw[HFB.out],rfl⟩
         ·clear hq e2 e3 hw
          as_aux_lemma =>
           go_wp2_with fail
           go_meet
           case rel=>exact⟨by unfold alone;rfl,by rw[HFB.out],rfl⟩
        ·have HFB:=hid (show fitA wh 4 n false=false by rw[HFA.out,decide_eq_true hc,decide_eq_false hw];rfl);have hw2:(wh == 1)=false:=by simpa using hw
         rcases hc with rfl|rfl
         ·clear hq e2 e3 hw
          as_aux_lemma =>
           go_wp2_with fail
           go_meet
           case rel=>exact⟨by unfold alone;rfl,by rw[HFB.out],rfl⟩
         ·clear hq e2 e3 hw
          as_aux_lemma =>
           go_wp2_with fail
           go_meet
           case rel=>exact⟨by unfold alone;rfl,by rw[HFB.out],rfl⟩
       ·have HFB:=hid (show fitA wh 4 n true=false by rw[HFA.out];simp);rcases hc with rfl|rfl
        ·clear hq e2 e3
         as_aux_lemma =>
          go_wp2_with fail
          go_meet
          case rel=>exact⟨by unfold alone;rfl,by rw[HFB.out],rfl⟩
        ·clear hq e2 e3
         as_aux_lemma =>
          go_wp2_with fail
          go_meet
          case rel=>exact⟨by unfold alone;rfl,by rw[HFB.out],rfl⟩
      ·have HFB:=hid (show fitA wh 4 n al=false by rw[HFA.out,decide_eq_false hc];rfl);have e2:((n:Int) == 2)=false:=by simp only[beq_eq_false_iff_ne];omega
       have e3:((n:Int) == 3)=false:=by simp only[beq_eq_false_iff_ne];omega
       clear hc hq
       as_aux_lemma =>
        go_wp2_with fail
        go_meet
        case rel=>exact⟨by unfold alone;cases al<;>rfl,by rw[HFB.out],rfl⟩
     ·have HFA:=hid (show fitA wh 5 n al=(decide (n=2 \/ n=3) && (!al && decide (wh<=2))) by unfold fitA;simp);by_cases hc:n=2 \/ n=3
      ·have e2:((n:Int) == 2)=decide (n=2):=by rw[Bool.eq_iff_iff];simp;omega
       have e3:((n:Int) == 3)=decide (n=3):=by rw[Bool.eq_iff_iff];simp;omega
       cases al
       ·by_cases hw:wh<=2
        ·have HFB:=hid (show fitA wh 5 n false=true by rw[HFA.out,decide_eq_true hc,decide_eq_true hw];rfl);rcases hc with rfl|rfl
         ·clear hq e2 e3
          as_aux_lemma =>
           go_wp2_with fail
           go_meet
           case rel=>exact⟨by unfold alone;rfl,by rw[HFB.out],rfl⟩
         ·clear hq e2 e3
          as_aux_lemma =>
           go_wp2_with fail
           go_meet
           case rel=>exact⟨by unfold alone;rfl,by rw[HFB.out],rfl⟩
        ·have HFB:=hid (show fitA wh 5 n false=false by rw[HFA.out,decide_eq_true hc,decide_eq_false hw];rfl);rcases hc with rfl|rfl
         ·clear hq e2 e3
          as_aux_lemma =>
           go_wp2_with fail
           go_meet
           case rel=>exact⟨by unfold alone;rfl,by rw[HFB.out],rfl⟩
         ·clear hq e2 e3
          as_aux_lemma =>
           go_wp2_with fail
           go_meet
           case rel=>exact⟨by unfold alone;rfl,by rw[HFB.out],rfl⟩
       ·have HFB:=hid (show fitA wh 5 n true=false by rw[HFA.out];simp);rcases hc with rfl|rfl
        ·clear hq e2 e3
         as_aux_lemma =>
          go_wp2_with fail
          go_meet
          case rel=>exact⟨by unfold alone;rfl,by rw[HFB.out],rfl⟩
        ·clear hq e2 e3
         as_aux_lemma =>
          go_wp2_with fail
          go_meet
          case rel=>exact⟨by unfold alone;rfl,by rw[HFB.out],rfl⟩
      ·have HFB:=hid (show fitA wh 5 n al=false by rw[HFA.out,decide_eq_false hc];rfl);have e2:((n:Int) == 2)=false:=by simp only[beq_eq_false_iff_ne];omega
       have e3:((n:Int) == 3)=false:=by simp only[beq_eq_false_iff_ne];omega
       clear hc hq
       as_aux_lemma =>
        go_wp2_with fail
        go_meet
        case rel=>exact⟨by unfold alone;cases al<;>rfl,by rw[HFB.out],rfl⟩
     ·have HFA:=hid (show fitA wh 7 n al=decide (n=2) by unfold fitA;simp);by_cases hc:n=2
      ·have hn2:((n:Int) == 2)=true:=by simp;omega
       have HFB:=hid (show fitA wh 7 n al=true by rw[HFA.out];exact decide_eq_true hc);clear hc hq
       as_aux_lemma =>
        go_wp2_with fail
        go_meet
        case rel=>exact⟨by unfold alone;cases al<;>rfl,by rw[HFB.out],rfl⟩
      ·have hn2:((n:Int) == 2)=false:=by simp only[beq_eq_false_iff_ne];omega
       have HFB:=hid (show fitA wh 7 n al=false by rw[HFA.out];exact decide_eq_false hc);clear hc hq
       as_aux_lemma =>
        go_wp2_with fail
        go_meet
        case rel=>exact⟨by unfold alone;cases al<;>rfl,by rw[HFB.out],rfl⟩
    ·have HFB:=hid (show fitA wh q n al=false by unfold fitA;rw[if_neg (by omega),if_neg (by omega),if_neg (by omega),if_neg (by omega)]);have HAL:=hid (show alone al q=al by unfold alone;rw[show (q == 6)=false by simp only[beq_eq_false_iff_ne];omega,show (q == 7)=false by simp only[beq_eq_false_iff_ne];omega];cases al<;>rfl);have b2:(q == 2)=false:=by simp only[beq_eq_false_iff_ne];omega
     have b3:(q == 3)=false:=by simp only[beq_eq_false_iff_ne];omega
     have b4:(q == 4)=false:=by simp only[beq_eq_false_iff_ne];omega
     have b5:(q == 5)=false:=by simp only[beq_eq_false_iff_ne];omega
     have b6:(q == 6)=false:=by simp only[beq_eq_false_iff_ne];omega
     have b7:(q == 7)=false:=by simp only[beq_eq_false_iff_ne];omega
     clear hq
     as_aux_lemma =>
      go_wp2_with fail
      go_meet
      case rel=>exact⟨by rw[HAL.out],by rw[HFB.out],rfl⟩
   case rest =>
    obtain⟨rfl,rfl,rfl⟩:=hcut;have hm:=HM0.out;obtain⟨k0,k1,k2,k3,k4,k5,k6⟩:=K.out;generalize alone al q=al2 at *;generalize fitA wh q n al=fa at *;cases fa
    ·go_wp2_with fail
     go_ret;exact⟨qA8 (by rw[HOK.out];simp),HB1.out⟩
    cases iz
    ·have HOF:=hid (show ok=false by rw[HOK.out];simp);go_wp2_with fail
     all_goals
      first
       | (go_ret;refine⟨qA8 ?_,HB1.out⟩;rw[HOF.out];done)
       | (exfalso;have h:=hz.out;rw[eq_comm,Bool.eq_false_iff]at h;apply h;simp only[Bool.and_eq_true,List.isEmpty_iff,beq_iff_eq];exact⟨by assumption,by assumption,by assumption,by assumption,by assumption⟩)
    have h:=hz.out.symm;simp only[Bool.and_eq_true,List.isEmpty_iff,beq_iff_eq]at h;obtain⟨z1,z2,z3,z4,z5⟩:=h;go_wp2_with fail
    clear z1 z2 z3 z4 z5
    go_loopw[9] (fun iv wr => ∃k:Nat,k<=n/\iv=.int .i64 (k:Int)/\Hid (qD2 wh al2 ((qA1 l).take k)=true)/\Below (w.heap.size+1) W1 wr) (fun iv _=>n - (intOf iv).toNat)
    case atStart=>exact⟨0,by omega,rfl,hid (by simp[qD2]),Below.refl _ _⟩
    case round =>
     obtain⟨k,hk2,rfl,HOW,hB⟩:=hrel;rename World=>wr
     have HBW:=hid (HB1.out.trans (hB.mono (by omega)));have HBR:=hid hB;have hz1:w.heap.size+1<=wr.heap.size:=by have:=hB.size;have:=Z1.out;omega
     have hc:∀j:Nat,wr.cell? ⟨w.heap.size,j,none⟩=W1.cell? ⟨w.heap.size,j,none⟩:=fun j=>hB.cell (p:=⟨w.heap.size,j,none⟩) (by show w.heap.size<w.heap.size+1;omega);by_cases hlt:k<n
     ·have hkl:k<l.length:=by have:=HN.out;omega
      have q6:wr.cell? ⟨w.heap.size,6,none⟩=some (.slice aA n ac):=(hc 6).trans k6;have RR:=HA.out.below HBW.out;obtain⟨b,o,rfl,hb,c0,c1,c2,c3,c4,c5,c6⟩:=RR.at_ hkl;have TA:=(RR.2 _ (List.getElem_mem hkl)).more HBW.out.size;have hkt:k<(qA1 l).length:=by rw[qA5];exact hkl
      have g1:=qO4 (wh:=wh) (al:=al2) hkt;rw[qAI l k hkl]at g1;have hht:=Nat.le_trans (qBN (List.getElem_mem hkl)) HF.out;have hc2:=IH.out l[k] al2 wr hht TA;unfold RV.val at hc2;have HC:=hid hc2;have G1:=hid g1;have i0:(0:Int)<=(k:Int):=by omega
      have i1:(k:Int)<(n:Int):=by omega
      clear hc2 TA RR g1 hht hB hc k0 k1 k2 k3 k4 k5 k6;generalize l[k]=a at *;obtain⟨r,hr⟩:∃r,r=fitR wh al2 a.tree:=⟨_,rfl⟩;rw[<- hr]at HC G1;clear hkt hkl hr;cases r
      ·go_wp2_with fail
       go_at_call 199
       refine HC.out.mono ?_;rintro e w2 ⟨rfl,hb2⟩;have HB2:=hid (HBW.out.trans (hb2.mono HBW.out.size));clear hb2 HC;go_wp2_with fail
       go_ret;exact⟨qA8 (by rw[HOK.out,qMQ (l:=qA1 l) (k:=k+1) (by rw[G1.out];simp)];simp),HB2.out⟩
      ·go_wp2_with fail
       go_at_call 199
       refine HC.out.mono ?_;rintro e w2 ⟨rfl,hb2⟩;have HB2:=hid (HBR.out.trans (hb2.mono hz1));clear hb2 HC;go_wp2_with fail
       go_roundw
       case rel=>exact⟨k+1,by omega,by go_num,hid (by rw[G1.out,HOW.out];rfl),HB2.out⟩
       case measure=>simp[intOf];omega
     ·have i1:¬(k:Int)<(n:Int):=by omega
      have hfull:qD2 wh al2 (qA1 l)=true:=by have:=HOW.out;rwa [List.take_of_length_le (by rw[qA5];have:=HN.out;omega)]at this
      have HFL:=hid hfull;clear hfull hB hc k0 k1 k2 k3 k4 k5 k6 HOW;go_wp2_with fail
      go_ret;exact⟨qA8 (by rw[HOK.out,HFL.out];simp),HBW.out⟩
theorem qHM (wh:Int):∀(f:Nat) (t:RV) (al:Bool) (w:World),t.ht<=f->RTree w.heap.size w t->Calls Tryz.prog 199 #[t.val,.int .u8 wh,.bool al] w fun e w'=>e=.returned (.bool (fitR wh al t.tree))/\Below w.heap.size w w'
 |0,t,al,w,hf,_=>absurd hf (by rw[qAN];omega)
 | f+1,t,al,w,hf,h=>qM3 wh f t al w (qHM wh f) hf h
theorem qS5 (T:RV)(wh:Int)(w:World)(hp:T.tree.parts<=1000000)(hT:RTree w.heap.size w T) : Calls Tryz.prog 171 #[T.val,.int .u8 wh] w fun e w'=>e=.returned (.int .i64 (mayE wh T))/\Below w.heap.size w w' := by
 have HT:=hid hT;have HP:=hid hp;have HE:=hid (show mayE wh T=if wh<1 \/ 3<wh then 1 else if 24<T.tree.parts then 40 else if 8<T.tree.deep then 21 else if fitR wh false T.tree=true then 0 else 4 from by rw[qJP,qUH]);have CC:=hid (fun W (hb:Below w.heap.size w W)=>qGE T.ht T W lR HP.out ((HT.out.keeps hb).more hb.size));have CD:=hid (fun W (hb:Below w.heap.size w W)=>qGF T.ht T W lR HP.out ((HT.out.keeps hb).more hb.size));have CF:=hid (fun W (hb:Below w.heap.size w W)=>qHM wh T.ht T false W lR ((HT.out.keeps hb).more hb.size));have hm:=hT.row.len;have DP:=hid (qB6 T.tree);have HB1:=hid ((Below.refl w.heap.size w).alloc lR (.cells #[.int .u8 T.kind,.string (bs T.dep.name),.int .u8 T.dep.op,.int .i64 T.dep.evr.epoch,.string (bs T.dep.evr.ver),.string (bs T.dep.evr.rel),.slice T.addr T.args.length T.cap] 39));have BX:=hid (Box7.new w (.int .u8 T.kind) (.string (bs T.dep.name)) (.int .u8 T.dep.op) (.int .i64 T.dep.evr.epoch) (.string (bs T.dep.evr.ver)) (.string (bs T.dep.evr.rel)) (.slice T.addr T.args.length T.cap) 39);obtain⟨er,her⟩:∃er,er=mayE wh T:=⟨_,rfl⟩;rw[<- her]at HE |-;unfold RV.val at CC CD CF |-;clear hT her;generalize T.tree.parts=np at *;generalize T.tree.deep=nd at *;generalize fitR wh false T.tree=ft at *;generalize bs T.dep.name=s0 at *;generalize bs T.dep.evr.ver=s1 at *;generalize bs T.dep.evr.rel=s2 at *;generalize T.dep.op=o0 at *;generalize T.dep.evr.epoch=e0' at *;generalize T.kind=kd at *;generalize T.addr=aA at *;generalize T.cap=ac at *;generalize T.args.length=n at *;have hdp:=DP.out;by_cases hw1:wh<1
 ·obtain rfl:er=1:=by rw[HE.out,if_pos (.inl hw1)]
  clear HE
  go_enter Tryz.func171,Tryz.ntmps171
  go_wp2_with fail
  go_ret;exact⟨rfl,HB1.out⟩
 by_cases hw2:3<wh
 ·obtain rfl:er=1:=by rw[HE.out,if_pos (.inr hw2)]
  clear HE
  go_enter Tryz.func171,Tryz.ntmps171
  go_wp2_with fail
  go_ret;exact⟨rfl,HB1.out⟩
 have HE:=hid (show er=if 24<np then 40 else if 8<nd then 21 else if ft=true then 0 else 4 by rw[HE.out,if_neg (by omega)])
 go_enter Tryz.func171,Tryz.ntmps171
 go_wp2_with fail
 go_at_call 197
 refine (CC.out _ HB1.out).mono ?_;rintro e w2 ⟨rfl,hb⟩;have HB2:=hid (HB1.out.trans (hb.mono HB1.out.size));have BX2:=hid (BX.out.past (hb.mono BX.out.2.2));clear hb BX;by_cases hc:24<np
 ·obtain rfl:er=40:=by rw[HE.out,if_pos hc]
  have hc2:(24:Int)<(np:Int):=by omega
  clear HE;go_wp2_with fail
  go_ret;exact⟨rfl,HB2.out⟩
 have HE:=hid (show er=if 8<nd then 21 else if ft=true then 0 else 4 by rw[HE.out,if_neg hc]);have hc2:¬(24:Int)<(np:Int):=by omega
 obtain⟨⟨c0,c1,c2,c3,c4,c5,c6⟩,_,cl⟩:=BX2.out;go_wp2_with fail
 go_at_call 198
 refine (CD.out _ HB2.out).mono ?_;rintro e w3 ⟨rfl,hb⟩;have HB3:=hid (HB2.out.trans (hb.mono HB2.out.size));have BX3:=hid (BX2.out.past (hb.mono BX2.out.2.2));clear hb BX2 c0 c1 c2 c3 c4 c5 c6 cl;by_cases hd:8<nd
 ·obtain rfl:er=21:=by rw[HE.out,if_pos hd]
  have hd2:(8:Int)<(nd:Int):=by omega
  clear HE;go_wp2_with fail
  go_ret;exact⟨rfl,HB3.out⟩
 have HE:=hid (show er=if ft=true then 0 else 4 by rw[HE.out,if_neg hd]);have hd2:¬(8:Int)<(nd:Int):=by omega
 obtain⟨⟨c0,c1,c2,c3,c4,c5,c6⟩,_,cl⟩:=BX3.out;go_wp2_with fail
 go_at_call 199
 refine (CF.out _ HB3.out).mono ?_;rintro e w4 ⟨rfl,hb⟩;have HB4:=hid (HB3.out.trans (hb.mono HB3.out.size));clear hb c0 c1 c2 c3 c4 c5 c6 cl;cases ft
 ·obtain rfl:er=4:=by rw[HE.out];rfl
  clear HE;go_wp2_with fail
  go_ret;exact⟨rfl,HB4.out⟩
 ·obtain rfl:er=0:=by rw[HE.out];rfl
  clear HE;go_wp2_with fail
  go_ret;exact⟨rfl,HB4.out⟩
