/- PkMuch2, PkLarge2, StSlim, DepRefN, EvRefW, DepMay -/
import Derived.Test.YteobmfpbgnmffaaGreatDoorT06
import Derived.Deep.RegionLaw
set_option linter.unusedVariables false
set_option maxHeartbeats 16000000
set_option maxRecDepth 100000
open Go.Lib (hid)
set_option linter.unusedSimpArgs false
namespace Go.Proofs.YteobmfpbgnmffaaGreatDoor
open Go.RowKit Go.Shelf
section
theorem qF5 {l:List RT}{k:Nat}(hk:k<l.length) : qA9 (l.take (k+1))=qA9 (l.take k)+l[k].parts := by rw[List.take_succ_eq_append_getElem hk,qEV];simp[qA9]
def qIT (l:List RV)(w:World)(e:Ending)(w':World) : Prop := ∃(m:Nat) (r:Bool),e=.returned (.tuple #[.int .i64 (m:Int),.bool r])/\m<=2000/\(r=false->m=qA9 (qA1 l))/\Below w.heap.size w w'
end
section
def sixL (p:Pk) : Nat->List RV|0=>p.req|1=>p.con|2=>p.rcm|3=>p.sup|4=>p.sug|_=>p.enh
theorem qXQ (w:World)(p:Pk)(e:TypeId){w0:World}(h:p.Laid w0.heap.size w)(hs:w0.heap.size<=w.heap.size)(W':World)(hb:Below (w.alloc (.cells #[.slice p.reqA p.req.length p.reqC,.slice p.conA p.con.length p.conC,.slice p.rcmA p.rcm.length p.rcmC,.slice p.supA p.sup.length p.supC,.slice p.sugA p.sug.length p.sugC,.slice p.enhA p.enh.length p.enhC] e)).heap.size (w.alloc (.cells #[.slice p.reqA p.req.length p.reqC,.slice p.conA p.con.length p.conC,.slice p.rcmA p.rcm.length p.rcmC,.slice p.supA p.sup.length p.supC,.slice p.sugA p.sug.length p.sugC,.slice p.enhA p.enh.length p.enhC] e)) W')(k:Nat)(hk:k<6):∃A c,W'.cell? ⟨w.heap.size,k,none⟩=some (.slice A (sixL p k).length c)/\RRow W'.heap.size W' A c (sixL p k) := by
 have b0:Below w.heap.size w (w.alloc (.cells #[.slice p.reqA p.req.length p.reqC,.slice p.conA p.con.length p.conC,.slice p.rcmA p.rcm.length p.rcmC,.slice p.supA p.sup.length p.supC,.slice p.sugA p.sug.length p.sugC,.slice p.enhA p.enh.length p.enhC] e)):=(Below.refl _ w).alloc lR _;have b1:=b0.trans (hb.mono b0.size);have q:=(h.more hs).calls b1;have cc:∀v,(#[.slice p.reqA p.req.length p.reqC,.slice p.conA p.con.length p.conC,.slice p.rcmA p.rcm.length p.rcmC,.slice p.supA p.sup.length p.supC,.slice p.sugA p.sug.length p.sugC,.slice p.enhA p.enh.length p.enhC]:Array Value)[k]?=some v->W'.cell? ⟨w.heap.size,k,none⟩=some v:=fun v hv=>(hb.cell (p:=⟨w.heap.size,k,none⟩) (by simp)).trans ((World.cell?_alloc_at _ _ _ _ rfl).trans hv)
 match k,hk with
 |0,_=>exact⟨p.reqA,p.reqC,cc _ rfl,q.req⟩
 |1,_=>exact⟨p.conA,p.conC,cc _ rfl,q.con⟩
 |2,_=>exact⟨p.rcmA,p.rcmC,cc _ rfl,q.rcm⟩
 |3,_=>exact⟨p.supA,p.supC,cc _ rfl,q.sup⟩
 |4,_=>exact⟨p.sugA,p.sugC,cc _ rfl,q.sug⟩
 |5,_=>exact⟨p.enhA,p.enhC,cc _ rfl,q.enh⟩
end
section
structure Pk.slim (p:Pk) : Prop where
 name:p.name.size<=1000
 ver:p.ver.size<=1000
 rel:p.rel.size<=1000
 vendor:p.vendor.size<=1000
 provN:p.prov.length<=100
 obsN:p.obs.length<=100
 filesN:p.files.length<=100
 parts:∀k,k<6->qA9 (qA1 (sixL p k))<=2000
def qFC (p:Pk)(w:World)(e:Ending)(w':World) : Prop := ∃r,e=.returned (.bool r)/\(r=false->p.slim)/\Below w.heap.size w w'
theorem qC1 {p:Pk}{w w':World}(h:Below w.heap.size w w') : qFC p w (.returned (.bool true)) w' := ⟨true,rfl,(fun hf=>by cases hf),h⟩
end
section
theorem qSE (n:Int)(w:World)(h:sgnI n=true) : Calls Tryz.prog 168 #[.int .u8 n] w fun e w'=>e=.returned (.bool true)/\w=w' := by
 unfold sgnI at h;have h:=of_decide_eq_true h;by_cases a:97<=n/\n<=122
 ·obtain⟨a1,a2⟩:=a;clear h
  go_enter Tryz.func168,Tryz.ntmps168
  go_wp2
  go_ret;exact⟨rfl,rfl⟩
 by_cases b:65<=n/\n<=90
 ·obtain⟨a1,a2⟩:=b;have a3:¬97<=n:=by omega
  clear h a
  go_enter Tryz.func168,Tryz.ntmps168
  go_wp2
  go_ret;exact⟨rfl,rfl⟩
 by_cases c:48<=n/\n<=57
 ·obtain⟨a1,a2⟩:=c;have a3:¬97<=n:=by omega
  have a4:¬65<=n:=by omega
  clear h a b
  go_enter Tryz.func168,Tryz.ntmps168
  go_wp2
  go_ret;exact⟨rfl,rfl⟩
 have h:n=46 \/ n=95 \/ n=43 \/ n=45 \/ n=47 \/ n=58 \/ n=64 \/ n=126 \/ n=94:=by omega
 clear a b c;rcases h with rfl|rfl|rfl|rfl|rfl|rfl|rfl|rfl|rfl
 all_goals
  go_enter Tryz.func168,Tryz.ntmps168
  go_wp2
  go_ret;exact⟨rfl,rfl⟩
theorem qVA (n:Int)(w:World)(h:sgnI n=false) : Calls Tryz.prog 168 #[.int .u8 n] w fun e w'=>e=.returned (.bool false)/\w=w' := by
 unfold sgnI at h;have h:=of_decide_eq_false h;have e1:(n == 46)=false:=by simp;omega
 have e2:(n == 95)=false:=by simp;omega
 have e3:(n == 43)=false:=by simp;omega
 have e4:(n == 45)=false:=by simp;omega
 have e5:(n == 47)=false:=by simp;omega
 have e6:(n == 58)=false:=by simp;omega
 have e7:(n == 64)=false:=by simp;omega
 have e8:(n == 126)=false:=by simp;omega
 have e9:(n == 94)=false:=by simp;omega
 by_cases a:97<=n
 ·have a2:¬n<=122:=by omega
  have b1:65<=n:=by omega
  have b2:¬n<=90:=by omega
  have c1:48<=n:=by omega
  have c2:¬n<=57:=by omega
  clear h
  go_enter Tryz.func168,Tryz.ntmps168
  go_wp2
  go_ret;exact⟨rfl,rfl⟩
 by_cases b:65<=n
 ·have b2:¬n<=90:=by omega
  have c1:48<=n:=by omega
  have c2:¬n<=57:=by omega
  clear h
  go_enter Tryz.func168,Tryz.ntmps168
  go_wp2
  go_ret;exact⟨rfl,rfl⟩
 by_cases c:48<=n
 ·have c2:¬n<=57:=by omega
  clear h
  go_enter Tryz.func168,Tryz.ntmps168
  go_wp2
  go_ret;exact⟨rfl,rfl⟩
 clear h
 go_enter Tryz.func168,Tryz.ntmps168
 go_wp2
 go_ret;exact⟨rfl,rfl⟩
theorem qN8 (s:ByteArray)(w:World)(hs:s.size<=maxLen) : Calls Tryz.prog 125 #[.string s] w fun e w'=>e=.returned (.bool (qBM s.toList))/\w=w' := by
 unfold maxLen at hs;by_cases h0:s.size=0
 ·have HW:=hid (qJT h0);have e0:s.toList=[]:=List.eq_nil_of_length_eq_zero (by rw[qA7];exact h0);rw[HW.out];clear HW;obtain rfl:s=⟨#[]⟩:=toList_inj (e0.trans (qA3 []).symm);clear e0 h0
  go_enter Tryz.func125,Tryz.ntmps125
  go_wp2
  go_ret;exact⟨rfl,rfl⟩
 have h1:¬(s.size:Int)<1:=by omega
 by_cases h64:64<s.size
 ·have HW:=hid (qJS h64);rw[HW.out];clear HW;have h65:(64:Int)<(s.size:Int):=by omega
  go_enter Tryz.func125,Tryz.ntmps125
  go_wp2
  go_ret;exact⟨rfl,rfl⟩
 have h65:¬(64:Int)<(s.size:Int):=by omega
 obtain⟨r,hr⟩:∃r,r=qBM s.toList:=⟨_,rfl⟩;rw[<- hr];have HR:=hid hr;clear hr;rcases Bool.eq_false_or_eq_true (s.toList == [97,110,100]) with q0|q0
 ·obtain rfl:r=false:=HR.out.trans (qAW (by rw[beq_iff_eq.1 q0];decide));clear HR
  go_enter Tryz.func125,Tryz.ntmps125
  go_wp2
  go_ret;exact⟨rfl,rfl⟩
 rcases Bool.eq_false_or_eq_true (s.toList == [111,114]) with q1|q1
 ·obtain rfl:r=false:=HR.out.trans (qAW (by rw[beq_iff_eq.1 q1];decide));clear HR
  go_enter Tryz.func125,Tryz.ntmps125
  go_wp2
  go_ret;exact⟨rfl,rfl⟩
 rcases Bool.eq_false_or_eq_true (s.toList == [105,102]) with q2|q2
 ·obtain rfl:r=false:=HR.out.trans (qAW (by rw[beq_iff_eq.1 q2];decide));clear HR
  go_enter Tryz.func125,Tryz.ntmps125
  go_wp2
  go_ret;exact⟨rfl,rfl⟩
 rcases Bool.eq_false_or_eq_true (s.toList == [101,108,115,101]) with q3|q3
 ·obtain rfl:r=false:=HR.out.trans (qAW (by rw[beq_iff_eq.1 q3];decide));clear HR
  go_enter Tryz.func125,Tryz.ntmps125
  go_wp2
  go_ret;exact⟨rfl,rfl⟩
 rcases Bool.eq_false_or_eq_true (s.toList == [117,110,108,101,115,115]) with q4|q4
 ·obtain rfl:r=false:=HR.out.trans (qAW (by rw[beq_iff_eq.1 q4];decide));clear HR
  go_enter Tryz.func125,Tryz.ntmps125
  go_wp2
  go_ret;exact⟨rfl,rfl⟩
 rcases Bool.eq_false_or_eq_true (s.toList == [119,105,116,104]) with q5|q5
 ·obtain rfl:r=false:=HR.out.trans (qAW (by rw[beq_iff_eq.1 q5];decide));clear HR
  go_enter Tryz.func125,Tryz.ntmps125
  go_wp2
  go_ret;exact⟨rfl,rfl⟩
 rcases Bool.eq_false_or_eq_true (s.toList == [119,105,116,104,111,117,116]) with q6|q6
 ·obtain rfl:r=false:=HR.out.trans (qAW (by rw[beq_iff_eq.1 q6];decide));clear HR
  go_enter Tryz.func125,Tryz.ntmps125
  go_wp2
  go_ret;exact⟨rfl,rfl⟩
 have HN:=hid (qJU q0 q1 q2 q3 q4 q5 q6)
 go_enter Tryz.func125,Tryz.ntmps125
 go_wp2
 clear q0 q1 q2 q3 q4 q5 q6
 go_loop [3] (fun i => ∃k:Nat,k<=s.size/\i=.int .i64 (k:Int)/\Hid (∀c∈s.toList.take k,sgn c=true)) (fun i=>s.size - (intOf i).toNat)
 case atStart=>exact⟨0,by omega,rfl,hid (by intro c hc;cases hc)⟩
 case round =>
  obtain⟨k,hk,rfl,hS⟩:=hrel;by_cases hlt:k<s.size
  ·have hlt2:(k:Int)<(s.size:Int):=by omega
   have i0:(0:Int)<=(k:Int):=by omega
   cases hc:sgnI ((s[k]).toNat:Int) with
   | true =>
    have HT:=hid (qNC hlt hS.out hc);have SC:=hid (fun W=>qSE _ W hc);clear hS hc;go_wp2_with (go_at_call 168;refine (SC.out _).mono ?_;rintro e w' ⟨rfl,rfl⟩)
    go_round
    case rel=>exact⟨k+1,by omega,by go_num,HT⟩
    case measure=>simp[intOf];omega
   | false =>
    obtain rfl:r=false:=HR.out.trans (qIF hlt hc);have SC:=hid (fun W=>qVA _ W hc);clear hS hc HR;go_wp2_with (go_at_call 168;refine (SC.out _).mono ?_;rintro e w' ⟨rfl,rfl⟩)
    go_ret;exact⟨rfl,rfl⟩
  ·have hlt2:¬(k:Int)<(s.size:Int):=by omega
   obtain rfl:r=true:=HR.out.trans (qJR (by omega) (by omega) (qSK hlt hS.out) HN.out);clear HR hS;go_wp2
   go_ret;exact⟨rfl,rfl⟩
theorem qHP (s:ByteArray)(w:World)(hs:s.size<=maxLen) : Calls Tryz.prog 125 #[.string s] w fun e w'=>e=.returned (.bool (qBM s.toList))/\Below w.heap.size w w' := (qN8 s w hs).mono fun e w' h=>⟨h.1,h.2 ▸ Below.refl _ _⟩
theorem qX3 {s:ByteArray}(h:0<s.size) : (s.toList.head? == some 47)=((s[0].toNat : Int) == 47) := by
 have e:s.toList.head?=some s[0]:=by
  rw[List.head?_eq_getElem?,List.getElem?_eq_getElem (by rw[qA7];exact h),qBU s 0 h]
 rw[e,Bool.eq_iff_iff,beq_iff_eq,beq_iff_eq];constructor
 ·intro h2;rw[Option.some.inj h2];rfl
 ·intro h2
  congr 1
  apply UInt8.toNat_inj.1;have:(47:UInt8).toNat=47:=rfl;omega
theorem qN7 (s:ByteArray)(w:World)(hs:s.size<=maxLen) : Calls Tryz.prog 126 #[.string s] w fun e w'=>e=.returned (.bool (qCF s.toList))/\w=w' := by
 have NA:=hid (qN8 s w hs);obtain⟨r,hr⟩:∃r,r=qCF s.toList:=⟨_,rfl⟩;rw[<- hr];unfold qCF at hr;unfold maxLen at hs
 cases hn:qBM s.toList with
 | false =>
  rw[hn]at NA hr;obtain rfl:r=false:=hr;clear hn
  go_enter Tryz.func126,Tryz.ntmps126
  go_wp2_with (go_at_call 125;refine NA.out.mono ?_;rintro e w1 ⟨rfl,rfl⟩)
  go_ret;exact⟨rfl,rfl⟩
 | true =>
  rw[hn]at NA hr;have h0:0<s.size:=by have:=(qDI.1 hn).1;rw[qA7]at this;exact this
  have h1:(0:Int)<(s.size:Int):=by omega
  have HR:=hid (show ((s[0].toNat:Int) == 47)=r from by rw[hr,Bool.true_and,qX3 h0]);clear hn hr
  go_enter Tryz.func126,Tryz.ntmps126
  go_wp2_with fail
  go_at_call 125
  refine NA.out.mono ?_;rintro e w1 ⟨rfl,rfl⟩;go_wp2_with fail
  go_ret;exact⟨qA8 HR.out,rfl⟩
theorem qHO (s:ByteArray)(w:World)(hs:s.size<=maxLen) : Calls Tryz.prog 126 #[.string s] w fun e w'=>e=.returned (.bool (qCF s.toList))/\Below w.heap.size w w' := (qN7 s w hs).mono fun e w' h=>⟨h.1,h.2 ▸ Below.refl _ _⟩
end
section
theorem below_drewN {B:Nat}{w W:World}{n:Nat}(h:Below B w W) : Below B w (W.drewN n) := ⟨h.os,h.tape,h.output,h.size,h.block⟩
theorem qHQ (e:Evr)(dep:Bool)(w:World)(hw:e.wf) : Calls Tryz.prog 127 #[e.val,.bool dep] w fun r w'=>r=.returned (.bool (mayB e dep))/\Below w.heap.size w w' := by
 have WV:=hid (fun W=>qK9 (bs e.ver) W (by rw[qAO];exact hw.2.1));have WR:=hid (fun W=>qK9 (bs e.rel) W (by rw[qAO];exact hw.2.2));obtain⟨r,hr⟩:∃r,r=mayB e dep:=⟨_,rfl⟩;rw[<- hr];unfold mayB at hr;rw[qA3]at WV WR;have hx:(bs e.rel).toList=e.rel:=qA3 _;clear hw;unfold Evr.val;obtain⟨p,v,l⟩:=e;dsimp only at *;by_cases h0:0<=p
 ·have h0' : ¬p<0:=by omega
  by_cases h1:p<=2147483647
  ·have h1' : ¬2147483647<p:=by omega
   rw[decide_eq_true h0,decide_eq_true h1]at hr
   cases hv:qCI v with
   | false =>
    rw[hv]at hr WV;obtain rfl:r=false:=hr;clear hx hv
    go_enter Tryz.func127,Tryz.ntmps127
    go_wp2_with (go_at_call 169;refine (WV.out _).mono ?_;rintro e' w' ⟨rfl,rfl⟩)
    go_ret;exact⟨rfl,bR.alloc lR _⟩
   | true =>
    rw[hv]at hr WV;by_cases hl:l=[]
    ·have f1:(bs l).toList=[]:=by rw[hx,hl]
     have hwl:qCI l=false:=by rw[hl];rfl
     obtain rfl:r=dep:=by rw[hr,hwl,hl];cases dep<;>rfl
     clear hx hl hr hv hwl
     go_enter Tryz.func127,Tryz.ntmps127
     go_wp2_with (go_at_call 169;refine (WV.out _).mono ?_;rintro e' w' ⟨rfl,rfl⟩)
     go_ret;exact⟨rfl,bR.alloc lR _⟩
    ·have f1:¬(bs l).toList=[]:=by rw[hx];exact hl
     have f2:(bs l).toList.isEmpty=false:=by rw[hx];simpa using hl
     have f3:l.isEmpty=false:=by simpa using hl
     obtain⟨y,hy⟩:∃y,y=qCI l:=⟨_,rfl⟩;rw[<- hy]at hr WR;obtain rfl:r=y:=by rw[hr,f3];cases y<;>cases dep<;>rfl
     clear hx hl hr hv hy f3
     go_enter Tryz.func127,Tryz.ntmps127
     go_wp2_with fail
     go_at_call 169
     refine (WV.out _).mono ?_;rintro e' w' ⟨rfl,rfl⟩;go_wp2_with fail
     go_at_call 169
     refine (WR.out _).mono ?_;rintro e' w' ⟨rfl,rfl⟩;go_wp2_with fail
     go_ret;exact⟨rfl,bR.alloc lR _⟩
  ·obtain rfl:r=false:=by rw[hr,decide_eq_false h1];simp
   have h2:2147483647<p:=by omega
   clear hx hr
   go_enter Tryz.func127,Tryz.ntmps127
   go_wp2_with fail
   go_ret;exact⟨rfl,bR.alloc lR _⟩
 ·obtain rfl:r=false:=by rw[hr,decide_eq_false h0];rfl
  have h2:p<0:=by omega
  clear hx hr
  go_enter Tryz.func127,Tryz.ntmps127
  go_wp2_with fail
  go_ret;exact⟨rfl,bR.alloc lR _⟩
end
section
theorem qZ0 (n:Int)(w:World) : Calls Tryz.prog 196 #[.int .u8 n] w fun e w'=>e=.returned (.bool (qJV n))/\Below w.heap.size w w' :=
 (qV6 n w).mono fun e w' h=>⟨h.1,by rw[<- h.2];exact Below.refl _ _⟩
theorem qAT {d:Dp}{n:Nat}{w W W':World}(h:W.cell? ⟨n,0,none⟩=some (.string (bs d.name))/\W.cell? ⟨n,1,none⟩=some (.int .u8 d.op)/\W.cell? ⟨n,2,none⟩=some (.int .i64 d.evr.epoch)/\W.cell? ⟨n,3,none⟩=some (.string (bs d.evr.ver))/\W.cell? ⟨n,4,none⟩=some (.string (bs d.evr.rel))/\n<W.heap.size/\Below n w W)(hb:Below W.heap.size W W') :
  W'.cell? ⟨n,0,none⟩=some (.string (bs d.name))/\W'.cell? ⟨n,1,none⟩=some (.int .u8 d.op)/\W'.cell? ⟨n,2,none⟩=some (.int .i64 d.evr.epoch)/\W'.cell? ⟨n,3,none⟩=some (.string (bs d.evr.ver))/\W'.cell? ⟨n,4,none⟩=some (.string (bs d.evr.rel))/\n<W'.heap.size/\Below n w W':=by
 obtain⟨c0_0,c0_1,c0_2,c0_3,c0_4,l0,hB⟩:=h;have hB_le:n<=W.heap.size:=by omega
 exact⟨(hb.cell (p:=⟨n,0,none⟩) l0).trans c0_0,(hb.cell (p:=⟨n,1,none⟩) l0).trans c0_1,(hb.cell (p:=⟨n,2,none⟩) l0).trans c0_2,(hb.cell (p:=⟨n,3,none⟩) l0).trans c0_3,(hb.cell (p:=⟨n,4,none⟩) l0).trans c0_4,Nat.lt_of_lt_of_le l0 hb.size,hB.trans (hb.mono hB_le)⟩
theorem qWE (d:Dp)(w:World) : let W := (w.alloc (.cells #[.string (bs d.name),.int .u8 d.op,.int .i64 d.evr.epoch,.string (bs d.evr.ver),.string (bs d.evr.rel)] 37));let n := w.heap.size;W.cell? ⟨n,0,none⟩=some (.string (bs d.name))/\W.cell? ⟨n,1,none⟩=some (.int .u8 d.op)/\W.cell? ⟨n,2,none⟩=some (.int .i64 d.evr.epoch)/\W.cell? ⟨n,3,none⟩=some (.string (bs d.evr.ver))/\W.cell? ⟨n,4,none⟩=some (.string (bs d.evr.rel))/\n<W.heap.size/\Below n w W := by
 refine⟨?_,?_,?_,?_,?_,?_,?_⟩
 all_goals first|exact (World.cell?_alloc_at _ _ _ _ (by simp)).trans rfl|exact (bR.alloc (by simp;try omega) _)|(simp;try omega)
theorem qL2 (d:Dp)(w:World)(hw:d.wf)(hI:PkIn w) : Calls Tryz.prog 101 #[d.val] w fun e w'=>e=.returned (.bool (qAL d))/\Below w.heap.size w w' := by
 have hn64:(bs d.name).size<=maxLen:=by rw[qAO];exact hw.1
 have NA:=hid (fun W (h:Below w.heap.size w W)=>qI3 (bs d.name) W hn64 (hI.below h));have FA:=hid (fun W (h:Below w.heap.size w W)=>qI2 (bs d.name) W hn64 (hI.below h));have OA:=hid (fun W (h:Below w.heap.size w W)=>qX9 d.op W (hI.1.below h));have EA:=hid (fun W (h:Below w.heap.size w W)=>qJ6 d.evr true W hw.2.2);rw[qA3]at NA FA;have S0:=qWE d w;dsimp only at S0;obtain⟨r,hr⟩:∃r,r=qAL d:=⟨_,rfl⟩;rw[<- hr];unfold qAL at hr;clear hI hw hn64
 cases h1:qBM d.name with
 | false =>
  rw[h1]at NA hr;obtain rfl:r=false:=hr;clear FA OA EA h1;unfold Dp.val
  go_enter Tryz.func101,Tryz.ntmps101
  go_wp2_with fail
  go_at_call 113
  generalize (w.alloc (.cells #[.string (bs d.name),.int .u8 d.op,.int .i64 d.evr.epoch,.string (bs d.evr.ver),.string (bs d.evr.rel)] 37))=W at *;generalize hn:w.heap.size=n at *;obtain⟨c0_0,c0_1,c0_2,c0_3,c0_4,l0,hB⟩:=id S0;refine (NA.out _ hB).mono ?_;rintro e1 w1 ⟨rfl,h⟩;have S1:=qAT S0 h;clear S0 h c0_0 c0_1 c0_2 c0_3 c0_4 l0 hB;obtain⟨c0_0,c0_1,c0_2,c0_3,c0_4,l0,hB⟩:=id S1;go_wp2_with fail
  go_ret;exact⟨rfl,by rw[hn];exact hB⟩
 | true =>
  rw[h1]at NA hr
  cases h2:qJV d.op with
  | false =>
   rw[h2]at OA hr;obtain rfl:r=false:=hr;clear FA EA h1 h2;unfold Dp.val
   go_enter Tryz.func101,Tryz.ntmps101
   go_wp2_with fail
   go_at_call 113
   generalize (w.alloc (.cells #[.string (bs d.name),.int .u8 d.op,.int .i64 d.evr.epoch,.string (bs d.evr.ver),.string (bs d.evr.rel)] 37))=W at *;generalize hn:w.heap.size=n at *;obtain⟨c0_0,c0_1,c0_2,c0_3,c0_4,l0,hB⟩:=id S0;refine (NA.out _ hB).mono ?_;rintro e1 w1 ⟨rfl,h⟩;have S1:=qAT S0 h;clear S0 h c0_0 c0_1 c0_2 c0_3 c0_4 l0 hB;obtain⟨c0_0,c0_1,c0_2,c0_3,c0_4,l0,hB⟩:=id S1;go_wp2_with fail
   go_at_call 145
   refine (OA.out _ hB).mono ?_;rintro e2 w2 ⟨rfl,h⟩;have S2:=qAT S1 h;clear c0_0 c0_1 c0_2 c0_3 c0_4 l0 hB;clear S1 h;obtain⟨c0_0,c0_1,c0_2,c0_3,c0_4,l0,hB⟩:=id S2;go_wp2_with fail
   go_ret;exact⟨rfl,by rw[hn];exact hB⟩
  | true =>
   rw[h2]at OA hr;by_cases h3:d.op=0
   ·rw[if_pos h3]at hr;clear FA EA h1 h2;have h4:(d.op == 0)=true:=by simpa using h3
    have HR:=hid hr;unfold qDO at HR;clear hr h3;have q1:(bs d.evr.ver).toList=d.evr.ver:=qA3 _;have q2:(bs d.evr.rel).toList=d.evr.rel:=qA3 _;unfold Dp.val
    go_enter Tryz.func101,Tryz.ntmps101
    go_wp2_with fail
    go_at_call 113
    generalize (w.alloc (.cells #[.string (bs d.name),.int .u8 d.op,.int .i64 d.evr.epoch,.string (bs d.evr.ver),.string (bs d.evr.rel)] 37))=W at *;generalize hn:w.heap.size=n at *;obtain⟨c0_0,c0_1,c0_2,c0_3,c0_4,l0,hB⟩:=id S0;refine (NA.out _ hB).mono ?_;rintro e1 w1 ⟨rfl,h⟩;have S1:=qAT S0 h;clear S0 h c0_0 c0_1 c0_2 c0_3 c0_4 l0 hB;obtain⟨c0_0,c0_1,c0_2,c0_3,c0_4,l0,hB⟩:=id S1;go_wp2_with fail
    go_at_call 145
    refine (OA.out _ hB).mono ?_;rintro e2 w2 ⟨rfl,h⟩;have S2:=qAT S1 h;clear c0_0 c0_1 c0_2 c0_3 c0_4 l0 hB;clear S1 h;obtain⟨c0_0,c0_1,c0_2,c0_3,c0_4,l0,hB⟩:=id S2;go_wp2_with fail
    all_goals
     go_ret;exact⟨qA8 (by rw[HR.out];simp[*]),by rw[hn];exact hB⟩
   ·rw[if_neg h3]at hr;have h4:(d.op == 0)=false:=by simpa using h3
    cases h5:qCF d.name with
    | true =>
     rw[h5]at FA hr;obtain rfl:r=false:=hr;clear EA h1 h2 h5;unfold Dp.val
     go_enter Tryz.func101,Tryz.ntmps101
     go_wp2_with fail
     go_at_call 113
     generalize (w.alloc (.cells #[.string (bs d.name),.int .u8 d.op,.int .i64 d.evr.epoch,.string (bs d.evr.ver),.string (bs d.evr.rel)] 37))=W at *;generalize hn:w.heap.size=n at *;obtain⟨c0_0,c0_1,c0_2,c0_3,c0_4,l0,hB⟩:=id S0;refine (NA.out _ hB).mono ?_;rintro e1 w1 ⟨rfl,h⟩;have S1:=qAT S0 h;clear S0 h c0_0 c0_1 c0_2 c0_3 c0_4 l0 hB;obtain⟨c0_0,c0_1,c0_2,c0_3,c0_4,l0,hB⟩:=id S1;go_wp2_with fail
     go_at_call 145
     refine (OA.out _ hB).mono ?_;rintro e2 w2 ⟨rfl,h⟩;have S2:=qAT S1 h;clear c0_0 c0_1 c0_2 c0_3 c0_4 l0 hB;clear S1 h;obtain⟨c0_0,c0_1,c0_2,c0_3,c0_4,l0,hB⟩:=id S2;go_wp2_with fail
     go_at_call 114
     refine (FA.out _ hB).mono ?_;rintro e3 w3 ⟨rfl,h⟩;have S3:=qAT S2 h;clear c0_0 c0_1 c0_2 c0_3 c0_4 l0 hB;clear S2 h;obtain⟨c0_0,c0_1,c0_2,c0_3,c0_4,l0,hB⟩:=id S3;go_wp2_with fail
     go_ret;exact⟨rfl,by rw[hn];exact hB⟩
    | false =>
     rw[h5]at FA hr;have hr2:r=mayB d.evr true:=hr;rw[<- hr2]at EA;clear hr hr2 h1 h2 h5;unfold Evr.val at EA;unfold Dp.val
     go_enter Tryz.func101,Tryz.ntmps101
     go_wp2_with fail
     go_at_call 113
     generalize (w.alloc (.cells #[.string (bs d.name),.int .u8 d.op,.int .i64 d.evr.epoch,.string (bs d.evr.ver),.string (bs d.evr.rel)] 37))=W at *;generalize hn:w.heap.size=n at *;obtain⟨c0_0,c0_1,c0_2,c0_3,c0_4,l0,hB⟩:=id S0;refine (NA.out _ hB).mono ?_;rintro e1 w1 ⟨rfl,h⟩;have S1:=qAT S0 h;clear S0 h c0_0 c0_1 c0_2 c0_3 c0_4 l0 hB;obtain⟨c0_0,c0_1,c0_2,c0_3,c0_4,l0,hB⟩:=id S1;go_wp2_with fail
     go_at_call 145
     refine (OA.out _ hB).mono ?_;rintro e2 w2 ⟨rfl,h⟩;have S2:=qAT S1 h;clear c0_0 c0_1 c0_2 c0_3 c0_4 l0 hB;clear S1 h;obtain⟨c0_0,c0_1,c0_2,c0_3,c0_4,l0,hB⟩:=id S2;go_wp2_with fail
     go_at_call 114
     refine (FA.out _ hB).mono ?_;rintro e3 w3 ⟨rfl,h⟩;have S3:=qAT S2 h;clear c0_0 c0_1 c0_2 c0_3 c0_4 l0 hB;clear S2 h;obtain⟨c0_0,c0_1,c0_2,c0_3,c0_4,l0,hB⟩:=id S3;go_wp2_with fail
     go_at_call 115
     refine (EA.out _ hB).mono ?_;rintro e4 w4 ⟨rfl,h⟩;have S4:=qAT S3 h;clear c0_0 c0_1 c0_2 c0_3 c0_4 l0 hB;clear S3 h;obtain⟨c0_0,c0_1,c0_2,c0_3,c0_4,l0,hB⟩:=id S4;go_wp2_with fail
     go_ret;exact⟨rfl,by rw[hn];exact hB⟩
theorem qGG (d:Dp)(w:World)(hw:d.wf) : Calls Tryz.prog 170 #[d.val] w fun e w'=>e=.returned (.bool (qAL d))/\Below w.heap.size w w' := by
 have hn64:(bs d.name).size<=maxLen:=by rw[qAO];exact hw.1
 have NA:=hid (fun W (h:Below w.heap.size w W)=>qHP (bs d.name) W hn64);have FA:=hid (fun W (h:Below w.heap.size w W)=>qHO (bs d.name) W hn64);have OA:=hid (fun W (h:Below w.heap.size w W)=>qZ0 d.op W);have EA:=hid (fun W (h:Below w.heap.size w W)=>qHQ d.evr true W hw.2.2);rw[qA3]at NA FA;have S0:=qWE d w;dsimp only at S0;obtain⟨r,hr⟩:∃r,r=qAL d:=⟨_,rfl⟩;rw[<- hr];unfold qAL at hr;clear hw hn64
 cases h1:qBM d.name with
 | false =>
  rw[h1]at NA hr;obtain rfl:r=false:=hr;clear FA OA EA h1;unfold Dp.val
  go_enter Tryz.func170,Tryz.ntmps170
  go_wp2_with fail
  go_at_call 125
  generalize (w.alloc (.cells #[.string (bs d.name),.int .u8 d.op,.int .i64 d.evr.epoch,.string (bs d.evr.ver),.string (bs d.evr.rel)] 37))=W at *;generalize hn:w.heap.size=n at *;obtain⟨c0_0,c0_1,c0_2,c0_3,c0_4,l0,hB⟩:=id S0;refine (NA.out _ hB).mono ?_;rintro e1 w1 ⟨rfl,h⟩;have S1:=qAT S0 h;clear S0 h c0_0 c0_1 c0_2 c0_3 c0_4 l0 hB;obtain⟨c0_0,c0_1,c0_2,c0_3,c0_4,l0,hB⟩:=id S1;go_wp2_with fail
  go_ret;exact⟨rfl,by rw[hn];exact hB⟩
 | true =>
  rw[h1]at NA hr
  cases h2:qJV d.op with
  | false =>
   rw[h2]at OA hr;obtain rfl:r=false:=hr;clear FA EA h1 h2;unfold Dp.val
   go_enter Tryz.func170,Tryz.ntmps170
   go_wp2_with fail
   go_at_call 125
   generalize (w.alloc (.cells #[.string (bs d.name),.int .u8 d.op,.int .i64 d.evr.epoch,.string (bs d.evr.ver),.string (bs d.evr.rel)] 37))=W at *;generalize hn:w.heap.size=n at *;obtain⟨c0_0,c0_1,c0_2,c0_3,c0_4,l0,hB⟩:=id S0;refine (NA.out _ hB).mono ?_;rintro e1 w1 ⟨rfl,h⟩;have S1:=qAT S0 h;clear S0 h c0_0 c0_1 c0_2 c0_3 c0_4 l0 hB;obtain⟨c0_0,c0_1,c0_2,c0_3,c0_4,l0,hB⟩:=id S1;go_wp2_with fail
   go_at_call 196
   refine (OA.out _ hB).mono ?_;rintro e2 w2 ⟨rfl,h⟩;have S2:=qAT S1 h;clear c0_0 c0_1 c0_2 c0_3 c0_4 l0 hB;clear S1 h;obtain⟨c0_0,c0_1,c0_2,c0_3,c0_4,l0,hB⟩:=id S2;go_wp2_with fail
   go_ret;exact⟨rfl,by rw[hn];exact hB⟩
  | true =>
   rw[h2]at OA hr;by_cases h3:d.op=0
   ·rw[if_pos h3]at hr;clear FA EA h1 h2;have h4:(d.op == 0)=true:=by simpa using h3
    have HR:=hid hr;unfold qDO at HR;clear hr h3;have q1:(bs d.evr.ver).toList=d.evr.ver:=qA3 _;have q2:(bs d.evr.rel).toList=d.evr.rel:=qA3 _;unfold Dp.val
    go_enter Tryz.func170,Tryz.ntmps170
    go_wp2_with fail
    go_at_call 125
    generalize (w.alloc (.cells #[.string (bs d.name),.int .u8 d.op,.int .i64 d.evr.epoch,.string (bs d.evr.ver),.string (bs d.evr.rel)] 37))=W at *;generalize hn:w.heap.size=n at *;obtain⟨c0_0,c0_1,c0_2,c0_3,c0_4,l0,hB⟩:=id S0;refine (NA.out _ hB).mono ?_;rintro e1 w1 ⟨rfl,h⟩;have S1:=qAT S0 h;clear S0 h c0_0 c0_1 c0_2 c0_3 c0_4 l0 hB;obtain⟨c0_0,c0_1,c0_2,c0_3,c0_4,l0,hB⟩:=id S1;go_wp2_with fail
    go_at_call 196
    refine (OA.out _ hB).mono ?_;rintro e2 w2 ⟨rfl,h⟩;have S2:=qAT S1 h;clear c0_0 c0_1 c0_2 c0_3 c0_4 l0 hB;clear S1 h;obtain⟨c0_0,c0_1,c0_2,c0_3,c0_4,l0,hB⟩:=id S2;go_wp2_with fail
    all_goals
     go_ret;exact⟨qA8 (by rw[HR.out];simp[*]),by rw[hn];exact hB⟩
   ·rw[if_neg h3]at hr;have h4:(d.op == 0)=false:=by simpa using h3
    cases h5:qCF d.name with
    | true =>
     rw[h5]at FA hr;obtain rfl:r=false:=hr;clear EA h1 h2 h5;unfold Dp.val
     go_enter Tryz.func170,Tryz.ntmps170
     go_wp2_with fail
     go_at_call 125
     generalize (w.alloc (.cells #[.string (bs d.name),.int .u8 d.op,.int .i64 d.evr.epoch,.string (bs d.evr.ver),.string (bs d.evr.rel)] 37))=W at *;generalize hn:w.heap.size=n at *;obtain⟨c0_0,c0_1,c0_2,c0_3,c0_4,l0,hB⟩:=id S0;refine (NA.out _ hB).mono ?_;rintro e1 w1 ⟨rfl,h⟩;have S1:=qAT S0 h;clear S0 h c0_0 c0_1 c0_2 c0_3 c0_4 l0 hB;obtain⟨c0_0,c0_1,c0_2,c0_3,c0_4,l0,hB⟩:=id S1;go_wp2_with fail
     go_at_call 196
     refine (OA.out _ hB).mono ?_;rintro e2 w2 ⟨rfl,h⟩;have S2:=qAT S1 h;clear c0_0 c0_1 c0_2 c0_3 c0_4 l0 hB;clear S1 h;obtain⟨c0_0,c0_1,c0_2,c0_3,c0_4,l0,hB⟩:=id S2;go_wp2_with fail
     go_at_call 126
     refine (FA.out _ hB).mono ?_;rintro e3 w3 ⟨rfl,h⟩;have S3:=qAT S2 h;clear c0_0 c0_1 c0_2 c0_3 c0_4 l0 hB;clear S2 h;obtain⟨c0_0,c0_1,c0_2,c0_3,c0_4,l0,hB⟩:=id S3;go_wp2_with fail
     go_ret;exact⟨rfl,by rw[hn];exact hB⟩
    | false =>
     rw[h5]at FA hr;have hr2:r=mayB d.evr true:=hr;rw[<- hr2]at EA;clear hr hr2 h1 h2 h5;unfold Evr.val at EA;unfold Dp.val
     go_enter Tryz.func170,Tryz.ntmps170
     go_wp2_with fail
     go_at_call 125
     generalize (w.alloc (.cells #[.string (bs d.name),.int .u8 d.op,.int .i64 d.evr.epoch,.string (bs d.evr.ver),.string (bs d.evr.rel)] 37))=W at *;generalize hn:w.heap.size=n at *;obtain⟨c0_0,c0_1,c0_2,c0_3,c0_4,l0,hB⟩:=id S0;refine (NA.out _ hB).mono ?_;rintro e1 w1 ⟨rfl,h⟩;have S1:=qAT S0 h;clear S0 h c0_0 c0_1 c0_2 c0_3 c0_4 l0 hB;obtain⟨c0_0,c0_1,c0_2,c0_3,c0_4,l0,hB⟩:=id S1;go_wp2_with fail
     go_at_call 196
     refine (OA.out _ hB).mono ?_;rintro e2 w2 ⟨rfl,h⟩;have S2:=qAT S1 h;clear c0_0 c0_1 c0_2 c0_3 c0_4 l0 hB;clear S1 h;obtain⟨c0_0,c0_1,c0_2,c0_3,c0_4,l0,hB⟩:=id S2;go_wp2_with fail
     go_at_call 126
     refine (FA.out _ hB).mono ?_;rintro e3 w3 ⟨rfl,h⟩;have S3:=qAT S2 h;clear c0_0 c0_1 c0_2 c0_3 c0_4 l0 hB;clear S2 h;obtain⟨c0_0,c0_1,c0_2,c0_3,c0_4,l0,hB⟩:=id S3;go_wp2_with fail
     go_at_call 127
     refine (EA.out _ hB).mono ?_;rintro e4 w4 ⟨rfl,h⟩;have S4:=qAT S3 h;clear c0_0 c0_1 c0_2 c0_3 c0_4 l0 hB;clear S3 h;obtain⟨c0_0,c0_1,c0_2,c0_3,c0_4,l0,hB⟩:=id S4;go_wp2_with fail
     go_ret;exact⟨rfl,by rw[hn];exact hB⟩
