/- R10Prov -/
import Derived.Test.YteobmfpbgnmffaaGreatDoorT41
set_option linter.unusedVariables false
set_option maxHeartbeats 16000000
set_option maxRecDepth 100000
open Go.Lib (hid)
set_option linter.unusedSimpArgs false
namespace Go.Proofs.YteobmfpbgnmffaaGreatDoor
open Go.RowKit Go.Shelf
def qDX (pb db b o n c i9:Nat)(a d:Dp)(mt:Bool)(i:Nat)(v:Value)(W:World) : Prop := match i with
 |0=>v=.pointer (some ⟨pb,6,none⟩)
 |1=>v=.slice (some ⟨b,o,none⟩) n c
 |2=>v=.int .i64 (i9:Int)
 |3=>v=.pointer (some ⟨b,o+i9 * 5,none⟩)
 |4=>v=.pointer (some ⟨b,o+i9 * 5,none⟩)
 |5=>v=.string (bs a.name)
 |6=>v=.pointer (some ⟨db,0,none⟩)
 |7=>v=.string (bs d.name)
 | 8|9=>v=.bool true
 |10=>v=.pointer (some ⟨pb,6,none⟩)
 |11=>v=.slice (some ⟨b,o,none⟩) n c
 |12=>v=.int .i64 (i9:Int)
 |13=>v=.pointer (some ⟨b,o+i9 * 5,none⟩)
 |14=>v=.agg #[.string (bs a.name),.int .u8 a.op,.int .i64 a.evr.epoch,.string (bs a.evr.ver),.string (bs a.evr.rel)]
 |15=>v=.agg #[.string (bs d.name),.int .u8 d.op,.int .i64 d.evr.epoch,.string (bs d.evr.ver),.string (bs d.evr.rel)]
 |16=>v=.bool mt
 |17=>v=.bool mt
 | _=>False
theorem qOT (pb db b o n c i9:Nat)(a d:Dp)(mt:Bool):∀i v w w',qDX pb db b o n c i9 a d mt i v w->Below w.heap.size w w'->qDX pb db b o n c i9 a d mt i v w' := by
 intro i v w w' h hb
 match i,h with
 |0,h|1,h|2,h|3,h|4,h|5,h|6,h|7,h|8,h|9,h|10,h|11,h|12,h|13,h|14,h|15,h|16,h|17,h=>exact h
 | (k+18),h=>exact h.elim
def qF9 (pb db b o n c i9:Nat)(a d:Dp)(mt:Bool)(i:Nat)(v:Value)(W:World) : Prop := match i with
 |0=>v=.pointer (some ⟨pb,6,none⟩)
 |1=>v=.slice (some ⟨b,o,none⟩) n c
 |2=>v=.int .i64 (i9:Int)
 |3=>v=.pointer (some ⟨b,o+i9 * 5,none⟩)
 |4=>v=.pointer (some ⟨b,o+i9 * 5,none⟩)
 |5=>v=.string (bs a.name)
 |6=>v=.pointer (some ⟨db,0,none⟩)
 |7=>v=.string (bs d.name)
 | 8|9=>v=.bool false
 | 10|11|12|13|14|15|16=>v=undef
 |17=>v=.bool false
 | _=>False
theorem qOS (pb db b o n c i9:Nat)(a d:Dp)(mt:Bool):∀i v w w',qF9 pb db b o n c i9 a d mt i v w->Below w.heap.size w w'->qF9 pb db b o n c i9 a d mt i v w' := by
 intro i v w w' h hb
 match i,h with
 |0,h|1,h|2,h|3,h|4,h|5,h|6,h|7,h|8,h|9,h|10,h|11,h|12,h|13,h|14,h|15,h|16,h|17,h=>exact h
 | (k+18),h=>exact h.elim
def qFA (pb db b o n c i9:Nat)(s:ByteArray)(d:Dp)(mt:Bool)(i:Nat)(v:Value)(W:World) : Prop := match i with
 |0=>v=.pointer (some ⟨db,1,none⟩)
 |1=>v=.int .u8 d.op
 | 2|3=>v=.bool true
 |4=>v=.pointer (some ⟨pb,14,none⟩)
 |5=>v=.slice (some ⟨b,o,none⟩) n c
 |6=>v=.int .i64 (i9:Int)
 |7=>v=.pointer (some ⟨b,o+i9,none⟩)
 |8=>v=.string s
 |9=>v=.pointer (some ⟨db,0,none⟩)
 |10=>v=.string (bs d.name)
 |11=>v=.bool mt
 |12=>v=.bool mt
 | _=>False
theorem qOV (pb db b o n c i9:Nat)(s:ByteArray)(d:Dp)(mt:Bool):∀i v w w',qFA pb db b o n c i9 s d mt i v w->Below w.heap.size w w'->qFA pb db b o n c i9 s d mt i v w' := by
 intro i v w w' h hb
 match i,h with
 |0,h|1,h|2,h|3,h|4,h|5,h|6,h|7,h|8,h|9,h|10,h|11,h|12,h=>exact h
 | (k+13),h=>exact h.elim
def qLX (pb db b o n c i9:Nat)(s:ByteArray)(d:Dp)(mt:Bool)(i:Nat)(v:Value)(W:World) : Prop := match i with
 |0=>v=.pointer (some ⟨db,1,none⟩)
 |1=>v=.int .u8 d.op
 | 2|3=>v=.bool false
 | 4|5|6|7|8|9|10|11=>v=undef
 |12=>v=.bool false
 | _=>False
theorem qOU (pb db b o n c i9:Nat)(s:ByteArray)(d:Dp)(mt:Bool):∀i v w w',qLX pb db b o n c i9 s d mt i v w->Below w.heap.size w w'->qLX pb db b o n c i9 s d mt i v w' := by
 intro i v w w' h hb
 match i,h with
 |0,h|1,h|2,h|3,h|4,h|5,h|6,h|7,h|8,h|9,h|10,h|11,h|12,h=>exact h
 | (k+13),h=>exact h.elim
theorem qLW (p:Pk)(d:Dp)(w:World)(hL:p.Laid w.heap.size w)(sm:p.small)(ho:p.evr.ok)(hd:d.evr.ok) : Calls Tryz.prog 154 #[p.val,d.val] w fun r w'=>r=.returned (.bool (qC7 p d))/\Below w.heap.size w w' := by
 have FR:=hid hL.prov;have FF:=hid hL.files;have SM:=hid sm;have NDA:=hid (fun W=>qK2 p d W ho hd);have MEA:=hid (fun (a:Dp) (ha:a.evr.ok) W=>qK7 a d W ha hd);obtain⟨n,hn⟩:∃n,n=p.prov.length:=⟨_,rfl⟩;have HN:=hid hn;obtain⟨fn,hfn⟩:∃n,n=p.files.length:=⟨_,rfl⟩;have HFN:=hid hfn;obtain⟨r,hr⟩:∃r,r=qC7 p d:=⟨_,rfl⟩;rw[<- hr];have RR:=hid hr;have R1:=hid (fun (h:qAS p.ownD d=true)=>show r=true by rw[hr];unfold qC7;rw[h];rfl);have R2:=hid (fun (h1:qAS p.ownD d=false) (h2:p.prov.any (fun a=>qAS a d)=false) (h3:(p.files.any fun s=>d.op == 0 && ((bs d.name).toList == s.toList))=false)=>show r=false by
  rw[hr];unfold qC7;rw[h1,h2,Bool.false_or,Bool.false_or]
  cases hop:d.op == 0 with
  | false=>rfl
  | true=>rw[hop]at h3;simpa using h3)
 have R3:=hid (fun (h:p.prov.any (fun a=>qAS a d)=true)=>show r=true by rw[hr];unfold qC7;rw[h];simp);have R4:=hid (fun (k:Nat) (hk:k<p.files.length) (h:(d.op == 0 && ((bs d.name).toList == p.files[k].toList))=true)=>show r=true by
  rw[Bool.and_eq_true]at h;rw[hr];unfold qC7;rw[h.1,show (p.files.any fun s=>(bs d.name).toList == s.toList)=true from List.any_eq_true.2 ⟨_,List.getElem_mem hk,h.2⟩];simp)
 have hn1:n<=1000000:=by have:=sm.provN;omega
 have hfn1:fn<=1000000:=by have:=sm.filesN;omega
 have PA0:=hid ((PkAt.new w p).calls (bR.alloc lR (.cells #[.string (bs d.name),.int .u8 d.op,.int .i64 d.evr.epoch,.string (bs d.evr.ver),.string (bs d.evr.rel)] 37)));have EA0:=hid (DpAt.new (w.alloc (.cells #[.string p.name,.int .i64 p.epoch,.string p.ver,.string p.rel,.int .u8 p.arch,.string p.vendor,.slice p.provA p.prov.length p.provC,.slice p.reqA p.req.length p.reqC,.slice p.conA p.con.length p.conC,.slice p.obsA p.obs.length p.obsC,.slice p.rcmA p.rcm.length p.rcmC,.slice p.supA p.sup.length p.supC,.slice p.sugA p.sug.length p.sugC,.slice p.enhA p.enh.length p.enhC,.slice p.filesA p.files.length p.filesC] 28)) d);rw[show (w.alloc (.cells #[.string p.name,.int .i64 p.epoch,.string p.ver,.string p.rel,.int .u8 p.arch,.string p.vendor,.slice p.provA p.prov.length p.provC,.slice p.reqA p.req.length p.reqC,.slice p.conA p.con.length p.conC,.slice p.obsA p.obs.length p.obsC,.slice p.rcmA p.rcm.length p.rcmC,.slice p.supA p.sup.length p.supC,.slice p.sugA p.sug.length p.sugC,.slice p.enhA p.enh.length p.enhC,.slice p.filesA p.files.length p.filesC] 28)).heap.size=w.heap.size+1 by simp]at EA0;have B0:=hid (((Below.refl w.heap.size w).alloc lR (.cells #[.string p.name,.int .i64 p.epoch,.string p.ver,.string p.rel,.int .u8 p.arch,.string p.vendor,.slice p.provA p.prov.length p.provC,.slice p.reqA p.req.length p.reqC,.slice p.conA p.con.length p.conC,.slice p.obsA p.obs.length p.obsC,.slice p.rcmA p.rcm.length p.rcmC,.slice p.supA p.sup.length p.supC,.slice p.sugA p.sug.length p.sugC,.slice p.enhA p.enh.length p.enhC,.slice p.filesA p.files.length p.filesC] 28)).alloc (by simp) (.cells #[.string (bs d.name),.int .u8 d.op,.int .i64 d.evr.epoch,.string (bs d.evr.ver),.string (bs d.evr.rel)] 37));obtain⟨mo,hmo⟩:∃m,qAS p.ownD d=m:=⟨_,rfl⟩;rw[hmo]at NDA;have HMO:=hid hmo;clear hL sm ho hr hmo hd;unfold Pk.val at NDA |-;unfold Dp.val at NDA MEA |-
 go_enter Tryz.func154,Tryz.ntmps154
 go_wp2_with fail
 generalize (w.alloc (.cells #[.string p.name,.int .i64 p.epoch,.string p.ver,.string p.rel,.int .u8 p.arch,.string p.vendor,.slice p.provA p.prov.length p.provC,.slice p.reqA p.req.length p.reqC,.slice p.conA p.con.length p.conC,.slice p.obsA p.obs.length p.obsC,.slice p.rcmA p.rcm.length p.rcmC,.slice p.supA p.sup.length p.supC,.slice p.sugA p.sug.length p.sugC,.slice p.enhA p.enh.length p.enhC,.slice p.filesA p.files.length p.filesC] 28)).alloc (.cells #[.string (bs d.name),.int .u8 d.op,.int .i64 d.evr.epoch,.string (bs d.evr.ver),.string (bs d.evr.rel)] 37)=V at *;obtain⟨_,c0,c1,c2,c3,c4,c5,c6,c7,c8,c9,c10,c11,c12,c13,c14⟩:=PA0.out;obtain⟨_,d0,d1,d2,d3,d4⟩:=EA0.out;go_wp2_with fail
 go_at_call 180
 refine (NDA.out V).mono ?_;rintro en w1 ⟨rfl,h⟩;have B1:=hid (B0.out.trans (h.mono B0.out.size));have PA1:=hid (PA0.out.calls h);have EA1:=hid (EA0.out.calls h);clear h NDA PA0 EA0 B0 c0 c1 c2 c3 c4 c5 c6 c7 c8 c9 c10 c11 c12 c13 c14 d0 d1 d2 d3 d4;cases mo
 rotate_left
 ·obtain rfl:r=true:=R1.out HMO.out;go_wp2_with fail
  go_ret;exact⟨rfl,B1.out⟩
 have R2:=hid (R2.out HMO.out);clear R1 HMO hn hfn;go_wp2_with fail
 go_loopw[5] (fun iv wr => ∃i9:Nat,i9<=n/\iv=.int .i64 (i9:Int)/\Hid (∀j (hj:j<p.prov.length),j<i9->qAS p.prov[j] d=false)/\PkAt wr w.heap.size p/\DpAt wr (w.heap.size+1) d/\Below w.heap.size w wr) (fun iv _=>n - (intOf iv).toNat)
 case atStart=>exact⟨0,by omega,rfl,hid (by intro j hj h;omega),PA1.out,EA1.out,B1.out⟩
 case round =>
  obtain⟨i9,hk,rfl,HS,hP,hE,hB⟩:=hrel;rename World=>wr
  have PA:=hid hP;have EA:=hid hE;have HB:=hid hB;have PL:=hid hP.1;have c6:=hP.2.2.2.2.2.2.2.1;rw[<- HN.out]at c6;clear hP hE;by_cases hlt:i9<n
  ·have hkl:i9<p.prov.length:=by have:=HN.out;omega
   obtain⟨b,o,hA,hb,e0,e1,e2,e3,e4⟩:=((FR.out.below hB).more hB.size).dep_at hkl;have DC:=hid (fun W (hb:Below wr.heap.size wr W)=>show W.cell? ⟨b,o+i9 * 5,none⟩=some (.string (bs p.prov[i9].name))/\W.cell? ⟨b,o+i9 * 5+1,none⟩=some (.int .u8 p.prov[i9].op)/\W.cell? ⟨b,o+i9 * 5+2,none⟩=some (.int .i64 p.prov[i9].evr.epoch)/\W.cell? ⟨b,o+i9 * 5+3,none⟩=some (.string (bs p.prov[i9].evr.ver))/\W.cell? ⟨b,o+i9 * 5+4,none⟩=some (.string (bs p.prov[i9].evr.rel)) from⟨(hb.cell (World.block_lt_of_cell? wr _ e0)).trans e0,(hb.cell (World.block_lt_of_cell? wr _ e1)).trans e1,(hb.cell (World.block_lt_of_cell? wr _ e2)).trans e2,(hb.cell (World.block_lt_of_cell? wr _ e3)).trans e3,(hb.cell (World.block_lt_of_cell? wr _ e4)).trans e4⟩);have ME:=hid (fun W=>MEA.out p.prov[i9] (qFP (SM.out.prov _ (List.getElem_mem hkl))) W);have HYS:=hid (fun (h:qAS p.prov[i9] d=true)=>R3.out (List.any_eq_true.2 ⟨_,List.getElem_mem hkl,h⟩));have HNX:=hid (fun (h:qAS p.prov[i9] d=false)=>show ∀j (hj:j<p.prov.length),j<i9+1->qAS p.prov[j] d=false from fun j hj hjk=>by
    by_cases e:j=i9
    ·subst e;exact h
    ·exact HS.out j hj (by omega))
   have IK:=hid (show (0:Int)<=(i9:Int)/\(i9:Int)<(n:Int) by omega);rw[hA]at c6;obtain⟨c,hcc⟩:∃c,c=p.provC:=⟨_,rfl⟩;rw[<- hcc]at c6;have C6:=hid c6;generalize p.prov[i9]=a at *;obtain⟨mt,hm⟩:∃m,m=qET a d:=⟨_,rfl⟩;rw[<- hm]at ME;have i1:=IK.out.2;have HMN:=hid (show qAS a d=((a.name == d.name) && mt) by rw[hm];rfl);clear hm hcc hA hb hkl e0 e1 e2 e3 e4 hB;by_cases hnm:a.name=d.name
   ·have Q1:=hid (show ((bs a.name).toList == (bs d.name).toList)=true by rw[qA3,qA3];exact beq_iff_eq.2 hnm);have Q2:=hid (show (bs a.name).toList=(bs d.name).toList by rw[qA3,qA3];exact hnm);have HMN:=hid (show qAS a d=mt by rw[HMN.out,show (a.name == d.name)=true from beq_iff_eq.2 hnm];rfl);clear hnm;go_wp2_with fail
    clear c6 i1;refine qA6 (PP:=qDX w.heap.size (w.heap.size+1) b o n c i9 a d mt) 18 rfl (by kernel_rfl) (by kernel_rfl) (by decide) (by decide) (qOT w.heap.size (w.heap.size+1) b o n c i9 a d mt) (fun ii=>match ii with|0=>u17|1=>u18|2=>u19|3=>u20|4=>u21|5=>u22|6=>u23|7=>u24|8=>u25|9=>u26|10=>u27|11=>u28|12=>u29|13=>u30|14=>u31|15=>u32|16=>u33|17=>u34|_=>undef) (by simp[qA4,gQ]) ?_ ?_
    ·intro i o vs W hi ho he hBW K hK;simp only[gT,qA4,gQ]at hK |-;have EW:=hid (EA.out.calls hBW);have C6W:=hid ((hBW.cell (p:=⟨w.heap.size,6,none⟩) PL.out).trans C6.out);have DW:=hid (DC.out W hBW);obtain rfl|rfl|rfl|rfl|rfl|rfl|rfl|rfl|rfl|rfl|rfl|rfl|rfl|rfl|rfl|rfl|rfl|rfl:=c18_ hi<;>simp only[gE]at ho<;>subst ho
     ·rw[if_pos (by rfl)];simp only[gQ]at hK;have HK:=hid hK;clear hK he hi hBW;go_simp;exact HK.out _ _ (by simp[qDX]) bR
     ·have e0:vs 0=_:=dq he 0;rw[e0]at hK |-;rw[if_pos (by rfl)];simp only[gQ]at hK;have HK:=hid hK;clear hK he hi hBW;have cc:=C6W.out;go_simp;exact HK.out _ _ rfl bR
     ·rw[if_pos (by rfl)];simp only[gQ]at hK;have HK:=hid hK;clear hK he hi hBW;go_simp;exact HK.out _ _ (by first|rfl|simp[qDX]) bR
     ·have e1:vs 1=_:=dq he 1;rw[e1]at hK |-;have e2:vs 2=_:=dq he 2;rw[e2]at hK |-;rw[if_pos (by rfl)];simp only[gQ]at hK;have HK:=hid hK;clear hK he hi hBW;have i0:=IK.out.1;have i1:=IK.out.2;go_simp;exact HK.out _ _ (by simp[qDX]) bR
     ·have e3:vs 3=_:=dq he 3;rw[e3]at hK |-;rw[if_pos (by rfl)];simp only[gQ]at hK;have HK:=hid hK;clear hK he hi hBW;go_simp;exact HK.out _ _ (by simp[qDX]) bR
     ·have e4:vs 4=_:=dq he 4;rw[e4]at hK |-;rw[if_pos (by rfl)];simp only[gQ]at hK;have HK:=hid hK;clear hK he hi hBW;obtain⟨f0,f1,f2,f3,f4⟩:=DW.out;go_simp;exact HK.out _ _ rfl bR
     ·rw[if_pos (by rfl)];simp only[gQ]at hK;have HK:=hid hK;clear hK he hi hBW;go_simp;exact HK.out _ _ (by simp[qDX]) bR
     ·have e6:vs 6=_:=dq he 6;rw[e6]at hK |-;rw[if_pos (by rfl)];simp only[gQ]at hK;have HK:=hid hK;clear hK he hi hBW;obtain⟨_,f0,f1,f2,f3,f4⟩:=EW.out;go_simp;exact HK.out _ _ rfl bR
     ·have e5:vs 5=_:=dq he 5;rw[e5]at hK |-;have e7:vs 7=_:=dq he 7;rw[e7]at hK |-;rw[if_pos (by rfl)];simp only[gQ]at hK;have HK:=hid hK;clear hK he hi hBW;have q1:=Q1.out;have q2:=Q2.out;go_simp;exact HK.out _ _ (by simp[qDX,q1,q2]) bR
     ·have e8:vs 8=_:=dq he 8;rw[e8]at hK |-;rw[if_pos (by rfl)];simp only[gQ]at hK;have HK:=hid hK;clear hK he hi hBW;go_simp;exact HK.out _ _ (by first|rfl|simp[qDX]) bR
     ·have e9:vs 9=_:=gd he 9;rw[e9]at hK |-;rw[if_pos (by rfl)];simp only[gQ]at hK;have HK:=hid hK;clear hK he hi hBW;go_simp;exact HK.out _ _ (by simp[qDX]) bR
     ·have e10:vs 10=_:=dq he 10;rw[e10]at hK |-;have e9:vs 9=_:=gd he 9;rw[e9]at hK |-;rw[if_pos (by rfl)];simp only[gQ]at hK;have HK:=hid hK;clear hK he hi hBW;have cc:=C6W.out;go_simp;exact HK.out _ _ rfl bR
     ·have e9:vs 9=_:=gd he 9;rw[e9]at hK |-;rw[if_pos (by rfl)];simp only[gQ]at hK;have HK:=hid hK;clear hK he hi hBW;go_simp;exact HK.out _ _ (by first|rfl|simp[qDX]) bR
     ·have e11:vs 11=_:=dq he 11;rw[e11]at hK |-;have e12:vs 12=_:=dq he 12;rw[e12]at hK |-;have e9:vs 9=_:=gd he 9;rw[e9]at hK |-;rw[if_pos (by rfl)];simp only[gQ]at hK;have HK:=hid hK;clear hK he hi hBW;have i0:=IK.out.1;have i1:=IK.out.2;go_simp;exact HK.out _ _ (by simp[qDX]) bR
     ·have e13:vs 13=_:=dq he 13;rw[e13]at hK |-;have e9:vs 9=_:=gd he 9;rw[e9]at hK |-;rw[if_pos (by rfl)];simp only[gQ]at hK;have HK:=hid hK;clear hK he hi hBW;obtain⟨f0,f1,f2,f3,f4⟩:=DW.out;go_simp;exact HK.out _ _ rfl bR
     ·have e9:vs 9=_:=gd he 9;rw[e9]at hK |-;rw[if_pos (by rfl)];simp only[gQ]at hK;have HK:=hid hK;clear hK he hi hBW;obtain⟨_,f0,f1,f2,f3,f4⟩:=EW.out;go_simp;exact HK.out _ _ rfl bR
     ·have e14:vs 14=_:=dq he 14;rw[e14]at hK |-;have e15:vs 15=_:=dq he 15;rw[e15]at hK |-;have e9:vs 9=_:=gd he 9;rw[e9]at hK |-;rw[if_pos (by rfl)];simp only[gQ]at hK;have HK:=hid hK;clear hK he hi hBW;go_simp;go_at_call 191
      refine (ME.out W).mono ?_;rintro en w9 ⟨rfl,h⟩;go_simp;exact HK.out _ _ rfl h
     ·have e9:vs 9=_:=dq he 9;rw[e9]at hK |-;have e16:vs 16=_:=dq he 16;rw[e16]at hK |-;rw[if_pos (by rfl)];simp only[gQ]at hK;have HK:=hid hK;clear hK he hi hBW;go_simp;exact HK.out _ _ (by simp[qDX]) bR
    ·intro vs W2 hall hBW;have e17:vs 17=.bool mt:=(hall 17 (by decide):qDX w.heap.size (w.heap.size+1) b o n c i9 a d mt 17 (vs 17) W2);simp only[gT,qA4,qAB,qAA,gP];rw[e17];generalize vs 0=y0,vs 1=y1,vs 2=y2,vs 3=y3,vs 4=y4,vs 5=y5,vs 6=y6,vs 7=y7,vs 8=y8,vs 9=y9,vs 10=y10,vs 11=y11,vs 12=y12,vs 13=y13,vs 14=y14,vs 15=y15,vs 16=y16;have BW2:=hid (HB.out.trans (hBW.mono HB.out.size));have PW2:=hid (PA.out.calls hBW);have EW2:=hid (EA.out.calls hBW);clear hall hBW e17;cases mt
     ·go_wp2_with fail
      go_roundw
      case rel=>exact⟨i9+1,by omega,by go_num,hid (HNX.out (by rw[HMN.out])),PW2.out,EW2.out,BW2.out⟩
      case measure=>simp[intOf];omega
     ·obtain rfl:r=true:=HYS.out (by rw[HMN.out]);go_wp2_with fail
      go_ret;exact⟨rfl,BW2.out⟩
   ·have Q1:=hid (show ((bs a.name).toList == (bs d.name).toList)=false by rw[qA3,qA3];exact beq_eq_false_iff_ne.2 hnm);have Q2:=hid (show ¬(bs a.name).toList=(bs d.name).toList by rw[qA3,qA3];exact hnm);have HMN:=hid (show qAS a d=false by rw[HMN.out,show (a.name == d.name)=false from beq_eq_false_iff_ne.2 hnm];rfl);clear hnm;go_wp2_with fail
    clear c6 i1;refine qA6 (PP:=qF9 w.heap.size (w.heap.size+1) b o n c i9 a d mt) 18 rfl (by kernel_rfl) (by kernel_rfl) (by decide) (by decide) (qOS w.heap.size (w.heap.size+1) b o n c i9 a d mt) (fun ii=>match ii with|0=>u17|1=>u18|2=>u19|3=>u20|4=>u21|5=>u22|6=>u23|7=>u24|8=>u25|9=>u26|10=>u27|11=>u28|12=>u29|13=>u30|14=>u31|15=>u32|16=>u33|17=>u34|_=>undef) (by simp[qA4,gQ]) ?_ ?_
    ·intro i o vs W hi ho he hBW K hK;simp only[gT,qA4,gQ]at hK |-;have EW:=hid (EA.out.calls hBW);have C6W:=hid ((hBW.cell (p:=⟨w.heap.size,6,none⟩) PL.out).trans C6.out);have DW:=hid (DC.out W hBW);obtain rfl|rfl|rfl|rfl|rfl|rfl|rfl|rfl|rfl|rfl|rfl|rfl|rfl|rfl|rfl|rfl|rfl|rfl:=c18_ hi<;>simp only[gE]at ho<;>subst ho
     ·rw[if_pos (by rfl)];simp only[gQ]at hK;have HK:=hid hK;clear hK he hi hBW;go_simp;exact HK.out _ _ (by simp[qF9]) bR
     ·have e0:vs 0=_:=dq he 0;rw[e0]at hK |-;rw[if_pos (by rfl)];simp only[gQ]at hK;have HK:=hid hK;clear hK he hi hBW;have cc:=C6W.out;go_simp;exact HK.out _ _ rfl bR
     ·rw[if_pos (by rfl)];simp only[gQ]at hK;have HK:=hid hK;clear hK he hi hBW;go_simp;exact HK.out _ _ (by first|rfl|simp[qF9]) bR
     ·have e1:vs 1=_:=dq he 1;rw[e1]at hK |-;have e2:vs 2=_:=dq he 2;rw[e2]at hK |-;rw[if_pos (by rfl)];simp only[gQ]at hK;have HK:=hid hK;clear hK he hi hBW;have i0:=IK.out.1;have i1:=IK.out.2;go_simp;exact HK.out _ _ (by simp[qF9]) bR
     ·have e3:vs 3=_:=dq he 3;rw[e3]at hK |-;rw[if_pos (by rfl)];simp only[gQ]at hK;have HK:=hid hK;clear hK he hi hBW;go_simp;exact HK.out _ _ (by simp[qF9]) bR
     ·have e4:vs 4=_:=dq he 4;rw[e4]at hK |-;rw[if_pos (by rfl)];simp only[gQ]at hK;have HK:=hid hK;clear hK he hi hBW;obtain⟨f0,f1,f2,f3,f4⟩:=DW.out;go_simp;exact HK.out _ _ rfl bR
     ·rw[if_pos (by rfl)];simp only[gQ]at hK;have HK:=hid hK;clear hK he hi hBW;go_simp;exact HK.out _ _ (by simp[qF9]) bR
     ·have e6:vs 6=_:=dq he 6;rw[e6]at hK |-;rw[if_pos (by rfl)];simp only[gQ]at hK;have HK:=hid hK;clear hK he hi hBW;obtain⟨_,f0,f1,f2,f3,f4⟩:=EW.out;go_simp;exact HK.out _ _ rfl bR
     ·have e5:vs 5=_:=dq he 5;rw[e5]at hK |-;have e7:vs 7=_:=dq he 7;rw[e7]at hK |-;rw[if_pos (by rfl)];simp only[gQ]at hK;have HK:=hid hK;clear hK he hi hBW;have q1:=Q1.out;have q2:=Q2.out;go_simp;exact HK.out _ _ (by simp[qF9,q1,q2]) bR
     ·have e8:vs 8=_:=dq he 8;rw[e8]at hK |-;rw[if_pos (by rfl)];simp only[gQ]at hK;have HK:=hid hK;clear hK he hi hBW;go_simp;exact HK.out _ _ (by first|rfl|simp[qF9]) bR
     ·have e9:vs 9=_:=gd he 9;rw[e9]at hK |-;refine wN bF ?_;exact hK _ _ rfl bR
     ·have e10:vs 10=_:=dq he 10;rw[e10]at hK |-;have e9:vs 9=_:=gd he 9;rw[e9]at hK |-;refine wN bF ?_;exact hK _ _ rfl bR
     ·have e9:vs 9=_:=gd he 9;rw[e9]at hK |-;refine wN bF ?_;exact hK _ _ rfl bR
     ·have e11:vs 11=_:=dq he 11;rw[e11]at hK |-;have e12:vs 12=_:=dq he 12;rw[e12]at hK |-;have e9:vs 9=_:=gd he 9;rw[e9]at hK |-;refine wN bF ?_;exact hK _ _ rfl bR
     ·have e13:vs 13=_:=dq he 13;rw[e13]at hK |-;have e9:vs 9=_:=gd he 9;rw[e9]at hK |-;refine wN bF ?_;exact hK _ _ rfl bR
     ·have e9:vs 9=_:=gd he 9;rw[e9]at hK |-;refine wN bF ?_;exact hK _ _ rfl bR
     ·have e14:vs 14=_:=dq he 14;rw[e14]at hK |-;have e15:vs 15=_:=dq he 15;rw[e15]at hK |-;have e9:vs 9=_:=gd he 9;rw[e9]at hK |-;refine wN bF ?_;exact hK _ _ rfl bR
     ·have e9:vs 9=_:=dq he 9;rw[e9]at hK |-;have e16:vs 16=_:=dq he 16;rw[e16]at hK |-;rw[if_pos (by rfl)];simp only[gQ]at hK;have HK:=hid hK;clear hK he hi hBW;go_simp;exact HK.out _ _ (by simp[qF9]) bR
    ·intro vs W2 hall hBW;have e17:vs 17=.bool false:=(hall 17 (by decide):qF9 w.heap.size (w.heap.size+1) b o n c i9 a d mt 17 (vs 17) W2);simp only[gT,qA4,qAB,qAA,gP];rw[e17];generalize vs 0=y0,vs 1=y1,vs 2=y2,vs 3=y3,vs 4=y4,vs 5=y5,vs 6=y6,vs 7=y7,vs 8=y8,vs 9=y9,vs 10=y10,vs 11=y11,vs 12=y12,vs 13=y13,vs 14=y14,vs 15=y15,vs 16=y16;have BW2:=hid (HB.out.trans (hBW.mono HB.out.size));have PW2:=hid (PA.out.calls hBW);have EW2:=hid (EA.out.calls hBW);clear hall hBW e17;go_wp2_with fail
     go_roundw
     case rel=>exact⟨i9+1,by omega,by go_num,hid (HNX.out (by rw[HMN.out])),PW2.out,EW2.out,BW2.out⟩
     case measure=>simp[intOf];omega
  ·obtain rfl:i9=n:=by omega
   have i1:¬(i9:Int)<(i9:Int):=by omega
   have R2:=hid (R2.out (by
    rw[List.any_eq_false];intro x hx;obtain⟨j,hj,rfl⟩:=List.getElem_of_mem hx;rw[HS.out j hj (by have:=HN.out;omega)];simp))
   have PA2:=hid PA.out;have EA2:=hid EA.out;have B2:=hid HB.out;clear HS HB PA EA R3 FR MEA PL;go_wp2_with fail
   go_loopw[6] (fun iv wr => ∃i9:Nat,i9<=fn/\iv=.int .i64 (i9:Int)/\Hid (∀j (hj:j<p.files.length),j<i9->(d.op == 0 && ((bs d.name).toList == p.files[j].toList))=false)/\PkAt wr w.heap.size p/\DpAt wr (w.heap.size+1) d/\Below w.heap.size w wr) (fun iv _=>fn - (intOf iv).toNat)
   case atStart=>exact⟨0,by omega,rfl,hid (by intro j hj h;omega),PA2.out,EA2.out,B2.out⟩
   case round =>
    obtain⟨i9,hk,rfl,HS,hP,hE,hB⟩:=hrel;rename World=>wr
    have PA:=hid hP;have EA:=hid hE;have HB:=hid hB;have PL:=hid hP.1;have c14:=hP.2.2.2.2.2.2.2.2.2.2.2.2.2.2.2;rw[<- HFN.out]at c14;clear hP hE;by_cases hlt:i9<fn
    ·have hkl:i9<p.files.length:=by have:=HFN.out;omega
     obtain⟨b,fo,hA,hb,hce⟩:=((FF.out.below hB).more hB.size).cells hkl;have e0:=hce 0 _ rfl;rw[Nat.mul_one,Nat.add_zero]at e0;have SE:=hid e0;have SL:=hid (World.block_lt_of_cell? wr _ e0);have HYS:=hid (R4.out i9 hkl);have HNX:=hid (fun (h:(d.op == 0 && ((bs d.name).toList == p.files[i9].toList))=false)=>show ∀j (hj:j<p.files.length),j<i9+1->(d.op == 0 && ((bs d.name).toList == p.files[j].toList))=false from fun j hj hjk=>by
      by_cases e:j=i9
      ·subst e;exact h
      ·exact HS.out j hj (by omega))
     have IK:=hid (show (0:Int)<=(i9:Int)/\(i9:Int)<(fn:Int) by omega);rw[hA]at c14;obtain⟨c,hcc⟩:∃c,c=p.filesC:=⟨_,rfl⟩;rw[<- hcc]at c14;have C14:=hid c14;generalize p.files[i9]=s at *;have i1:=IK.out.2;clear hcc hA hb hkl e0 hce hB;obtain⟨mt,hm⟩:∃m,(s.toList == (bs d.name).toList)=m:=⟨_,rfl⟩;have HMN:=hid (show ((bs d.name).toList == s.toList)=mt by rw[<- hm,Bool.eq_iff_iff,beq_iff_eq,beq_iff_eq];exact eq_comm);have Q1:=hid hm;have Q2:=hid (show decide (s.toList=(bs d.name).toList)=mt by rw[<- hm,Bool.eq_iff_iff,decide_eq_true_eq,beq_iff_eq]);clear hm;by_cases hop:d.op=0
     ·have OPE:=hid hop;have OPB:=hid (show (d.op == 0)=true from beq_iff_eq.2 hop);clear hop;go_wp2_with fail
      clear c14 i1;refine qA6 (PP:=qFA w.heap.size (w.heap.size+1) b fo fn c i9 s d mt) 13 rfl (by kernel_rfl) (by kernel_rfl) (by decide) (by decide) (qOV w.heap.size (w.heap.size+1) b fo fn c i9 s d mt) (fun ii=>match ii with|0=>u42|1=>u43|2=>u44|3=>u45|4=>u46|5=>u47|6=>u48|7=>u49|8=>u50|9=>u51|10=>u52|11=>u53|12=>u54|_=>undef) (by simp[qA4,gQ]) ?_ ?_
      ·intro i o vs W hi ho he hBW K hK;simp only[gT,qA4,gQ]at hK |-;have EW:=hid (EA.out.calls hBW);have C14W:=hid ((hBW.cell (p:=⟨w.heap.size,14,none⟩) PL.out).trans C14.out);have SW:=hid ((hBW.cell (p:=⟨b,fo+i9,none⟩) SL.out).trans SE.out);obtain rfl|rfl|rfl|rfl|rfl|rfl|rfl|rfl|rfl|rfl|rfl|rfl|rfl:=c13_ hi<;>simp only[gE]at ho<;>subst ho
       ·rw[if_pos (by rfl)];simp only[gQ]at hK;have HK:=hid hK;clear hK he hi hBW;go_simp;exact HK.out _ _ (by simp[qFA]) bR
       ·have e0:vs 0=_:=dq he 0;rw[e0]at hK |-;rw[if_pos (by rfl)];simp only[gQ]at hK;have HK:=hid hK;clear hK he hi hBW;obtain⟨_,f0,f1,f2,f3,f4⟩:=EW.out;go_simp;exact HK.out _ _ rfl bR
       ·have e1:vs 1=_:=dq he 1;rw[e1]at hK |-;rw[if_pos (by rfl)];simp only[gQ]at hK;have HK:=hid hK;clear hK he hi hBW;go_simp;exact HK.out (.bool (d.op == 0)) _ (show Value.bool (d.op == 0)=_ by rw[OPB.out]) bR
       ·have e2:vs 2=_:=dq he 2;rw[e2]at hK |-;rw[if_pos (by rfl)];simp only[gQ]at hK;have HK:=hid hK;clear hK he hi hBW;go_simp;exact HK.out _ _ (by first|rfl|simp[qFA]) bR
       ·have e3:vs 3=_:=gd he 3;rw[e3]at hK |-;rw[if_pos (by rfl)];simp only[gQ]at hK;have HK:=hid hK;clear hK he hi hBW;go_simp;exact HK.out _ _ (by simp[qFA]) bR
       ·have e4:vs 4=_:=dq he 4;rw[e4]at hK |-;have e3:vs 3=_:=gd he 3;rw[e3]at hK |-;rw[if_pos (by rfl)];simp only[gQ]at hK;have HK:=hid hK;clear hK he hi hBW;have cc:=C14W.out;go_simp;exact HK.out _ _ rfl bR
       ·have e3:vs 3=_:=gd he 3;rw[e3]at hK |-;rw[if_pos (by rfl)];simp only[gQ]at hK;have HK:=hid hK;clear hK he hi hBW;go_simp;exact HK.out _ _ (by first|rfl|simp[qFA]) bR
       ·have e5:vs 5=_:=dq he 5;rw[e5]at hK |-;have e6:vs 6=_:=dq he 6;rw[e6]at hK |-;have e3:vs 3=_:=gd he 3;rw[e3]at hK |-;rw[if_pos (by rfl)];simp only[gQ]at hK;have HK:=hid hK;clear hK he hi hBW;have i0:=IK.out.1;have i1:=IK.out.2;go_simp;exact HK.out _ _ (by simp[qFA]) bR
       ·have e7:vs 7=_:=dq he 7;rw[e7]at hK |-;have e3:vs 3=_:=gd he 3;rw[e3]at hK |-;rw[if_pos (by rfl)];simp only[gQ]at hK;have HK:=hid hK;clear hK he hi hBW;have cc:=SW.out;go_simp;exact HK.out _ _ rfl bR
       ·have e3:vs 3=_:=gd he 3;rw[e3]at hK |-;rw[if_pos (by rfl)];simp only[gQ]at hK;have HK:=hid hK;clear hK he hi hBW;go_simp;exact HK.out _ _ (by simp[qFA]) bR
       ·have e9:vs 9=_:=dq he 9;rw[e9]at hK |-;have e3:vs 3=_:=gd he 3;rw[e3]at hK |-;rw[if_pos (by rfl)];simp only[gQ]at hK;have HK:=hid hK;clear hK he hi hBW;obtain⟨_,f0,f1,f2,f3,f4⟩:=EW.out;go_simp;exact HK.out _ _ rfl bR
       ·have e8:vs 8=_:=dq he 8;rw[e8]at hK |-;have e10:vs 10=_:=dq he 10;rw[e10]at hK |-;have e3:vs 3=_:=gd he 3;rw[e3]at hK |-;rw[if_pos (by rfl)];simp only[gQ]at hK;have HK:=hid hK;clear hK he hi hBW;have q1:=Q1.out;have q2:=Q2.out;go_simp;exact HK.out _ _ (by simp[qFA,q1,q2]) bR
       ·have e3:vs 3=_:=dq he 3;rw[e3]at hK |-;have e11:vs 11=_:=dq he 11;rw[e11]at hK |-;rw[if_pos (by rfl)];simp only[gQ]at hK;have HK:=hid hK;clear hK he hi hBW;go_simp;exact HK.out _ _ (by simp[qFA]) bR
      ·intro vs W2 hall hBW;have e12:vs 12=.bool mt:=(hall 12 (by decide):qFA w.heap.size (w.heap.size+1) b fo fn c i9 s d mt 12 (vs 12) W2);simp only[gT,qA4,qAB,qAA,gP];rw[e12];generalize vs 0=y0,vs 1=y1,vs 2=y2,vs 3=y3,vs 4=y4,vs 5=y5,vs 6=y6,vs 7=y7,vs 8=y8,vs 9=y9,vs 10=y10,vs 11=y11;have BW2:=hid (HB.out.trans (hBW.mono HB.out.size));have PW2:=hid (PA.out.calls hBW);have EW2:=hid (EA.out.calls hBW);clear hall hBW e12;cases mt
       ·go_wp2_with fail
        go_roundw
        case rel=>exact⟨i9+1,by omega,by go_num,hid (HNX.out (by rw[HMN.out,OPB.out,Bool.true_and])),PW2.out,EW2.out,BW2.out⟩
        case measure=>simp[intOf];omega
       ·obtain rfl:r=true:=HYS.out (by rw[HMN.out,OPB.out,Bool.true_and]);go_wp2_with fail
        go_ret;exact⟨rfl,BW2.out⟩
     ·have OPE:=hid hop;have OPB:=hid (show (d.op == 0)=false from beq_eq_false_iff_ne.2 hop);clear hop;go_wp2_with fail
      clear c14 i1;refine qA6 (PP:=qLX w.heap.size (w.heap.size+1) b fo fn c i9 s d mt) 13 rfl (by kernel_rfl) (by kernel_rfl) (by decide) (by decide) (qOU w.heap.size (w.heap.size+1) b fo fn c i9 s d mt) (fun ii=>match ii with|0=>u42|1=>u43|2=>u44|3=>u45|4=>u46|5=>u47|6=>u48|7=>u49|8=>u50|9=>u51|10=>u52|11=>u53|12=>u54|_=>undef) (by simp[qA4,gQ]) ?_ ?_
      ·intro i o vs W hi ho he hBW K hK;simp only[gT,qA4,gQ]at hK |-;have EW:=hid (EA.out.calls hBW);have C14W:=hid ((hBW.cell (p:=⟨w.heap.size,14,none⟩) PL.out).trans C14.out);have SW:=hid ((hBW.cell (p:=⟨b,fo+i9,none⟩) SL.out).trans SE.out);obtain rfl|rfl|rfl|rfl|rfl|rfl|rfl|rfl|rfl|rfl|rfl|rfl|rfl:=c13_ hi<;>simp only[gE]at ho<;>subst ho
       ·rw[if_pos (by rfl)];simp only[gQ]at hK;have HK:=hid hK;clear hK he hi hBW;go_simp;exact HK.out _ _ (by simp[qLX]) bR
       ·have e0:vs 0=_:=dq he 0;rw[e0]at hK |-;rw[if_pos (by rfl)];simp only[gQ]at hK;have HK:=hid hK;clear hK he hi hBW;obtain⟨_,f0,f1,f2,f3,f4⟩:=EW.out;go_simp;exact HK.out _ _ rfl bR
       ·have e1:vs 1=_:=dq he 1;rw[e1]at hK |-;rw[if_pos (by rfl)];simp only[gQ]at hK;have HK:=hid hK;clear hK he hi hBW;go_simp;exact HK.out (.bool (d.op == 0)) _ (show Value.bool (d.op == 0)=_ by rw[OPB.out]) bR
       ·have e2:vs 2=_:=dq he 2;rw[e2]at hK |-;rw[if_pos (by rfl)];simp only[gQ]at hK;have HK:=hid hK;clear hK he hi hBW;go_simp;exact HK.out _ _ (by first|rfl|simp[qLX]) bR
       ·have e3:vs 3=_:=gd he 3;rw[e3]at hK |-;refine wN bF ?_;exact hK _ _ rfl bR
       ·have e4:vs 4=_:=dq he 4;rw[e4]at hK |-;have e3:vs 3=_:=gd he 3;rw[e3]at hK |-;refine wN bF ?_;exact hK _ _ rfl bR
       ·have e3:vs 3=_:=gd he 3;rw[e3]at hK |-;refine wN bF ?_;exact hK _ _ rfl bR
       ·have e5:vs 5=_:=dq he 5;rw[e5]at hK |-;have e6:vs 6=_:=dq he 6;rw[e6]at hK |-;have e3:vs 3=_:=gd he 3;rw[e3]at hK |-;refine wN bF ?_;exact hK _ _ rfl bR
       ·have e7:vs 7=_:=dq he 7;rw[e7]at hK |-;have e3:vs 3=_:=gd he 3;rw[e3]at hK |-;refine wN bF ?_;exact hK _ _ rfl bR
       ·have e3:vs 3=_:=gd he 3;rw[e3]at hK |-;refine wN bF ?_;exact hK _ _ rfl bR
       ·have e9:vs 9=_:=dq he 9;rw[e9]at hK |-;have e3:vs 3=_:=gd he 3;rw[e3]at hK |-;refine wN bF ?_;exact hK _ _ rfl bR
       ·have e8:vs 8=_:=dq he 8;rw[e8]at hK |-;have e10:vs 10=_:=dq he 10;rw[e10]at hK |-;have e3:vs 3=_:=gd he 3;rw[e3]at hK |-;refine wN bF ?_;exact hK _ _ rfl bR
       ·have e3:vs 3=_:=dq he 3;rw[e3]at hK |-;have e11:vs 11=_:=dq he 11;rw[e11]at hK |-;rw[if_pos (by rfl)];simp only[gQ]at hK;have HK:=hid hK;clear hK he hi hBW;go_simp;exact HK.out _ _ (by simp[qLX]) bR
      ·intro vs W2 hall hBW;have e12:vs 12=.bool false:=(hall 12 (by decide):qLX w.heap.size (w.heap.size+1) b fo fn c i9 s d mt 12 (vs 12) W2);simp only[gT,qA4,qAB,qAA,gP];rw[e12];generalize vs 0=y0,vs 1=y1,vs 2=y2,vs 3=y3,vs 4=y4,vs 5=y5,vs 6=y6,vs 7=y7,vs 8=y8,vs 9=y9,vs 10=y10,vs 11=y11;have BW2:=hid (HB.out.trans (hBW.mono HB.out.size));have PW2:=hid (PA.out.calls hBW);have EW2:=hid (EA.out.calls hBW);clear hall hBW e12;go_wp2_with fail
       go_roundw
       case rel=>exact⟨i9+1,by omega,by go_num,hid (HNX.out (by rw[OPB.out,Bool.false_and])),PW2.out,EW2.out,BW2.out⟩
       case measure=>simp[intOf];omega
    ·obtain rfl:i9=fn:=by omega
     have i1:¬(i9:Int)<(i9:Int):=by omega
     obtain rfl:r=false:=R2.out (by
      rw[List.any_eq_false];intro x hx;obtain⟨j,hj,rfl⟩:=List.getElem_of_mem hx;rw[HS.out j hj (by have:=HFN.out;omega)];simp)
     go_wp2_with fail
     go_ret;exact⟨rfl,HB.out⟩
