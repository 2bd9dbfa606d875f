/- R10 -/
import Derived.Test.YteobmfpbgnmffaaGreatDoorT38
import Derived.Test.YteobmfpbgnmffaaGreatDoorT17
set_option linter.unusedVariables false
set_option maxHeartbeats 16000000
set_option maxRecDepth 100000
open Go.Lib (hid)
set_option linter.unusedSimpArgs false
namespace Go.Proofs.YteobmfpbgnmffaaGreatDoor
open Go.RowKit Go.Shelf
theorem qP0 (a:Int)(w:World) : Calls Tryz.prog 128 #[.int .u8 a] w fun e w'=>e=.returned (.string (qIX a))/\Below w.heap.size w w' := by
 by_cases h1:a=1
 ·subst h1
  go_enter Tryz.func128,Tryz.ntmps128
  go_wp2
  go_ret;exact⟨rfl,Below.refl _ _⟩
 by_cases h2:a=2
 ·subst h2
  go_enter Tryz.func128,Tryz.ntmps128
  go_wp2
  go_ret;exact⟨rfl,Below.refl _ _⟩
 by_cases h3:a=3
 ·subst h3
  go_enter Tryz.func128,Tryz.ntmps128
  go_wp2
  go_ret;exact⟨rfl,Below.refl _ _⟩
 by_cases h4:a=4
 ·subst h4
  go_enter Tryz.func128,Tryz.ntmps128
  go_wp2
  go_ret;exact⟨rfl,Below.refl _ _⟩
 have b1:(a == 1)=false:=by simpa using h1
 have b2:(a == 2)=false:=by simpa using h2
 have b3:(a == 3)=false:=by simpa using h3
 have b4:(a == 4)=false:=by simpa using h4
 rw[qFE (decide_eq_false (by omega))];clear h1 h2 h3 h4
 go_enter Tryz.func128,Tryz.ntmps128
 go_wp2
 go_ret;exact⟨rfl,Below.refl _ _⟩
theorem qGB (l:List Dp)(A:Option Addr)(c:Nat)(w:World)(hl:Rd encD 5 w.heap.size A c l w)(hw:∀d∈l,d.wf) : Calls Tryz.prog 129 #[.slice A l.length c] w fun e w'=>e=.returned (.bool (decide (l.length<=32) && l.all qAL))/\Below w.heap.size w w' := by
 have L1:=hl.len;have H:=hid hl;have HW:=hid hw;obtain⟨n,hn⟩:∃n,n=l.length:=⟨_,rfl⟩;rw[<- hn]at L1 |-;have HN:=hid hn;obtain⟨r,hr⟩:∃r,r=(decide (n<=32) && l.all qAL):=⟨_,rfl⟩;rw[<- hr];have RR:=hid hr;clear hl hw hn hr;by_cases h32:32<n
 ·have h33:(32:Int)<(n:Int):=by omega
  obtain rfl:r=false:=by rw[RR.out,decide_eq_false (by omega)];rfl
  go_enter Tryz.func129,Tryz.ntmps129
  go_wp2_with fail
  go_ret;exact⟨rfl,Below.refl _ _⟩
 have h33:¬(32:Int)<(n:Int):=by omega
 have RL:=hid (show r=l.all qAL by rw[RR.out,decide_eq_true (by omega)];rfl)
 go_enter Tryz.func129,Tryz.ntmps129
 go_wp2_with fail
 go_loopw[3] (fun iv wr => ∃k:Nat,k<=n/\iv=.int .i64 (k:Int)/\Hid (∀j (hj:j<l.length),j<k->qAL l[j]=true)/\Below w.heap.size w wr) (fun iv _=>n - (intOf iv).toNat)
 case atStart=>exact⟨0,by omega,rfl,hid (by intro j hj h;omega),Below.refl _ _⟩
 case round =>
  obtain⟨k,hk,rfl,HS,hB⟩:=hrel;rename World=>wr
  have HB:=hid hB;by_cases hlt:k<n
  ·have hkl:k<l.length:=by have:=HN.out;omega
   obtain⟨b,o,hA,hb,e0,e1,e2,e3,e4⟩:=((H.out.below hB).more hB.size).dep_at hkl;have DM:=hid (qGG l[k] wr (HW.out _ (List.getElem_mem hkl)));have HNO:=hid (fun (h:qAL l[k]=false)=>show l.all qAL=false from List.all_eq_false.2 ⟨_,List.getElem_mem hkl,by simp[h]⟩);have HNX:=hid (fun (h:qAL l[k]=true)=>show ∀j (hj:j<l.length),j<k+1->qAL l[j]=true from fun j hj hjk=>by
    by_cases e:j=k
    ·subst e;exact h
    ·exact HS.out j hj (by omega))
   unfold Dp.val at DM;subst hA;generalize l[k]=d at *;obtain⟨m,hm⟩:∃m,m=qAL d:=⟨_,rfl⟩;have HMM:=hid hm;rw[<- hm]at DM;clear hm;cases m
   have i0:(0:Int)<=(k:Int):=by omega
   have i1:(k:Int)<(n:Int):=by omega
   clear hB hkl
   ·obtain rfl:r=false:=RL.out.trans (HNO.out HMM.out.symm);go_wp2_with fail
    go_at_call 170
    refine DM.out.mono ?_;rintro e w5 ⟨rfl,h5⟩;have HB5:=hid (HB.out.trans (h5.mono HB.out.size));clear h5;go_wp2_with fail
    go_ret;exact⟨rfl,HB5.out⟩
   ·have QQ:=hid (show qAL d=true from HMM.out.symm);go_wp2_with fail
    go_at_call 170
    refine DM.out.mono ?_;rintro e w5 ⟨rfl,h5⟩;have HB5:=hid (HB.out.trans (h5.mono HB.out.size));clear h5;go_wp2_with fail
    go_roundw
    case rel=>exact⟨k+1,by omega,by go_num,hid (HNX.out QQ.out),HB5.out⟩
    case measure=>simp[intOf];omega
  ·obtain rfl:k=n:=by omega
   have HE:=hid (show r=true by
    rw[RL.out];refine List.all_eq_true.2 fun x hx => ?_;obtain⟨j,hj,rfl⟩:=List.getElem_of_mem hx;exact HS.out j hj (by have:=HN.out;omega))
   obtain rfl:r=true:=HE.out;have i1:¬(k:Int)<(k:Int):=by omega
   go_wp2_with fail
   go_ret;exact⟨rfl,HB.out⟩
theorem qBB (wh:Int)(l:List RV)(A:Option Addr)(c:Nat)(w:World)(hl:RRow w.heap.size w A c l)(hp:∀t∈l,t.tree.parts<=1000000) : Calls Tryz.prog 130 #[.slice A l.length c,.int .u8 wh] w fun e w'=>e=.returned (.bool (decide (l.length<=32) && l.all (okR wh)))/\Below w.heap.size w w' := by
 have L1:=hl.1.len;have H:=hid hl;have HP:=hid hp;obtain⟨n,hn⟩:∃n,n=l.length:=⟨_,rfl⟩;rw[<- hn]at L1 |-;have HN:=hid hn;obtain⟨r,hr⟩:∃r,r=(decide (n<=32) && l.all (okR wh)):=⟨_,rfl⟩;rw[<- hr];have RR:=hid hr;clear hl hp hn hr;by_cases h32:32<n
 ·have h33:(32:Int)<(n:Int):=by omega
  obtain rfl:r=false:=by rw[RR.out,decide_eq_false (by omega)];rfl
  go_enter Tryz.func130,Tryz.ntmps130
  go_wp2_with fail
  go_ret;exact⟨rfl,Below.refl _ _⟩
 have h33:¬(32:Int)<(n:Int):=by omega
 have RL:=hid (show r=l.all (okR wh) by rw[RR.out,decide_eq_true (by omega)];rfl)
 go_enter Tryz.func130,Tryz.ntmps130
 go_wp2_with fail
 go_loopw[5] (fun iv wr => ∃k:Nat,k<=n/\iv=.int .i64 (k:Int)/\Hid (∀j (hj:j<l.length),j<k->(okR wh) l[j]=true)/\Below w.heap.size w wr) (fun iv _=>n - (intOf iv).toNat)
 case atStart=>exact⟨0,by omega,rfl,hid (by intro j hj h;omega),Below.refl _ _⟩
 case round =>
  obtain⟨k,hk,rfl,HS,hB⟩:=hrel;rename World=>wr
  have HB:=hid hB;by_cases hlt:k<n
  ·have hkl:k<l.length:=by have:=HN.out;omega
   obtain⟨b,o,hA,hb,e0,e1,e2,e3,e4,e5,e6⟩:=(H.out.below hB).at_ hkl
   have DM:=hid (qS5 l[k] wh wr (HP.out _ (List.getElem_mem hkl)) (((H.out.below hB).2 _ (List.getElem_mem hkl)).more hB.size));have HNO:=hid (fun (h:(okR wh) l[k]=false)=>show l.all (okR wh)=false from List.all_eq_false.2 ⟨_,List.getElem_mem hkl,by simp[h]⟩);have HNX:=hid (fun (h:(okR wh) l[k]=true)=>show ∀j (hj:j<l.length),j<k+1->(okR wh) l[j]=true from fun j hj hjk=>by
    by_cases e:j=k
    ·subst e;exact h
    ·exact HS.out j hj (by omega))
   unfold RV.val at DM;subst hA;generalize l[k]=T at *;obtain⟨m,hm⟩:∃m,m=mayE wh T:=⟨_,rfl⟩;have HMM:=hid (show okR wh T=(m == 0) by rw[hm];rfl);rw[<- hm]at DM;clear hm;by_cases hm0:m=0
   rotate_left
   have i0:(0:Int)<=(k:Int):=by omega
   have i1:(k:Int)<(n:Int):=by omega
   clear hB hkl
   ·obtain rfl:r=false:=RL.out.trans (HNO.out (by rw[HMM.out];simpa using hm0));have hm1:(m != 0)=true:=by simpa using hm0
    clear hm0;go_wp2_with fail
    go_at_call 171
    refine DM.out.mono ?_;rintro e w5 ⟨rfl,h5⟩;have HB5:=hid (HB.out.trans (h5.mono HB.out.size));clear h5;go_wp2_with fail
    go_ret;exact⟨rfl,HB5.out⟩
   ·have QQ:=hid (show okR wh T=true by rw[HMM.out,hm0];rfl);subst hm0;go_wp2_with fail
    go_at_call 171
    refine DM.out.mono ?_;rintro e w5 ⟨rfl,h5⟩;have HB5:=hid (HB.out.trans (h5.mono HB.out.size));clear h5;go_wp2_with fail
    go_roundw
    case rel=>exact⟨k+1,by omega,by go_num,hid (HNX.out QQ.out),HB5.out⟩
    case measure=>simp[intOf];omega
  ·obtain rfl:k=n:=by omega
   have HE:=hid (show r=true by
    rw[RL.out];refine List.all_eq_true.2 fun x hx => ?_;obtain⟨j,hj,rfl⟩:=List.getElem_of_mem hx;exact HS.out j hj (by have:=HN.out;omega))
   obtain rfl:r=true:=HE.out;have i1:¬(k:Int)<(k:Int):=by omega
   go_wp2_with fail
   go_ret;exact⟨rfl,HB.out⟩
theorem qS7 (p:Pk)(w:World)(hw:p.evr.wf) : Calls Tryz.prog 127 #[.agg #[.int .i64 p.epoch,.string p.ver,.string p.rel],.bool false] w fun r w'=>r=.returned (.bool (mayB p.evr false))/\Below w.heap.size w w' := by
 have h:=qHQ p.evr false w hw;unfold Evr.val Pk.evr at h;dsimp only at h;rw[qCE,qCE]at h;unfold Pk.evr;exact h
structure Pk.partsOk (p:Pk) : Prop where
 req:∀t∈p.req,t.tree.parts<=1000000
 rcm:∀t∈p.rcm,t.tree.parts<=1000000
 sug:∀t∈p.sug,t.tree.parts<=1000000
 con:∀t∈p.con,t.tree.parts<=1000000
 sup:∀t∈p.sup,t.tree.parts<=1000000
 enh:∀t∈p.enh,t.tree.parts<=1000000
theorem Pk.partsOk_of {p:Pk}(h:p.deepOk) : p.partsOk := ⟨fun t ht=>(h ⟨1,p.reqA,p.reqC,p.req⟩ (by simp[LS]) t ht).2,fun t ht=>(h ⟨1,p.rcmA,p.rcmC,p.rcm⟩ (by simp[LS]) t ht).2,fun t ht=>(h ⟨1,p.sugA,p.sugC,p.sug⟩ (by simp[LS]) t ht).2,fun t ht=>(h ⟨2,p.conA,p.conC,p.con⟩ (by simp[LS]) t ht).2,fun t ht=>(h ⟨3,p.supA,p.supC,p.sup⟩ (by simp[LS]) t ht).2,fun t ht=>(h ⟨3,p.enhA,p.enhC,p.enh⟩ (by simp[LS]) t ht).2⟩
theorem qOP (p:Pk)(w:World)(hL:p.Laid w.heap.size w)(hDP:p.partsOk) : Calls Tryz.prog 83 #[p.val] w fun e w'=>e=.returned (.bool (mayP p))/\Below w.heap.size w w' := by
 have n0:=hL.n0;have hw:p.evr.wf:=⟨hL.ep,by show p.ver.toList.length<=maxLen;rw[qA7];exact hL.n1,by show p.rel.toList.length<=maxLen;rw[qA7];exact hL.n2⟩;have NA:=hid (fun W=>qHP p.name W n0);have FA:=hid (fun W=>qHO p.name W n0);have EA:=hid (fun W=>qS7 p W hw);have AA:=hid (fun W=>qP0 p.arch W);have DP:=hid (fun W (h:Below w.heap.size w W)=>qGB p.prov p.provA p.provC W ((hL.prov.below h).more h.size) hL.provW);have DO:=hid (fun W (h:Below w.heap.size w W)=>qGB p.obs p.obsA p.obsC W ((hL.obs.below h).more h.size) hL.obsW);have Dreq:=hid (fun W (h:Below w.heap.size w W)=>qBB 1 p.req p.reqA p.reqC W ((hL.req.below h).more h.size) (hDP.req));have Drcm:=hid (fun W (h:Below w.heap.size w W)=>qBB 1 p.rcm p.rcmA p.rcmC W ((hL.rcm.below h).more h.size) (hDP.rcm));have Dsug:=hid (fun W (h:Below w.heap.size w W)=>qBB 1 p.sug p.sugA p.sugC W ((hL.sug.below h).more h.size) (hDP.sug));have Dcon:=hid (fun W (h:Below w.heap.size w W)=>qBB 2 p.con p.conA p.conC W ((hL.con.below h).more h.size) (hDP.con));have Dsup:=hid (fun W (h:Below w.heap.size w W)=>qBB 3 p.sup p.supA p.supC W ((hL.sup.below h).more h.size) (hDP.sup));have Denh:=hid (fun W (h:Below w.heap.size w W)=>qBB 3 p.enh p.enhA p.enhC W ((hL.enh.below h).more h.size) (hDP.enh));have FR:=hid hL.files;have FW:=hid hL.filesW;obtain⟨r1,h1⟩:∃r,r=qBM p.name.toList:=⟨_,rfl⟩;obtain⟨r2,h2⟩:∃r,r=qCF p.name.toList:=⟨_,rfl⟩;obtain⟨r3,h3⟩:∃r,r=mayB p.evr false:=⟨_,rfl⟩;obtain⟨r4,h4⟩:∃r,r=qFS p.arch:=⟨_,rfl⟩;obtain⟨r6,h6⟩:∃r,r=(decide (p.prov.length<=32) && p.prov.all qAL):=⟨_,rfl⟩;obtain⟨r7,h7⟩:∃r,r=(decide (p.obs.length<=32) && p.obs.all qAL):=⟨_,rfl⟩;obtain⟨s0,k0⟩:∃r,r=(decide (p.req.length<=32) && p.req.all (okR 1)):=⟨_,rfl⟩;obtain⟨s1,k1⟩:∃r,r=(decide (p.rcm.length<=32) && p.rcm.all (okR 1)):=⟨_,rfl⟩;obtain⟨s2,k2⟩:∃r,r=(decide (p.sug.length<=32) && p.sug.all (okR 1)):=⟨_,rfl⟩;obtain⟨s3,k3⟩:∃r,r=(decide (p.con.length<=32) && p.con.all (okR 2)):=⟨_,rfl⟩;obtain⟨s4,k4⟩:∃r,r=(decide (p.sup.length<=32) && p.sup.all (okR 3)):=⟨_,rfl⟩;obtain⟨s5,k5⟩:∃r,r=(decide (p.enh.length<=32) && p.enh.all (okR 3)):=⟨_,rfl⟩;have HM:=hid (show mayP p=(r1 && (!r2 && (r3 && (r4 && (decide (p.vendor.size<=64) && (r6 && (r7 && ((decide (p.files.length<=32) && p.files.all qCT) && (qH0 p.files && (s0 && (s3 && (s1 && (s4 && (s2 && s5)))))))))))))) by rw[h1,h2,h3,h4,h6,h7,k0,k1,k2,k3,k4,k5];unfold mayP LS qG4;simp only[List.all_cons,List.all_nil,Bool.and_true]);rw[<- h1]at NA;rw[<- h2]at FA;rw[<- h3]at EA;rw[<- h6]at DP;rw[<- h7]at DO;rw[<- k0]at Dreq;rw[<- k1]at Drcm;rw[<- k2]at Dsug;rw[<- k3]at Dcon;rw[<- k4]at Dsup;rw[<- k5]at Denh;obtain⟨sa,hsa⟩:∃s,s=qIX p.arch:=⟨_,rfl⟩;rw[<- hsa]at AA;have SAY:=hid (show r4=true->sa.toList≠[] from fun h=>by rw[hsa];exact qIY (h4 ▸ h));have SAN:=hid (show r4=false->sa=⟨#[]⟩ from fun h=>by rw[hsa];exact qFE (h4 ▸ h));obtain⟨mp,hmp⟩:∃m,m=mayP p:=⟨_,rfl⟩;rw[<- hmp]at HM |-;clear h1 h2 h3 h4 h6 h7 k0 k1 k2 k3 k4 k5 hsa hmp n0 hw;have P0:=hid (PkAt.new w p);have B0:=hid ((Below.refl w.heap.size w).alloc lR (.cells #[.string p.name,.int .i64 p.epoch,.string p.ver,.string p.rel,.int .u8 p.arch,.string p.vendor,.slice p.provA p.prov.length p.provC,.slice p.reqA p.req.length p.reqC,.slice p.conA p.con.length p.conC,.slice p.obsA p.obs.length p.obsC,.slice p.rcmA p.rcm.length p.rcmC,.slice p.supA p.sup.length p.supC,.slice p.sugA p.sug.length p.sugC,.slice p.enhA p.enh.length p.enhC,.slice p.filesA p.files.length p.filesC] 28));have HLL:=hid hL;clear hL hDP;unfold Pk.val;have HM9:=HM.out
 go_enter Tryz.func83,Tryz.ntmps83
 go_wp2_with fail
 clear HM9;go_at_call 125
 refine (NA.out _).mono ?_;rintro e wn1 ⟨rfl,h⟩;have P1:=hid (P0.out.calls h);have B1:=hid (B0.out.trans (h.mono B0.out.size));clear h P0;obtain⟨hl,c0,c1,c2,c3,c4,c5,c6,c7,c8,c9,c10,c11,c12,c13,c14⟩:=P1.out;cases r1
 ·go_wp2_with fail
  go_ret;exact⟨qA8 (by rw[HM.out];simp),B1.out⟩
 go_wp2_with fail
 clear hl c0 c1 c2 c3 c4 c5 c6 c7 c8 c9 c10 c11 c12 c13 c14;go_at_call 126
 refine (FA.out _).mono ?_;rintro e wn2 ⟨rfl,h⟩;have P2:=hid (P1.out.calls h);have B2:=hid (B1.out.trans (h.mono B1.out.size));clear h P1;obtain⟨hl,c0,c1,c2,c3,c4,c5,c6,c7,c8,c9,c10,c11,c12,c13,c14⟩:=P2.out;cases r2
 rotate_left
 ·go_wp2_with fail
  go_ret;exact⟨qA8 (by rw[HM.out];simp),B2.out⟩
 go_wp2_with fail
 clear hl c0 c1 c2 c3 c4 c5 c6 c7 c8 c9 c10 c11 c12 c13 c14;go_at_call 127
 refine (EA.out _).mono ?_;rintro e wn3 ⟨rfl,h⟩;have P3:=hid (P2.out.calls h);have B3:=hid (B2.out.trans (h.mono B2.out.size));clear h P2;obtain⟨hl,c0,c1,c2,c3,c4,c5,c6,c7,c8,c9,c10,c11,c12,c13,c14⟩:=P3.out;cases r3
 ·go_wp2_with fail
  go_ret;exact⟨qA8 (by rw[HM.out];simp),B3.out⟩
 go_wp2_with fail
 clear hl c0 c1 c2 c3 c4 c5 c6 c7 c8 c9 c10 c11 c12 c13 c14;go_at_call 128
 refine (AA.out _).mono ?_;rintro e wn4 ⟨rfl,h⟩;have P4:=hid (P3.out.calls h);have B4:=hid (B3.out.trans (h.mono B3.out.size));clear h P3;obtain⟨hl,c0,c1,c2,c3,c4,c5,c6,c7,c8,c9,c10,c11,c12,c13,c14⟩:=P4.out;cases r4
 ·have e0:=SAN.out rfl;clear SAN SAY;subst e0;go_wp2_with fail
  go_ret;exact⟨qA8 (by rw[HM.out];simp),B4.out⟩
 have s8:=SAY.out rfl;have s9:sa.toList.isEmpty=false:=by simpa using s8
 have s10:(sa.toList == [])=false:=by simpa using s8
 clear SAY SAN;by_cases hv:(64:Int)<(p.vendor.size:Int)
 ·have HV:=hid (show decide (p.vendor.size<=64)=false from decide_eq_false (by omega));go_wp2_with fail
  go_ret;exact⟨qA8 (by rw[HM.out,HV.out];simp),B4.out⟩
 have HV:=hid (show decide (p.vendor.size<=64)=true from decide_eq_true (by omega));obtain⟨n,hn⟩:∃n,n=p.files.length:=⟨_,rfl⟩;have HN:=hid hn;rw[<- hn]at c14;have HM:=hid (show mp=(decide (n<=32) && (p.files.all qCT && (qH0 p.files && (r6 && (r7 && (s0 && (s3 && (s1 && (s4 && (s2 && s5)))))))))) from by rw[HM.out,HV.out,<- hn];cases r6<;>cases r7<;>cases s0<;>simp[Bool.and_assoc]);clear hn;by_cases hf:(32:Int)<(n:Int)
 ·have HV:=hid (show decide (n<=32)=false from decide_eq_false (by omega));go_wp2_with fail
  go_ret;exact⟨qA8 (by rw[HM.out,HV.out];simp),B4.out⟩
 have HV:=hid (show decide (n<=32)=true from decide_eq_true (by omega));go_wp2_with fail
 clear hl s8 s9 s10 NA FA EA AA c0 c1 c2 c3 c4 c5 c6 c7 c8 c9 c10 c11 c12 c13 c14
 go_loopw[3] (fun iv wr => ∃k:Nat,k<=n/\iv=.int .i64 (k:Int)/\Hid ((∀j (hj:j<p.files.length),j<k->qCT p.files[j]=true) /\ ∀j (hj:j+1<p.files.length),j+1<k->Op.bytesLess p.files[j].toList p.files[j+1].toList=true)/\PkAt wr w.heap.size p/\Below w.heap.size w wr) (fun iv _=>n - (intOf iv).toNat)
 case atStart=>exact⟨0,by omega,rfl,hid ⟨by intro j hj h;omega,by intro j hj h;omega⟩,P4.out,B4.out⟩
 case round =>
  obtain⟨k,hk,rfl,HS,hP,hB⟩:=hrel;rename World=>wr
  have PA9:=hid hP;have HB:=hid hB;clear hP;obtain⟨hl,c0,c1,c2,c3,c4,c5,c6,c7,c8,c9,c10,c11,c12,c13,c14⟩:=PA9.out;rw[<- HN.out]at c14;by_cases hlt:k<n
  ·have hkl:k<p.files.length:=by have:=HN.out;omega
   obtain⟨b,oo,hA,hb,e1⟩:=(FR.out.below hB).at1 (f:=fun s=>Value.string s) (fun _=>rfl) hkl;have HF1:=hid (FW.out _ (List.getElem_mem hkl));have FL:=hid (fun W=>qN7 p.files[k] W HF1.out);have HNF:=hid (fun (h:qCF p.files[k].toList=false)=>show p.files.all qCT=false from List.all_eq_false.2 ⟨_,List.getElem_mem hkl,by unfold qCT;simp[h]⟩);have HYF:=hid (fun (h:qCF p.files[k].toList=true)=>show ∀j (hj:j<p.files.length),j<k+1->qCT p.files[j]=true from fun j hj hjk=>by
    by_cases e:j=k
    ·subst e;exact h
    ·exact HS.out.1 j hj (by omega))
   have C14R:=hid (show wr.cell? ⟨w.heap.size,14,none⟩=some (.slice (some ⟨b,oo,none⟩) n p.filesC) from by rw[<- hA];exact c14);have PL:=hid hl;have E1R:=hid e1;have HBL:=hid (show b<wr.heap.size from Nat.lt_of_lt_of_le hb HB.out.size);have IK:=hid (show (0:Int)<=(k:Int)/\(k:Int)<(n:Int) by omega);obtain⟨c,hcc⟩:∃c,c=p.filesC:=⟨_,rfl⟩;rw[<- hcc]at C14R;obtain⟨fb,hfb⟩:∃r,r=qCF p.files[k].toList:=⟨_,rfl⟩;rw[<- hfb]at FL HNF HYF;have i0:=IK.out.1;have i1:=IK.out.2;rw[hA,<- hcc]at c14;have HAH:=hid hA;clear hA hcc hfb hb hl c0 c1 c2 c3 c4 c5 c6 c7 c8 c9 c10 c11 c12 c13;cases fb
   ·have HNF:=hid (HNF.out rfl);clear HYF;generalize p.files[k]=f1 at *;go_wp2_with fail
    go_quiet ((go_at_call 126;exact (FL.out _).mono fun _ _ h=>⟨h.1,_,h.2.symm⟩));go_wp2_with fail
    go_ret;have h1:=HM.out;have h2:p.files.all qCT=false:=by simpa using HNF.out
    rw[HV.out,h2]at h1;exact⟨qA8 (by rw[h1];simp),Go.below_drewN HB.out _⟩
   have HYF:=hid (HYF.out rfl);clear HNF
   cases k with
   | zero =>
    have HNX:=hid (show Hid ((∀j (hj:j<p.files.length),j<1->qCT p.files[j]=true) /\ ∀j (hj:j+1<p.files.length),j+1<1->Op.bytesLess p.files[j].toList p.files[j+1].toList=true) from hid ⟨HYF.out,by intro j hj h;omega⟩);rw[show ((0:Nat):Int)=0 from rfl]at i0 i1 |-;have e1':=E1R.out;simp only[Nat.add_zero,Nat.zero_mul,Nat.zero_add]at e1';generalize p.files[0]=f1 at *;go_wp2_with fail
    go_quiet ((go_at_call 126;exact (FL.out _).mono fun _ _ h=>⟨h.1,_,h.2.symm⟩));go_wp2_with fail
    go_roundw
    case rel=>exact⟨1,by omega,by go_num,HNX.out,PA9.out.calls (Go.below_drewN bR _),Go.below_drewN HB.out _⟩
    case measure=>simp[intOf];omega
   | succ q =>
    obtain⟨b',o',hA',hb',e0⟩:=(FR.out.below hB).at1 (f:=fun s=>Value.string s) (fun _=>rfl) (show q<p.files.length by omega);rw[HAH.out]at hA';cases hA'
    have E0R:=hid e0;obtain⟨r,hr⟩:∃r,Op.bytesLess p.files[q].toList p.files[q+1].toList=r:=⟨_,rfl⟩;have HNX:=hid (fun (h:r=true)=>show Hid ((∀j (hj:j<p.files.length),j<q+1+1->qCT p.files[j]=true) /\ ∀j (hj:j+1<p.files.length),j+1<q+1+1->Op.bytesLess p.files[j].toList p.files[j+1].toList=true) from hid ⟨HYF.out,fun j hj hjk=>by
     by_cases e:j=q
     ·subst e;exact hr.trans h
     ·exact HS.out.2 j hj (by omega)⟩)
    have HNR:=hid (fun (h:r=false)=>qS8 (l:=p.files) (k:=q) hkl (hr.trans h));have IQ:=hid (show (0:Int)<=(q:Int)/\(q:Int)<(n:Int) by omega);have HL:=hid hr;generalize p.files[q]=f0 at *;generalize p.files[q+1]=f1 at *;have hq1:(((q+1:Nat)):Int)=(q:Int)+1:=by omega
    have wq:IntKind.i64.wrap ((q:Int)+1 - 1)=(q:Int):=by rw[show (q:Int)+1 - 1=(q:Int) by omega];exact IntWalk.i64_in _ (by omega)
    have wq0:(0:Int)<=(q:Int):=by omega
    have wq1:(q:Int)<(n:Int):=by omega
    have wq2:(0:Int)<(q:Int)+1:=by omega
    rw[hq1]at i0 i1 |-;clear hb';cases r
    ·have HNR:=hid (HNR.out rfl);clear HNX;go_wp2_with fail
     go_quiet ((go_at_call 126;exact (FL.out _).mono fun _ _ h=>⟨h.1,_,h.2.symm⟩));go_wp2_with fail
     go_ret;have h1:=HM.out;have h2:qH0 p.files=false:=by simpa using HNR.out
     rw[HV.out,h2]at h1;exact⟨qA8 (by rw[h1];simp),Go.below_drewN HB.out _⟩
    ·have HNX:=hid (HNX.out rfl).out;clear HNR;go_wp2_with fail
     go_quiet ((go_at_call 126;exact (FL.out _).mono fun _ _ h=>⟨h.1,_,h.2.symm⟩));go_wp2_with fail
     go_roundw
     case rel=>exact⟨q+1+1,by omega,by go_num,(by have h9:=HNX.out;first|exact h9|exact h9 trivial),PA9.out.calls (Go.below_drewN bR _),Go.below_drewN HB.out _⟩
     case measure=>simp[intOf];omega
  ·have HRI:=hid (qNA (l:=p.files) (fun j hj=>HS.out.2 j hj (by have:=HN.out;omega)));have HFI:=hid (show p.files.all qCT=true from List.all_eq_true.2 fun x hx=>by
    obtain⟨j,hj,rfl⟩:=List.getElem_of_mem hx;exact HS.out.1 j hj (by have:=HN.out;omega))
   have i1:¬(k:Int)<(n:Int):=by omega
   have HM:=hid (show mp=(r6 && (r7 && (s0 && (s3 && (s1 && (s4 && (s2 && s5))))))) from by rw[HM.out,HV.out,HRI.out,HFI.out];simp);have P4:=hid PA9.out;have B4:=hid HB.out;clear HRI HFI HS FR FW hB;go_wp2_with fail
   clear i1 hl c0 c1 c2 c3 c4 c5 c6 c7 c8 c9 c10 c11 c12 c13 c14;go_at_call 129
   refine (DP.out _ B4.out).mono ?_;rintro e wn5 ⟨rfl,h⟩;have P5:=hid (P4.out.calls h);have B5:=hid (B4.out.trans (h.mono B4.out.size));clear h P4;obtain⟨hl,c0,c1,c2,c3,c4,c5,c6,c7,c8,c9,c10,c11,c12,c13,c14⟩:=P5.out;cases r6
   ·go_wp2_with fail
    go_ret;exact⟨qA8 (by rw[HM.out];simp),B5.out⟩
   go_wp2_with fail
   clear hl c0 c1 c2 c3 c4 c5 c6 c7 c8 c9 c10 c11 c12 c13 c14;go_at_call 129
   refine (DO.out _ B5.out).mono ?_;rintro e wn6 ⟨rfl,h⟩;have P6:=hid (P5.out.calls h);have B6:=hid (B5.out.trans (h.mono B5.out.size));clear h P5;obtain⟨hl,c0,c1,c2,c3,c4,c5,c6,c7,c8,c9,c10,c11,c12,c13,c14⟩:=P6.out;cases r7
   ·go_wp2_with fail
    go_ret;exact⟨qA8 (by rw[HM.out];simp),B6.out⟩
   go_wp2_with fail
   clear hl c0 c1 c2 c3 c4 c5 c6 c7 c8 c9 c10 c11 c12 c13 c14;go_at_call 130
   refine (Dreq.out _ B6.out).mono ?_;rintro e wn7 ⟨rfl,h⟩;have P7:=hid (P6.out.calls h);have B7:=hid (B6.out.trans (h.mono B6.out.size));clear h P6;obtain⟨hl,c0,c1,c2,c3,c4,c5,c6,c7,c8,c9,c10,c11,c12,c13,c14⟩:=P7.out;cases s0
   ·go_wp2_with fail
    go_ret;exact⟨qA8 (by rw[HM.out];simp),B7.out⟩
   go_wp2_with fail
   clear hl c0 c1 c2 c3 c4 c5 c6 c7 c8 c9 c10 c11 c12 c13 c14;go_at_call 130
   refine (Drcm.out _ B7.out).mono ?_;rintro e wn8 ⟨rfl,h⟩;have P8:=hid (P7.out.calls h);have B8:=hid (B7.out.trans (h.mono B7.out.size));clear h P7;obtain⟨hl,c0,c1,c2,c3,c4,c5,c6,c7,c8,c9,c10,c11,c12,c13,c14⟩:=P8.out;cases s1
   ·go_wp2_with fail
    go_ret;exact⟨qA8 (by rw[HM.out];simp),B8.out⟩
   go_wp2_with fail
   clear hl c0 c1 c2 c3 c4 c5 c6 c7 c8 c9 c10 c11 c12 c13 c14;go_at_call 130
   refine (Dsug.out _ B8.out).mono ?_;rintro e wn9 ⟨rfl,h⟩;have P9:=hid (P8.out.calls h);have B9:=hid (B8.out.trans (h.mono B8.out.size));clear h P8;obtain⟨hl,c0,c1,c2,c3,c4,c5,c6,c7,c8,c9,c10,c11,c12,c13,c14⟩:=P9.out;cases s2
   ·go_wp2_with fail
    go_ret;exact⟨qA8 (by rw[HM.out];simp),B9.out⟩
   go_wp2_with fail
   clear hl c0 c1 c2 c3 c4 c5 c6 c7 c8 c9 c10 c11 c12 c13 c14;go_at_call 130
   refine (Dcon.out _ B9.out).mono ?_;rintro e wn10 ⟨rfl,h⟩;have P10:=hid (P9.out.calls h);have B10:=hid (B9.out.trans (h.mono B9.out.size));clear h P9;obtain⟨hl,c0,c1,c2,c3,c4,c5,c6,c7,c8,c9,c10,c11,c12,c13,c14⟩:=P10.out;cases s3
   ·go_wp2_with fail
    go_ret;exact⟨qA8 (by rw[HM.out];simp),B10.out⟩
   go_wp2_with fail
   clear hl c0 c1 c2 c3 c4 c5 c6 c7 c8 c9 c10 c11 c12 c13 c14;go_at_call 130
   refine (Dsup.out _ B10.out).mono ?_;rintro e wn11 ⟨rfl,h⟩;have P11:=hid (P10.out.calls h);have B11:=hid (B10.out.trans (h.mono B10.out.size));clear h P10;obtain⟨hl,c0,c1,c2,c3,c4,c5,c6,c7,c8,c9,c10,c11,c12,c13,c14⟩:=P11.out;cases s4
   ·go_wp2_with fail
    go_ret;exact⟨qA8 (by rw[HM.out];simp),B11.out⟩
   go_wp2_with fail
   clear hl c0 c1 c2 c3 c4 c5 c6 c7 c8 c9 c10 c11 c12 c13 c14;go_at_call 130
   refine (Denh.out _ B11.out).mono ?_;rintro e wn12 ⟨rfl,h⟩;have P12:=hid (P11.out.calls h);have B12:=hid (B11.out.trans (h.mono B11.out.size));clear h P11;obtain⟨hl,c0,c1,c2,c3,c4,c5,c6,c7,c8,c9,c10,c11,c12,c13,c14⟩:=P12.out;go_wp2_with fail
   go_ret;exact⟨qA8 (by rw[HM.out];simp),B12.out⟩
