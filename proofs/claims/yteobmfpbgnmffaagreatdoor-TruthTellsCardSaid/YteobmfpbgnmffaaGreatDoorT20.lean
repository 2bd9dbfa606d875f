/- PkCopy -/
import Derived.Test.YteobmfpbgnmffaaGreatDoorT19
set_option linter.unusedVariables false
set_option maxHeartbeats 16000000
set_option maxRecDepth 100000
open Go.Lib (hid)
set_option linter.unusedSimpArgs false
namespace Go.Proofs.YteobmfpbgnmffaaGreatDoor
open Go.RowKit Go.Shelf
theorem qAB {t:Array Value}{ds:List Deferred}{d:Tmp}{v:Value} : Act.put ⟨t,ds⟩ (some d) v=⟨t.setIfInBounds d v,ds⟩ := rfl
theorem qQK {p:Pk}(h:p.few):∀i,i<6->qA9 (qA1 (sixL p i))<=900000 := by
 intro i hi;have h1:=h.req;have h2:=h.con;have h3:=h.rcm;have h4:=h.sup;have h5:=h.sug;have h6:=h.enh;obtain rfl|rfl|rfl|rfl|rfl|rfl:i=0 \/ i=1 \/ i=2 \/ i=3 \/ i=4 \/ i=5:=by omega
 ·exact h1
 ·exact h2
 ·exact h3
 ·exact h4
 ·exact h5
 ·exact h6
def cpyP (p:Pk)(cb:Nat)(i:Nat)(v:Value)(W:World) : Prop := match i with
 |0=>v=.pointer (some ⟨cb,6,none⟩)
 |1=>v=.slice p.provA p.prov.length p.provC
 | 2 => ∃A c,v=.slice A p.prov.length c/\Own encD 5 (cb+2) 37 (.slice A p.prov.length c) p.prov W
 |3=>v=.pointer (some ⟨cb,9,none⟩)
 |4=>v=.slice p.obsA p.obs.length p.obsC
 | 5 => ∃A c,v=.slice A p.obs.length c/\Own encD 5 (cb+2) 37 (.slice A p.obs.length c) p.obs W
 |6=>v=.pointer (some ⟨cb,14,none⟩)
 |7=>v=.slice p.filesA p.files.length p.filesC
 | 8 => ∃A c,v=.slice A p.files.length c/\Own qER 1 (cb+2) 9 (.slice A p.files.length c) p.files W
 | _=>False
theorem qQC (p:Pk)(cb:Nat):∀i v w w',cpyP p cb i v w->Below w.heap.size w w'->cpyP p cb i v w' := by
 intro i v w w' h hb
 match i,h with
 |0,h|1,h=>exact h
 |2,h=>obtain⟨A,c,e,ho⟩:=h;exact⟨A,c,e,Own.below ho hb lR⟩
 |3,h|4,h=>exact h
 |5,h=>obtain⟨A,c,e,ho⟩:=h;exact⟨A,c,e,Own.below ho hb lR⟩
 |6,h|7,h=>exact h
 |8,h=>obtain⟨A,c,e,ho⟩:=h;exact⟨A,c,e,Own.below ho hb lR⟩
 | (k+9),h=>exact h.elim
def cpyQ (cb o6 g n c1 j:Nat)(x:RV)(hz:Nat)(i:Nat)(v:Value)(W:World) : Prop := match i with
 |0=>v=.pointer (some ⟨cb,o6,none⟩)
 |1=>v=.pointer (some ⟨cb,o6,none⟩)
 |2=>v=.slice (some ⟨g,0,none⟩) n c1
 |3=>v=.int .i64 (j:Int)
 |4=>v=.agg #[.int .u8 x.kind,.string (bs x.dep.name),.int .u8 x.dep.op,.int .i64 x.dep.evr.epoch,.string (bs x.dep.evr.ver),.string (bs x.dep.evr.rel),.slice x.addr x.args.length x.cap]
 | 5 => ∃rv:RV,v=rv.val/\rv.tree=x.tree/\TQ (fun b=>hz<=b/\b<W.heap.size) W rv
 |6=>v=.pointer (some ⟨g,j * 7,none⟩)
 | _=>False
theorem qQD (cb o6 g n c1 j:Nat)(x:RV)(hz:Nat):∀i v w w',cpyQ cb o6 g n c1 j x hz i v w->Below w.heap.size w w'->cpyQ cb o6 g n c1 j x hz i v w' := by
 intro i v w w' h hb
 match i,h with
 |0,h|1,h|2,h|3,h|4,h=>exact h
 |5,h=>obtain⟨rv,e,ht,hT⟩:=h;exact⟨rv,e,ht,hT.keep (fun b hq=>⟨hq.1,Nat.lt_of_lt_of_le hq.2 hb.size⟩) fun b hq=>hb.block b hq.2⟩
 |6,h=>exact h
 | (k+7),h=>exact h.elim
theorem qHJ (p:Pk)(w:World)(hL:p.Laid w.heap.size w)(hf:p.few) : Calls Tryz.prog 16 #[p.val] w fun e w' => ∃q : Pk,e=.returned q.val/\Alike p q/\PkOwn w.heap.size q w'/\Below w.heap.size w w' := by
 have HL:=hid hL;have HF:=hid (show p.prov.length<=1000000/\p.obs.length<=1000000/\p.files.length<=1000000 from⟨hf.nprov,hf.nobs,hf.nfiles⟩);have HP:=hid (qQK hf);have CD:=hid (fun A c (l:List Dp) W h hl=>qLP A c l W h hl);have CT:=hid (fun A c (l:List ByteArray) W h hl=>qLQ A c l W h hl);have CR:=hid (fun A c (l:List RV) W h hl=>qJY A c l W h hl);have SH:=hid (fun (x:RV) W (hp:x.tree.parts<=1000000) (h:RTree W.heap.size W x)=>(qHU x.ht x W lR hp h).mono fun e w' hh=>qBK.tq h.wf hh);unfold RV.val at SH;unfold Pk.val;clear hL hf
 go_enter Tryz.func16,Tryz.ntmps16
 go_wp2_with fail
 obtain⟨V,hV⟩:∃V,V=(w.alloc (.cells #[.string p.name,.int .i64 p.epoch,.string p.ver,.string p.rel,.int .u8 p.arch,.string p.vendor,.slice p.provA p.prov.length p.provC,.slice p.reqA p.req.length p.reqC,.slice p.conA p.con.length p.conC,.slice p.obsA p.obs.length p.obsC,.slice p.rcmA p.rcm.length p.rcmC,.slice p.supA p.sup.length p.supC,.slice p.sugA p.sug.length p.sugC,.slice p.enhA p.enh.length p.enhC,.slice p.filesA p.files.length p.filesC] 28)).alloc (.cells #[.string ⟨#[]⟩,.int .i64 0,.string ⟨#[]⟩,.string ⟨#[]⟩,.int .u8 0,.string ⟨#[]⟩,.slice none 0 0,.slice none 0 0,.slice none 0 0,.slice none 0 0,.slice none 0 0,.slice none 0 0,.slice none 0 0,.slice none 0 0,.slice none 0 0] 28):=⟨_,rfl⟩;have z1:(w.alloc (.cells #[.string p.name,.int .i64 p.epoch,.string p.ver,.string p.rel,.int .u8 p.arch,.string p.vendor,.slice p.provA p.prov.length p.provC,.slice p.reqA p.req.length p.reqC,.slice p.conA p.con.length p.conC,.slice p.obsA p.obs.length p.obsC,.slice p.rcmA p.rcm.length p.rcmC,.slice p.supA p.sup.length p.supC,.slice p.sugA p.sug.length p.sugC,.slice p.enhA p.enh.length p.enhC,.slice p.filesA p.files.length p.filesC] 28)).heap.size=w.heap.size+1:=by simp
 have b0:Below w.heap.size w V:=by rw[hV];exact (bR.alloc lR _).alloc (by rw[z1];omega) _
 have XB:qAJ w.heap.size p V:=by rw[hV];exact⟨(PkAt.new w p).calls (bR.alloc lR _),fun i hi=>by simp[go_sem],by simp;omega⟩
 have ZB:qAJ (w.heap.size+1) zPk V:=by rw[hV,<- z1];exact qAJ.new (w.alloc (.cells #[.string p.name,.int .i64 p.epoch,.string p.ver,.string p.rel,.int .u8 p.arch,.string p.vendor,.slice p.provA p.prov.length p.provC,.slice p.reqA p.req.length p.reqC,.slice p.conA p.con.length p.conC,.slice p.obsA p.obs.length p.obsC,.slice p.rcmA p.rcm.length p.rcmC,.slice p.supA p.sup.length p.supC,.slice p.sugA p.sug.length p.sugC,.slice p.enhA p.enh.length p.enhC,.slice p.filesA p.files.length p.filesC] 28))
 have zV:V.heap.size=w.heap.size+2:=by rw[hV];simp
 rw[<- hV];have BV:=hid b0;have XB:=hid XB;have ZB:=hid ZB;have ZV:=hid zV;clear hV z1 b0 zV;obtain⟨cb,hcb⟩:∃cb,cb=w.heap.size:=⟨_,rfl⟩;rw[<- hcb]at XB ZB ZV |-;have HC:=hid hcb;have HCB:=hid (show cb+2<=V.heap.size by rw[ZV.out];exact Nat.le_refl _);clear hcb;refine qA6 (PP:=cpyP p cb) 9 rfl (by kernel_rfl) (by kernel_rfl) (by decide) (by decide) (qQC p cb) (fun _=>undef) (by simp[qA4,gQ]) ?_ ?_
 ·intro i o vs W hi ho he hBW K hK;simp only[gT,qA4,gQ]at hK |-;have BW:=hid hBW;have XW:=hid (XB.out.then hBW);have LW:=hid ((HL.out.below (BV.out.trans (hBW.mono BV.out.size))).more (BV.out.trans (hBW.mono BV.out.size)).size);obtain rfl|rfl|rfl|rfl|rfl|rfl|rfl|rfl|rfl:=c9_ hi<;>simp only[gE]at ho<;>subst ho
  ·rw[if_pos (by rfl)];simp only[gQ]at hK;have HK:=hid hK;clear hK he hi hBW;go_simp;exact HK.out _ _ (by first|rfl|simp[cpyP]) bR
  ·have e0:vs 0=_:=dq he 0;rw[e0]at hK |-;rw[if_pos (by rfl)];simp only[gQ]at hK;have HK:=hid hK;clear hK he hi hBW;obtain⟨⟨hl,c0,c1,c2,c3,c4,c5,c6,c7,c8,c9,c10,c11,c12,c13,c14⟩,_,_⟩:=XW.out;go_simp;exact HK.out _ _ rfl bR
  ·have e1:vs 1=_:=dq he 1;rw[e1]at hK |-;rw[if_pos (by rfl)];simp only[gQ]at hK;have HK:=hid hK;clear hK he hi hBW;have LQ:=LW.out.prov;go_simp;go_at_call 70
   refine (CD.out _ _ _ _ LQ HF.out.1).mono ?_;rintro en w9 ⟨A9,c9,rfl,ho9,h⟩;go_simp;exact HK.out _ _ ⟨A9,c9,rfl,Own.more ho9 (Nat.le_trans HCB.out BW.out.size)⟩ h
  ·rw[if_pos (by rfl)];simp only[gQ]at hK;have HK:=hid hK;clear hK he hi hBW;go_simp;exact HK.out _ _ (by first|rfl|simp[cpyP]) bR
  ·have e3:vs 3=_:=dq he 3;rw[e3]at hK |-;rw[if_pos (by rfl)];simp only[gQ]at hK;have HK:=hid hK;clear hK he hi hBW;obtain⟨⟨hl,c0,c1,c2,c3,c4,c5,c6,c7,c8,c9,c10,c11,c12,c13,c14⟩,_,_⟩:=XW.out;go_simp;exact HK.out _ _ rfl bR
  ·have e4:vs 4=_:=dq he 4;rw[e4]at hK |-;rw[if_pos (by rfl)];simp only[gQ]at hK;have HK:=hid hK;clear hK he hi hBW;have LQ:=LW.out.obs;go_simp;go_at_call 70
   refine (CD.out _ _ _ _ LQ HF.out.2.1).mono ?_;rintro en w9 ⟨A9,c9,rfl,ho9,h⟩;go_simp;exact HK.out _ _ ⟨A9,c9,rfl,Own.more ho9 (Nat.le_trans HCB.out BW.out.size)⟩ h
  ·rw[if_pos (by rfl)];simp only[gQ]at hK;have HK:=hid hK;clear hK he hi hBW;go_simp;exact HK.out _ _ (by first|rfl|simp[cpyP]) bR
  ·have e6:vs 6=_:=dq he 6;rw[e6]at hK |-;rw[if_pos (by rfl)];simp only[gQ]at hK;have HK:=hid hK;clear hK he hi hBW;obtain⟨⟨hl,c0,c1,c2,c3,c4,c5,c6,c7,c8,c9,c10,c11,c12,c13,c14⟩,_,_⟩:=XW.out;go_simp;exact HK.out _ _ rfl bR
  ·have e7:vs 7=_:=dq he 7;rw[e7]at hK |-;rw[if_pos (by rfl)];simp only[gQ]at hK;have HK:=hid hK;clear hK he hi hBW;have LQ:=LW.out.files;go_simp;go_at_call 71
   refine (CT.out _ _ _ _ LQ HF.out.2.2).mono ?_;rintro en w9 ⟨A9,c9,rfl,ho9,h⟩;go_simp;exact HK.out _ _ ⟨A9,c9,rfl,Own.more ho9 (Nat.le_trans HCB.out BW.out.size)⟩ h
 ·intro vs W hall hBW;obtain⟨A2,k2,e2,o2⟩:∃A c,vs 2=.slice A p.prov.length c/\Own encD 5 (cb+2) 37 (.slice A p.prov.length c) p.prov W
  ·exact hall 2 (by decide)
  obtain⟨A5,k5,e5,o5⟩:∃A c,vs 5=.slice A p.obs.length c/\Own encD 5 (cb+2) 37 (.slice A p.obs.length c) p.obs W
  ·exact hall 5 (by decide)
  obtain⟨A8,k8,e8,o8⟩:∃A c,vs 8=.slice A p.files.length c/\Own qER 1 (cb+2) 9 (.slice A p.files.length c) p.files W
  ·exact hall 8 (by decide)
  simp only[gT,qA4,gQ];rw[e2,e5,e8];have XW:=hid (XB.out.then hBW);have ZW:=hid (ZB.out.then hBW);have BW:=hid (BV.out.trans (hBW.mono BV.out.size));have HW:=hid (Nat.le_trans HCB.out hBW.size);have ZW2:=hid (show cb+2<=W.heap.size by have:=ZV.out;have:=hBW.size;omega);generalize vs 0=u0,vs 1=u1,vs 3=u3,vs 4=u4,vs 6=u6,vs 7=u7;obtain⟨⟨hl,c0,c1,c2,c3,c4,c5,c6,c7,c8,c9,c10,c11,c12,c13,c14⟩,fz,_⟩:=XW.out;have f6:=fz 6 (by omega);have f9:=fz 9 (by omega);have f14:=fz 14 (by omega);have O2:=hid o2;have O5:=hid o5;have O8:=hid o8;clear hall hBW e2 e5 e8 o2 o5 o8 fz BV XB ZB ZV HCB;go_wp2_with fail
  have S0:=CopyAt.start XW.out BW.out (Nat.le_of_eq HC.out.symm) ZW2.out (A2:=A2) (k2:=k2) (A5:=A5) (k5:=k5) (A8:=A8) (k8:=k8) O2.out O5.out O8.out;have T0:=(((ButR.refl cb W).set 6 (.slice A2 p.prov.length k2)).set 9 (.slice A5 p.obs.length k5)).set 14 (.slice A8 p.files.length k8);have Z0:=ZW.out.butR T0 (by omega);clear XW ZW BW HW T0 O2 O5 O8 hl f6 f9 f14 c0 c1 c2 c3 c4 c5 c6 c7 c8 c9 c10 c11 c12 c13 c14;obtain⟨W3,hW3⟩:∃W3,W3=((W.setCell ⟨cb,6,none⟩ (.slice A2 p.prov.length k2)).setCell ⟨cb,9,none⟩ (.slice A5 p.obs.length k5)).setCell ⟨cb,14,none⟩ (.slice A8 p.files.length k8):=⟨_,rfl⟩;have hzw:W3.heap.size=W.heap.size:=by rw[hW3];simp[World.setCell]
  rw[<- hW3]at S0 Z0 |-;clear hW3;have hz3:W3.heap.size≠cb:=by have:=S0.box.2.2;omega
  have PT0:qPO W3.heap.size cb offR 6 (W3.alloc (.cells #[.pointer (some ⟨cb,7,none⟩),.pointer (some ⟨cb,8,none⟩),.pointer (some ⟨cb,10,none⟩),.pointer (some ⟨cb,11,none⟩),.pointer (some ⟨cb,12,none⟩),.pointer (some ⟨cb,13,none⟩)] 117)):=by
   refine⟨by simp,hz3,fun i hi => ?_⟩;obtain rfl|rfl|rfl|rfl|rfl|rfl:i=0 \/ i=1 \/ i=2 \/ i=3 \/ i=4 \/ i=5:=by omega
   all_goals exact (World.cell?_alloc_at _ _ _ _ (by simp)).trans rfl
  have S0:=hid (S0.then (bR.alloc lR (.cells #[.pointer (some ⟨cb,7,none⟩),.pointer (some ⟨cb,8,none⟩),.pointer (some ⟨cb,10,none⟩),.pointer (some ⟨cb,11,none⟩),.pointer (some ⟨cb,12,none⟩),.pointer (some ⟨cb,13,none⟩)] 117)));have Z0:=hid (Z0.then (bR.alloc lR (.cells #[.pointer (some ⟨cb,7,none⟩),.pointer (some ⟨cb,8,none⟩),.pointer (some ⟨cb,10,none⟩),.pointer (some ⟨cb,11,none⟩),.pointer (some ⟨cb,12,none⟩),.pointer (some ⟨cb,13,none⟩)] 117)));rw[hzw]at PT0;have PT0:=hid PT0;clear hz3 ZW2 hzw;obtain⟨q0,hq0⟩:∃q0:Pk,q0 = { p with provA:=A2,provC:=k2,obsA:=A5,obsC:=k5,filesA:=A8,filesC:=k8 } := ⟨_,rfl⟩;rw[<- hq0]at S0;clear hq0;generalize W3.alloc (.cells #[.pointer (some ⟨cb,7,none⟩),.pointer (some ⟨cb,8,none⟩),.pointer (some ⟨cb,10,none⟩),.pointer (some ⟨cb,11,none⟩),.pointer (some ⟨cb,12,none⟩),.pointer (some ⟨cb,13,none⟩)] 117)=W4 at *;generalize W.heap.size=gp at *
  go_loopw[27] (fun iv wr => ∃(i:Nat) (q:Pk),i<=6/\iv=.int .i64 (i:Int)/\CopyAt w cb p i q wr/\qPO gp cb offR 6 wr/\qAJ (cb+1) zPk wr) (fun iv _=>6 - (intOf iv).toNat)
  case atStart=>exact⟨0,q0,by omega,rfl,S0.out,PT0.out,Z0.out⟩
  case round =>
   obtain⟨i,q,hi,rfl,hS,hP,hZ⟩:=hrel;rename World=>wr
   have S:=hid hS;have PT:=hid hP;have ZZ:=hid hZ;clear hS hP hZ S0 PT0 Z0;by_cases hlt:i<6
   ·have i0:(0:Int)<=(i:Int):=by omega
    have i1:(i:Int)<6:=by omega
    have pc:=PT.out.2.2 i hlt;have bc:=qQ3 S.out.box hlt;have fz:=S.out.box.2.1 (offR i) (qRB i);have hcb:=S.out.box.2.2;have RW:=hid (S.out.row HL.out hlt);have RT:=hid (S.out.trees HL.out hlt);have PQ:=hid (show qA9 (qA1 (sixL q i))<=900000 by rw[(S.out.rest i hlt lR).1];exact HP.out i hlt);have STEP:=hid (fun A c (m:List RV) (W':World) hb hx hm hr=>CopyAt.step S.out hlt (W':=W') hb (A:=A) (c:=c) (m:=m) hx hm hr);have BS:=hid (fun A c (m:List RV) (W2:World) (hb:Below wr.heap.size wr W2)=>(S.out.box.then hb).setR A c m hlt);have BL:=hid (fun A c (m m':List RV) (W2:World) (h:qAJ cb (q.setR i A c m) W2) (e:m'.length=m.length)=>qAJ.len h hlt e);have BC:=hid (fun A c (m:List RV) (W2:World) (h:qAJ cb (q.setR i A c m) W2)=>qWR h hlt);have OLD:=hid S.out.old;have HLL:=hid (show (sixL q i).length<=900000 by have h1:=qBS (qA1 (sixL q i));rw[qA5]at h1;have:=PQ.out;omega);generalize offR i=o6 at *;generalize q.rA i=A6 at *;generalize q.rC i=c6 at *;generalize sixL q i=l6 at *;go_wp2_with fail
    go_at_call 72
    refine (CR.out A6 c6 l6 wr RW.out (by have:=HLL.out;omega)).mono ?_;rintro en w1 ⟨A1,c1,rfl,hO,hB⟩;have bc1:=(hB.cell (p:=⟨cb,o6,none⟩) hcb).trans bc;have fz1:=(hB.frozen (p:=⟨cb,o6,none⟩) hcb).trans fz;have HO:=hid hO;have HB:=hid hB;clear hO hB pc bc fz;have BX0:=hid (BS.out A1 c1 l6 w1 HB.out);have BR0:=hid ((ButR.of (R:=cb) HB.out).set o6 (.slice A1 l6.length c1));have PR0:=hid ((PartRow.start (w0:=w) HO.out (OLD.out.trans (HB.out.mono OLD.out.size)) OLD.out.size).keep (W':=w1.setCell ⟨cb,o6,none⟩ (.slice A1 l6.length c1)) (by simp[World.setCell]) (fun b h1 _=>Below.heap_setCell _ _ _ _ (show b≠cb by omega)) ((OLD.out.trans (HB.out.mono OLD.out.size)).setCell (p:=⟨cb,o6,none⟩) (Nat.le_of_eq HC.out.symm) _));obtain⟨n,hn⟩:∃n,n=l6.length:=⟨_,rfl⟩;have HN:=hid hn;rw[<- hn]at bc1 PR0 BX0 BR0 |-;clear hn RW;go_wp2_with fail
    generalize w1.setCell ⟨cb,o6,none⟩ (.slice A1 n c1)=W5 at *;clear bc1 fz1 HO HB
    go_loopw[41] (fun jv wx => ∃(j:Nat) (m:List RV),j<=n/\jv=.int .i64 (j:Int)/\PartRow w wr.heap.size A1 n c1 l6 m j wx/\ButR cb wr wx/\qAJ cb (q.setR i A1 c1 m) wx) (fun jv _=>n - (intOf jv).toNat)
    case atStart=>exact⟨0,l6,Nat.zero_le _,rfl,PR0.out,BR0.out,BX0.out⟩
    case round =>
     obtain⟨j,m,hj,rfl,hPR,hBR,hBX⟩:=hrel;rename World=>wx
     have PR:=hid hPR;have BR:=hid hBR;have BX:=hid hBX;have hml:m.length=n:=by rw[HN.out];exact hPR.len
     clear hPR hBR hBX PR0 BR0 BX0;have hnb:n<=900000:=by have:=HLL.out;have:=HN.out;omega
     by_cases hlt2:j<n
     ·have hjm:j<m.length:=by omega
      have hjl:j<l6.length:=by have:=HN.out;omega
      obtain⟨g,hA,hgb,hgl,hgn,hgf⟩:=qUS PR.out.own (by omega);subst hA;have hx:=PR.out.get hjm;have TX:=RT.out l6[j] (List.getElem_mem hjl);have hxp:(l6[j]).tree.parts<=1000000:=by
       have h1:=qBR (l:=qA1 l6) (show j<(qA1 l6).length by rw[qA5];exact hjl);rw[qAI l6 j hjl]at h1;have:=PQ.out;omega
      have SC:=hid (fun W (hb:Below wx.heap.size wx W)=>SH.out l6[j] W hxp ((TX.keeps (PR.out.old.trans (hb.mono PR.out.old.size))).more (Nat.le_trans PR.out.old.size hb.size)));obtain⟨e0,e1,e2,e3,e4,e5,e6⟩:=qRM PR.out.own hjm;rw[hx]at e0 e1 e2 e3 e4 e5 e6;have HX:=hid (show (m[j]).tree=(l6[j]).tree by rw[hx]);have CBG:=hid (show cb≠g by omega);have HGB:=hid hgb;have HGF:=hid hgf;have HJM:=hid hjm;have HML:=hid hml;obtain⟨bc,fz⟩:=BC.out _ _ _ _ BX.out;rw[hml]at bc;clear TX hxp hx hgn hgf hgb hml;generalize l6[j]=x at *;clear hjl;have j0:(0:Int)<=(j:Int):=by omega
      have j1:(j:Int)<(n:Int):=by omega
      go_wp2_with fail
      have BV:=hid ((Below.refl wx.heap.size wx).alloc lR (.cells #[.int .u8 x.kind,.string (bs x.dep.name),.int .u8 x.dep.op,.int .i64 x.dep.evr.epoch,.string (bs x.dep.evr.ver),.string (bs x.dep.evr.rel),.slice x.addr x.args.length x.cap] 39));have XB:=hid (Box7.new wx (.int .u8 x.kind) (.string (bs x.dep.name)) (.int .u8 x.dep.op) (.int .i64 x.dep.evr.epoch) (.string (bs x.dep.evr.ver)) (.string (bs x.dep.evr.rel)) (.slice x.addr x.args.length x.cap) 39);have bcv:=(BV.out.cell (p:=⟨cb,o6,none⟩) BX.out.2.2).trans bc;have fzv:=(BV.out.frozen (p:=⟨cb,o6,none⟩) BX.out.2.2).trans fz;have CBV:=hid (Nat.lt_of_lt_of_le BX.out.2.2 BV.out.size);have PRV:=hid (PR.out.call BV.out);have BRV:=hid (BR.out.then BV.out);have BXV:=hid (BX.out.then BV.out);clear e0 e1 e2 e3 e4 e5 e6 bc fz hgl;generalize wx.alloc (.cells #[.int .u8 x.kind,.string (bs x.dep.name),.int .u8 x.dep.op,.int .i64 x.dep.evr.epoch,.string (bs x.dep.evr.ver),.string (bs x.dep.evr.rel),.slice x.addr x.args.length x.cap] 39)=V at *;have BCV:=hid (And.intro bcv fzv);clear bcv fzv PR BR BX;obtain⟨hz,hhz⟩:∃hz,hz=V.heap.size:=⟨_,rfl⟩;have HZ:=hid hhz;clear hhz;refine qA6 (PP:=cpyQ cb o6 g n c1 j x hz) 7 rfl (by kernel_rfl) (by kernel_rfl) (by decide) (by decide) (qQD cb o6 g n c1 j x hz) (fun i=>match i with|0=>u46|1=>u47|2=>u48|3=>u49|4=>u50|5=>u51|_=>u52) (by simp[qA4,gQ]) ?_ ?_
      ·intro i o vs W hi ho he hBW K hK;simp only[gT,qA4,gQ]at hK |-;have BZW:=hid (BV.out.trans (hBW.mono BV.out.size));have HZL:=hid (show hz<=W.heap.size by rw[HZ.out];exact hBW.size);have XBW:=hid (XB.out.past (hBW.mono (XB.out.2.2)));have BCW:=hid (show W.cell? ⟨cb,o6,none⟩=_/\W.frozen? ⟨cb,o6,none⟩=_ from⟨(hBW.cell (p:=⟨cb,o6,none⟩) CBV.out).trans BCV.out.1,(hBW.frozen (p:=⟨cb,o6,none⟩) CBV.out).trans BCV.out.2⟩);obtain rfl|rfl|rfl|rfl|rfl|rfl|rfl:=c7_ hi<;>simp only[gE]at ho<;>subst ho
       ·rw[if_pos (by rfl)];simp only[gQ]at hK;have HK:=hid hK;clear hK he hi hBW;go_simp;exact HK.out _ _ (by first|rfl|simp[cpyQ]) bR
       ·have e0:vs 0=_:=dq he 0;rw[e0]at hK |-;rw[if_pos (by rfl)];simp only[gQ]at hK;have HK:=hid hK;clear hK he hi hBW;go_simp;exact HK.out _ _ (by first|rfl|simp[cpyQ]) bR
       ·have e1:vs 1=_:=dq he 1;rw[e1]at hK |-;rw[if_pos (by rfl)];simp only[gQ]at hK;have HK:=hid hK;clear hK he hi hBW;obtain⟨bc,fz⟩:=BCW.out;go_simp;exact HK.out _ _ rfl bR
       ·rw[if_pos (by rfl)];simp only[gQ]at hK;have HK:=hid hK;clear hK he hi hBW;go_simp;exact HK.out _ _ (by first|rfl|simp[cpyQ]) bR
       ·rw[if_pos (by rfl)];simp only[gQ]at hK;have HK:=hid hK;clear hK he hi hBW;obtain⟨⟨x0,x1,x2,x3,x4,x5,x6⟩,_,_⟩:=XBW.out;go_simp;exact HK.out _ _ rfl bR
       ·have e4:vs 4=_:=dq he 4;rw[e4]at hK |-;rw[if_pos (by rfl)];simp only[gQ]at hK;have HK:=hid hK;clear hK he hi hBW;have SQ:=SC.out W BZW.out;go_simp;go_at_call 69
        refine SQ.mono ?_;rintro en w9 ⟨rv,rfl,hrt,hT,h⟩;go_simp;exact HK.out _ _ ⟨rv,rfl,hrt,hT.keep (fun b hq=>⟨Nat.le_trans HZL.out hq.1,hq.2⟩) (fun _ _=>rfl)⟩ h
       ·have e2:vs 2=_:=dq he 2;rw[e2]at hK |-;have e3:vs 3=_:=dq he 3;rw[e3]at hK |-;rw[if_pos (by rfl)];simp only[gQ]at hK;have HK:=hid hK;clear hK he hi hBW;go_simp;exact HK.out _ _ (by simp[cpyQ]) bR
      ·intro vs W hall hBW;have e6:vs 6=.pointer (some ⟨g,j * 7,none⟩):=(hall 6 (by decide):cpyQ cb o6 g n c1 j x hz 6 (vs 6) W);obtain⟨rv,e5,hrt,hT⟩:∃rv:RV,vs 5=rv.val/\rv.tree=x.tree/\TQ (fun b=>hz<=b/\b<W.heap.size) W rv:=hall 5 (by decide);simp only[gT,qA4,gQ];rw[e5,e6];generalize vs 0=u0,vs 1=u1,vs 2=u2,vs 3=u3,vs 4=u4;have PRW:=PRV.out.call hBW;obtain⟨d0,d1,d2,d3,d4,d5,d6⟩:=qRM PRW.own HJM.out;have ff:=qOK PRW.own;have f0:=ff (j * 7);have f1:=ff (j * 7+1);have f2:=ff (j * 7+2);have f3:=ff (j * 7+3);have f4:=ff (j * 7+4);have f5:=ff (j * 7+5);have f6:=ff (j * 7+6);rw[HZ.out]at hT;have PRN:=hid (PRV.out.step HJM.out (hrt.trans HX.out.symm) hT hBW);have BRN:=hid (ButR.setL_new HGB.out (encR rv) (j * 7) _ (BRV.out.then hBW));have BXN:=hid (BL.out _ _ m (m.set j rv) _ ((BXV.out.then hBW).butR (qC6 g (encR rv) (j * 7) W) CBG.out) (by simp));clear hall hBW e5 e6 PRW ff hT hrt BV XB BCV PRV BRV BXV CBV SC;unfold RV.val;unfold setL encR setL setL setL setL setL setL setL at PRN BRN BXN;go_wp2_with fail
       go_roundw
       case rel=>exact⟨j+1,m.set j rv,by omega,by go_num,PRN.out,BRN.out,BXN.out⟩
       case measure=>simp[intOf];omega
     ·obtain rfl:j=n:=by omega
      have j1:¬(j:Int)<(j:Int):=by omega
      have ST:=hid (STEP.out A1 c1 m wx BR.out BX.out PR.out.tr (hml ▸ PR.out.fin (Nat.le_of_eq hml)));have PT3:=hid (PT.out.butR BR.out PT.out.2.1);have Z3:=hid (ZZ.out.butR BR.out (by omega));clear PR BR BX STEP BS BL BC hml;go_wp2_with fail
      go_roundw
      case rel=>exact⟨i+1,q.setR i A1 c1 m,by omega,by go_num,ST.out,PT3.out,Z3.out⟩
      case measure=>simp[intOf];omega
   ·obtain rfl:i=6:=by omega
    have i1:¬(6:Int)<6:=by omega
    obtain⟨⟨hl,c0,c1,c2,c3,c4,c5,c6,c7,c8,c9,c10,c11,c12,c13,c14⟩,_,_⟩:=S.out.box;obtain⟨⟨zl,z0,z1,z2,z3,z4,z5,z6,z7,z8,z9,z10,z11,z12,z13,z14⟩,fz,_⟩:=ZZ.out;have f0:=fz 0 (by omega);have f1:=fz 1 (by omega);have f2:=fz 2 (by omega);have f3:=fz 3 (by omega);have f4:=fz 4 (by omega);have f5:=fz 5 (by omega);have f6:=fz 6 (by omega);have f7:=fz 7 (by omega);have f8:=fz 8 (by omega);have f9:=fz 9 (by omega);have f10:=fz 10 (by omega);have f11:=fz 11 (by omega);have f12:=fz 12 (by omega);have f13:=fz 13 (by omega);have f14:=fz 14 (by omega);have R1:=hid (ZZ.out.set q);have R2:=hid (qC6 (cb+1) q.cells 0 wr);have R3:=hid (qDN (B:=w.heap.size) (R:=cb+1) (by have:=HC.out;omega) q.cells 0 wr);have RA:=hid S.out.alike;have RO:=hid (S.out.pkOwn lR);have RB:=hid S.out.old;clear fz PT hl zl;unfold zPk at z0 z1 z2 z3 z4 z5 z6 z7 z8 z9 z10 z11 z12 z13 z14;go_wp2_with fail
    obtain⟨Y,hY⟩:∃Y,Y=setL (cb+1) 0 q.cells wr:=⟨_,rfl⟩;have hY2:=hY;simp only[setL,Pk.cells,Nat.zero_add,Nat.reduceAdd]at hY2;rw[<- hY2];rw[<- hY]at R1 R2 R3;clear hY hY2 c0 c1 c2 c3 c4 c5 c6 c7 c8 c9 c10 c11 c12 c13 c14 z0 z1 z2 z3 z4 z5 z6 z7 z8 z9 z10 z11 z12 z13 z14;obtain⟨⟨_,c0,c1,c2,c3,c4,c5,c6,c7,c8,c9,c10,c11,c12,c13,c14⟩,_,_⟩:=R1.out;refine bodyPost_ret (v:=q.val) (by simp[Pk.val,results,Tryz.results16,go_sem,c0,c1,c2,c3,c4,c5,c6,c7,c8,c9,c10,c11,c12,c13,c14];try rfl) rfl ?_;exact⟨q,rfl,RA.out,(RO.out.butR R2.out (Nat.lt_succ_self _)).more (by have:=HC.out;omega),RB.out.trans R3.out⟩
