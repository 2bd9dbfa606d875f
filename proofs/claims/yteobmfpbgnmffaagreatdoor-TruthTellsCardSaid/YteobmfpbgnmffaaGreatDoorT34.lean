/- TrAw, St14Much, St14Large -/
import Derived.Test.YteobmfpbgnmffaaGreatDoorT33
set_option linter.unusedVariables false
set_option maxHeartbeats 16000000
set_option maxRecDepth 100000
open Go.Lib (hid)
set_option linter.unusedSimpArgs false
namespace Go.Proofs.YteobmfpbgnmffaaGreatDoor
open Go.RowKit Go.Shelf
section
theorem qP9 (w:World)(hI:WhIn w) : Calls Tryz.prog 37 #[] w fun e w'=>e=.returned (.bool true)/\Below w.heap.size w w' := by
 have TW:=hid (qXT w hI.1);have HI:=hid hI;clear hI
 go_enter Tryz.func37,Tryz.ntmps37
 go_wp2_with fail
 go_at_call 59
 refine TW.out.mono ?_;rintro en w1 ⟨T,X,L2,rfl,ht,hp,hb1⟩;have HP:=hid (show pvL L2=PV from funext fun n=>funext fun d=>hp n d);have HT:=hid ht;have B1:=hid hb1;clear ht hp hb1 TW;go_wp2_with fail
 go_at_call 58
 refine (qH6 _ _).mono ?_;rintro en w2 ⟨rfl,hb⟩;have B2:=hid hb;clear hb;go_wp2_with fail
 go_at_call 58
 refine (qH6 _ _).mono ?_;rintro en w3 ⟨rfl,hb⟩;have B3:=hid (B2.out.trans (hb.mono B2.out.size));clear hb B2;go_wp2_with fail
 obtain⟨v1,e1⟩:∃W,W=w3.alloc (.cells #[.int .u8 1,.string ⟨#[120]⟩,.int .u8 0,.int .i64 0,.string ⟨#[]⟩,.string ⟨#[]⟩,.slice none 0 0] 39):=⟨_,rfl⟩;rw[<- e1];have b1:Below w3.heap.size w3 v1:=by rw[e1];exact bR.alloc lR _
 have s1:v1.heap.size=w3.heap.size+1:=by rw[e1,World.size_alloc]
 obtain⟨v2,e2⟩:∃W,W=v1.alloc (.cells #[.int .u8 1,.string ⟨#[121]⟩,.int .u8 0,.int .i64 0,.string ⟨#[]⟩,.string ⟨#[]⟩,.slice none 0 0] 39):=⟨_,rfl⟩;rw[<- e2];have b2:Below v1.heap.size v1 v2:=by rw[e2];exact bR.alloc lR _
 have s2:v2.heap.size=w3.heap.size+1+1:=by rw[e2,World.size_alloc,s1]
 obtain⟨v3,e3⟩:∃W,W=v2.alloc (.cells #[.int .i64 0,.int .i64 1] 3):=⟨_,rfl⟩;rw[<- e3];have b3:Below v2.heap.size v2 v3:=by rw[e3];exact bR.alloc lR _
 have s3:v3.heap.size=w3.heap.size+1+1+1:=by rw[e3,World.size_alloc,s2]
 obtain⟨v4,e4⟩:∃W,W=v3.alloc (.cells #[.int .i64 0] 3):=⟨_,rfl⟩;rw[<- e4];have b4:Below v3.heap.size v3 v4:=by rw[e4];exact bR.alloc lR _
 have s4:v4.heap.size=w3.heap.size+1+1+1+1:=by rw[e4,World.size_alloc,s3]
 have ax4:AtX (w3.heap.size) ⟨#[120]⟩ v1:=by rw[e1];exact AtX.new _ _
 have ay4:AtX (w3.heap.size+1) ⟨#[121]⟩ v2:=by have q:=AtX.new ⟨#[121]⟩ v1;rw[s1]at q;rw[e2];exact q
 have bo4:Rd encI 1 v3.heap.size (some ⟨w3.heap.size+1+1,0,none⟩) 2 [0,1] v3:=by have q:=qEX (enc:=encI) (size:=1) (fun _=>rfl) [0,1] v2 3 (by simp);rw[s2]at q;rw[e3];exact q
 have on4:Rd encI 1 v4.heap.size (some ⟨w3.heap.size+1+1+1,0,none⟩) 1 [0] v4:=by have q:=qEX (enc:=encI) (size:=1) (fun _=>rfl) [0] v3 3 (by simp);rw[s3]at q;rw[e4];exact q
 have b14:=B3.out.trans ((b1.trans ((b2.trans ((b3.trans (b4.mono b3.size)).mono b2.size)).mono b1.size)).mono B3.out.size);have w14:=B1.out.trans (b14.mono B1.out.size);have A0:Hid (Aw T X (w3.heap.size) (w3.heap.size+1) (w3.heap.size+1+1) (w3.heap.size+1+1+1) L2 w v4):=hid ⟨HT.out.then b14,HI.out.below w14,((ax4.then b2).then b3).then b4,(ay4.then b3).then b4,(bo4.below b4).more b4.size,on4,w14⟩;clear ax4 ay4 bo4 on4 b14 w14 b1 b2 b3 b4 e1 e2 e3 e4 s1 s2 s3 HT HI B1 B3;rw[<- s4];clear s4;generalize w3.heap.size=g at *;go_at_call 44
 refine (qCW _ _ _ _ _).mono ?_;rintro en wa0 ⟨rfl,hb⟩;have E0:=hid ((A0.out.then (bR.alloc lR _)).then hb);have Q0:=hid (qH7 (l:=[ax,ay]) E0.out HP.out (cs:=#[.int .u8 1,.string ⟨#[120]⟩,.int .u8 0,.int .i64 0,.string ⟨#[]⟩,.string ⟨#[]⟩,.slice none 0 0,.int .u8 1,.string ⟨#[121]⟩,.int .u8 0,.int .i64 0,.string ⟨#[]⟩,.string ⟨#[]⟩,.slice none 0 0]) rfl (by decide) (by simp) hb E0.out.bo aw1v);clear hb A0;go_wp2_with fail
 go_at_call 40
 refine Q0.out.mono ?_;rintro en wb0 ⟨rfl,h⟩;have A1:=hid (E0.out.then h);clear h Q0 E0;obtain⟨_,x0,x1,x2,x3,x4,x5,x6⟩:=A1.out.x;obtain⟨_,y0,y1,y2,y3,y4,y5,y6⟩:=A1.out.y;go_wp2_with fail
 clear x0 x1 x2 x3 x4 x5 x6 y0 y1 y2 y3 y4 y5 y6;go_at_call 44
 refine (qCW _ _ _ _ _).mono ?_;rintro en wa1 ⟨rfl,hb⟩;have E1:=hid ((A1.out.then (bR.alloc lR _)).then hb);have Q1:=hid (qH7 (l:=[ax,ay]) E1.out HP.out (cs:=#[.int .u8 1,.string ⟨#[120]⟩,.int .u8 0,.int .i64 0,.string ⟨#[]⟩,.string ⟨#[]⟩,.slice none 0 0,.int .u8 1,.string ⟨#[121]⟩,.int .u8 0,.int .i64 0,.string ⟨#[]⟩,.string ⟨#[]⟩,.slice none 0 0]) rfl (by decide) (by simp) hb E1.out.bo aw2v);clear hb A1;go_wp2_with fail
 go_at_call 40
 refine Q1.out.mono ?_;rintro en wb1 ⟨rfl,h⟩;have A2:=hid (E1.out.then h);clear h Q1 E1;obtain⟨_,x0,x1,x2,x3,x4,x5,x6⟩:=A2.out.x;obtain⟨_,y0,y1,y2,y3,y4,y5,y6⟩:=A2.out.y;go_wp2_with fail
 clear x0 x1 x2 x3 x4 x5 x6 y0 y1 y2 y3 y4 y5 y6;go_at_call 44
 refine (qCW _ _ _ _ _).mono ?_;rintro en wa2 ⟨rfl,hb⟩;have E2:=hid ((A2.out.then (bR.alloc lR _)).then hb);have Q2:=hid (qTR (l:=[ax,ay]) E2.out HP.out (cs:=#[.int .u8 1,.string ⟨#[120]⟩,.int .u8 0,.int .i64 0,.string ⟨#[]⟩,.string ⟨#[]⟩,.slice none 0 0,.int .u8 1,.string ⟨#[121]⟩,.int .u8 0,.int .i64 0,.string ⟨#[]⟩,.string ⟨#[]⟩,.slice none 0 0]) rfl (by decide) (by simp) hb aw3v);clear hb A2;go_wp2_with fail
 go_at_call 43
 refine Q2.out.mono ?_;rintro en wb2 ⟨rfl,h⟩;have A3:=hid (E2.out.then h);clear h Q2 E2;obtain⟨_,x0,x1,x2,x3,x4,x5,x6⟩:=A3.out.x;obtain⟨_,y0,y1,y2,y3,y4,y5,y6⟩:=A3.out.y;go_wp2_with fail
 clear x0 x1 x2 x3 x4 x5 x6 y0 y1 y2 y3 y4 y5 y6;go_at_call 44
 refine (qCW _ _ _ _ _).mono ?_;rintro en wa3 ⟨rfl,hb⟩;have E3:=hid ((A3.out.then (bR.alloc lR _)).then hb);have Q3:=hid (qH7 (l:=[ax,ay]) E3.out HP.out (cs:=#[.int .u8 1,.string ⟨#[120]⟩,.int .u8 0,.int .i64 0,.string ⟨#[]⟩,.string ⟨#[]⟩,.slice none 0 0,.int .u8 1,.string ⟨#[121]⟩,.int .u8 0,.int .i64 0,.string ⟨#[]⟩,.string ⟨#[]⟩,.slice none 0 0]) rfl (by decide) (by simp) hb E3.out.on aw4v);clear hb A3;go_wp2_with fail
 go_at_call 40
 refine Q3.out.mono ?_;rintro en wb3 ⟨rfl,h⟩;have A4:=hid (E3.out.then h);clear h Q3 E3;obtain⟨_,x0,x1,x2,x3,x4,x5,x6⟩:=A4.out.x;obtain⟨_,y0,y1,y2,y3,y4,y5,y6⟩:=A4.out.y;go_wp2_with fail
 clear x0 x1 x2 x3 x4 x5 x6 y0 y1 y2 y3 y4 y5 y6;go_at_call 44
 refine (qCW _ _ _ _ _).mono ?_;rintro en wa4 ⟨rfl,hb⟩;have E4:=hid ((A4.out.then (bR.alloc lR _)).then hb);have Q4:=hid (qH7 (l:=[ay,ax]) E4.out HP.out (cs:=#[.int .u8 1,.string ⟨#[121]⟩,.int .u8 0,.int .i64 0,.string ⟨#[]⟩,.string ⟨#[]⟩,.slice none 0 0,.int .u8 1,.string ⟨#[120]⟩,.int .u8 0,.int .i64 0,.string ⟨#[]⟩,.string ⟨#[]⟩,.slice none 0 0]) rfl (by decide) (by simp) hb E4.out.on aw5v);clear hb A4;go_wp2_with fail
 go_at_call 40
 refine Q4.out.mono ?_;rintro en wb4 ⟨rfl,h⟩;have A5:=hid (E4.out.then h);clear h Q4 E4;obtain⟨_,x0,x1,x2,x3,x4,x5,x6⟩:=A5.out.x;obtain⟨_,y0,y1,y2,y3,y4,y5,y6⟩:=A5.out.y;go_wp2_with fail
 clear x0 x1 x2 x3 x4 x5 x6 y0 y1 y2 y3 y4 y5 y6;go_at_call 44
 refine (qCW _ _ _ _ _).mono ?_;rintro en wa5 ⟨rfl,hb⟩;have E5:=hid ((A5.out.then (bR.alloc lR _)).then hb);have Q5:=hid (qH7 (l:=[ax,ay]) E5.out HP.out (cs:=#[.int .u8 1,.string ⟨#[120]⟩,.int .u8 0,.int .i64 0,.string ⟨#[]⟩,.string ⟨#[]⟩,.slice none 0 0,.int .u8 1,.string ⟨#[121]⟩,.int .u8 0,.int .i64 0,.string ⟨#[]⟩,.string ⟨#[]⟩,.slice none 0 0]) rfl (by decide) (by simp) hb E5.out.on aw6v);clear hb A5;go_wp2_with fail
 go_at_call 40
 refine Q5.out.mono ?_;rintro en wb5 ⟨rfl,h⟩;have A6:=hid (E5.out.then h);clear h Q5 E5;obtain⟨_,x0,x1,x2,x3,x4,x5,x6⟩:=A6.out.x;obtain⟨_,y0,y1,y2,y3,y4,y5,y6⟩:=A6.out.y;go_wp2_with fail
 clear x0 x1 x2 x3 x4 x5 x6 y0 y1 y2 y3 y4 y5 y6;go_at_call 44
 refine (qCW _ _ _ _ _).mono ?_;rintro en wa6 ⟨rfl,hb⟩;have E6:=hid ((A6.out.then (bR.alloc lR _)).then hb);have Q6:=hid (qH7 (l:=[ay,ay,ax]) E6.out HP.out (cs:=#[.int .u8 1,.string ⟨#[121]⟩,.int .u8 0,.int .i64 0,.string ⟨#[]⟩,.string ⟨#[]⟩,.slice none 0 0,.int .u8 1,.string ⟨#[121]⟩,.int .u8 0,.int .i64 0,.string ⟨#[]⟩,.string ⟨#[]⟩,.slice none 0 0,.int .u8 1,.string ⟨#[120]⟩,.int .u8 0,.int .i64 0,.string ⟨#[]⟩,.string ⟨#[]⟩,.slice none 0 0]) rfl (by decide) (by simp) hb E6.out.on aw7v);clear hb A6;go_wp2_with fail
 go_at_call 40
 refine Q6.out.mono ?_;rintro en wb6 ⟨rfl,h⟩;have A7:=hid (E6.out.then h);clear h Q6 E6;obtain⟨_,x0,x1,x2,x3,x4,x5,x6⟩:=A7.out.x;obtain⟨_,y0,y1,y2,y3,y4,y5,y6⟩:=A7.out.y;go_wp2_with fail
 clear x0 x1 x2 x3 x4 x5 x6 y0 y1 y2 y3 y4 y5 y6;go_at_call 41
 refine (qY9 A7.out HP.out aw8v).mono ?_;rintro en w8 ⟨v,rfl,how,h⟩;have A8:=hid (A7.out.then h);obtain⟨AA,cc,rfl,rdw⟩:=how.rd qAZ;have NU:=hid (qCV AA (some ⟨g+1+1+1,0,none⟩) cc 1 [0] [0] w8 (by decide) (by decide) rdw A8.out.on);clear h how A7;go_wp2_with fail
 go_at_call 30
 refine NU.out.mono ?_;rintro en w9 ⟨rfl,h⟩;have B9:=hid (A8.out.old.trans (h.mono A8.out.old.size));clear h A8 NU;go_wp2_with fail
 go_ret;exact⟨rfl,B9.out⟩
end
section
theorem qEU:∀(f:Nat) (deep:Nat) (A:Option Addr) (cap:Nat) (l:List RV) (w:World),deep+f=21->RRow w.heap.size w A cap l->Calls Tryz.prog 92 #[.slice A l.length cap,.int .i64 (deep:Int)] w (qIT l w)
 |0,deep,A,cap,l,w,hd,h=>by
  obtain rfl:deep=21:=by omega
  have hm:=h.1.len;clear h;generalize l.length=n at *
  go_enter Tryz.func92,Tryz.ntmps92
  go_wp2_with fail
  go_ret2
  exact⟨0,true,rfl,by omega,(fun h=>by cases h),Below.refl _ _⟩
 | f+1,deep,A,cap,l,w,hd,h=>by
  have IH:=hid (fun A cap l w h=>qEU f (deep+1) A cap l w (by omega) h);have hm:=h.1.len;have H:=hid h;have d0:¬(20:Int)<(deep:Int):=by omega
  have d1:(deep:Int)<=20:=by omega
  clear h;by_cases hn:100<l.length
  ·have hn2:(100:Int)<(l.length:Int):=by omega
   clear IH H hn;generalize l.length=n at *
   go_enter Tryz.func92,Tryz.ntmps92
   go_wp2_with fail
   go_ret2
   exact⟨0,true,rfl,by omega,(fun h=>by cases h),Below.refl _ _⟩
  ·have hn2:¬(100:Int)<(l.length:Int):=by omega
   obtain⟨n,hnn⟩:∃n,n=l.length:=⟨_,rfl⟩;rw[<- hnn]at hn hn2 hm |-;have HN:=hid hnn;clear hnn;have hd1:(((deep+1:Nat)):Int)=(deep:Int)+1:=by omega
   rw[hd1]at IH;clear hd1
   go_enter Tryz.func92,Tryz.ntmps92
   go_wp2_with fail
   go_loopw[6,7] (fun m i wr => ∃k c:Nat,k<=n/\c<=2000/\i=.int .i64 (k:Int)/\m=.int .i64 (c:Int)/\Hid (c=qA9 ((qA1 l).take k))/\Below w.heap.size w wr) (fun _ i _=>n - (intOf i).toNat)
   case atStart=>exact⟨0,0,by omega,by omega,rfl,rfl,hid (by simp[qA9]),Below.refl _ _⟩
   case round =>
    obtain⟨k,c,hk,hc,rfl,rfl,HCP,hB⟩:=hrel;rename World=>wr
    by_cases hlt:k<n
    ·have hkl:k<l.length:=by have:=HN.out;omega
     have HS:=hid ((H.out.below hB).sub hkl);obtain⟨b,o,rfl,hb,c0,c1,c2,c3,c4,c5,c6⟩:=(H.out.below hB).at_ hkl
     have hw:=(H.out.2 _ (List.getElem_mem hkl)).wf;have HST:=hid (show ∀m:Nat,m=qA9 (qA1 l[k].args)->c+1+m=qA9 ((qA1 l).take (k+1)) from fun m hm=>by
      have hkt:k<(qA1 l).length:=by rw[qA5];exact hkl
      have g1:=qF5 hkt;rw[qAI l k hkl,qAD l[k],RT.parts,<- hm,<- HCP.out]at g1;omega)
     generalize l[k]=t at *;have i0:(0:Int)<=(k:Int):=by omega
     have i1:(k:Int)<(n:Int):=by omega
     have hsz:=hB.size;have HB:=hid hB;clear hkl hw hB c0 c2 c3;generalize bs t.dep.name=s0 at *;generalize bs t.dep.evr.ver=s1 at *;generalize bs t.dep.evr.rel=s2 at *;generalize t.addr=tA at *;generalize t.cap=tc at *;generalize t.args=tl at *;obtain⟨z,hz⟩:∃z,IntKind.i64.wrap ((s0.size:Int)+(s1.size:Int))=z:=⟨_,rfl⟩;by_cases q1:(500:Int)<z
     ·go_wp2_with fail
      go_quiet (fail);go_wp2_with fail
      go_ret2
      exact⟨0,true,rfl,by omega,(fun h=>by cases h),qC8 HB.out⟩
     ·by_cases q2:(500:Int)<(s2.size:Int)
      ·go_wp2_with fail
       go_quiet (fail);go_wp2_with fail
       go_ret2
       exact⟨0,true,rfl,by omega,(fun h=>by cases h),qC8 HB.out⟩
      ·go_wp2_with fail
       go_quiet (fail);go_wp2_with fail
       go_at_call 92
       refine (IH.out tA tc tl _ ((HS.out.below (qC8 bR)).more hsz)).mono ?_;rintro e w2 ⟨m,r,rfl,hm2,hmp,h⟩;have HMP:=hid hmp;clear hmp;have hB2:=(qC8 HB.out).trans (h.mono hsz);clear h;cases r
       ·by_cases q3:(2000:Int)<(c:Int)+1+(m:Int)
        ·go_wp2_with fail
         go_ret2
         exact⟨0,true,rfl,by omega,(fun h=>by cases h),hB2⟩
        ·go_wp2_with fail
         go_roundw
         case rel=>exact⟨k+1,c+1+m,by omega,by omega,by go_num,by go_num,hid (HST.out m (HMP.out (by trivial))),hB2⟩
         case measure=>simp[intOf];omega
       ·go_wp2_with fail
        go_ret2
        exact⟨0,true,rfl,by omega,(fun h=>by cases h),hB2⟩
    ·have i1:¬(k:Int)<(n:Int):=by omega
     go_wp2_with fail
     go_ret2
     exact⟨c,false,rfl,hc,(fun _=>by rw[HCP.out,List.take_of_length_le (by rw[qA5];have:=HN.out;omega)]),hB⟩
end
section
theorem qLD (p:Pk)(w:World)(h:p.Laid w.heap.size w) : Calls Tryz.prog 93 #[p.val] w (qFC p w) := by
 have L1:=h.prov.len;have L2:=h.obs.len;have L3:=h.files.len;have n0:=h.n0;have n1:=h.n1;have n2:=h.n2;have n3:=h.n3;unfold maxLen at n0 n1 n2 n3;have H:=hid h;unfold Pk.val;clear h;have hbox:Below w.heap.size w (w.alloc (.cells #[.string p.name,.int .i64 p.epoch,.string p.ver,.string p.rel,.int .u8 p.arch,.string p.vendor,.slice p.provA p.prov.length p.provC,.slice p.reqA p.req.length p.reqC,.slice p.conA p.con.length p.conC,.slice p.obsA p.obs.length p.obsC,.slice p.rcmA p.rcm.length p.rcmC,.slice p.supA p.sup.length p.supC,.slice p.sugA p.sug.length p.sugC,.slice p.enhA p.enh.length p.enhC,.slice p.filesA p.files.length p.filesC] 28)):=(Below.refl _ w).alloc lR _;by_cases q0:(100:Int)<(p.prov.length:Int)
 ·go_enter Tryz.func93,Tryz.ntmps93
  go_wp2_with fail
  go_ret;exact qC1 hbox
 by_cases q1:(100:Int)<(p.obs.length:Int)
 ·go_enter Tryz.func93,Tryz.ntmps93
  go_wp2_with fail
  go_ret;exact qC1 hbox
 by_cases q2:(100:Int)<(p.files.length:Int)
 ·go_enter Tryz.func93,Tryz.ntmps93
  go_wp2_with fail
  go_ret;exact qC1 hbox
 by_cases q3:(1000:Int)<(p.name.size:Int)
 ·go_enter Tryz.func93,Tryz.ntmps93
  go_wp2_with fail
  go_ret;exact qC1 hbox
 by_cases q4:(1000:Int)<(p.vendor.size:Int)
 ·go_enter Tryz.func93,Tryz.ntmps93
  go_wp2_with fail
  go_ret;exact qC1 hbox
 by_cases q5:(1000:Int)<(p.ver.size:Int)
 ·go_enter Tryz.func93,Tryz.ntmps93
  go_wp2_with fail
  go_ret;exact qC1 hbox
 by_cases q6:(1000:Int)<(p.rel.size:Int)
 ·go_enter Tryz.func93,Tryz.ntmps93
  go_wp2_with fail
  go_ret;exact qC1 hbox
 have SM:=hid (fun (h:∀k,k<6->qA9 (qA1 (sixL p k))<=2000)=>show p.slim from⟨by omega,by omega,by omega,by omega,by omega,by omega,by omega,h⟩);have hz1:(w.alloc (.cells #[.string p.name,.int .i64 p.epoch,.string p.ver,.string p.rel,.int .u8 p.arch,.string p.vendor,.slice p.provA p.prov.length p.provC,.slice p.reqA p.req.length p.reqC,.slice p.conA p.con.length p.conC,.slice p.obsA p.obs.length p.obsC,.slice p.rcmA p.rcm.length p.rcmC,.slice p.supA p.sup.length p.supC,.slice p.sugA p.sug.length p.sugC,.slice p.enhA p.enh.length p.enhC,.slice p.filesA p.files.length p.filesC] 28)).heap.size=w.heap.size+1:=by simp
 have H6:=hid (fun (W':World) h (k:Nat) (hk:k<6)=>qXQ (w.alloc (.cells #[.string p.name,.int .i64 p.epoch,.string p.ver,.string p.rel,.int .u8 p.arch,.string p.vendor,.slice p.provA p.prov.length p.provC,.slice p.reqA p.req.length p.reqC,.slice p.conA p.con.length p.conC,.slice p.obsA p.obs.length p.obsC,.slice p.rcmA p.rcm.length p.rcmC,.slice p.supA p.sup.length p.supC,.slice p.sugA p.sug.length p.sugC,.slice p.enhA p.enh.length p.enhC,.slice p.filesA p.files.length p.filesC] 28)) p 25 (H.out.below hbox) (by rw[hz1];omega) W' h k hk);have HB:=hid (hbox.alloc (by rw[hz1];omega) (.cells #[.slice p.reqA p.req.length p.reqC,.slice p.conA p.con.length p.conC,.slice p.rcmA p.rcm.length p.rcmC,.slice p.supA p.sup.length p.supC,.slice p.sugA p.sug.length p.sugC,.slice p.enhA p.enh.length p.enhC] 25));clear hbox hz1
 go_enter Tryz.func93,Tryz.ntmps93
 go_wp2_with fail
 have hz1:(w.alloc (.cells #[.string p.name,.int .i64 p.epoch,.string p.ver,.string p.rel,.int .u8 p.arch,.string p.vendor,.slice p.provA p.prov.length p.provC,.slice p.reqA p.req.length p.reqC,.slice p.conA p.con.length p.conC,.slice p.obsA p.obs.length p.obsC,.slice p.rcmA p.rcm.length p.rcmC,.slice p.supA p.sup.length p.supC,.slice p.sugA p.sug.length p.sugC,.slice p.enhA p.enh.length p.enhC,.slice p.filesA p.files.length p.filesC] 28)).heap.size=w.heap.size+1:=by simp
 rw[hz1]at H6;generalize (w.alloc (.cells #[.string p.name,.int .i64 p.epoch,.string p.ver,.string p.rel,.int .u8 p.arch,.string p.vendor,.slice p.provA p.prov.length p.provC,.slice p.reqA p.req.length p.reqC,.slice p.conA p.con.length p.conC,.slice p.obsA p.obs.length p.obsC,.slice p.rcmA p.rcm.length p.rcmC,.slice p.supA p.sup.length p.supC,.slice p.sugA p.sug.length p.sugC,.slice p.enhA p.enh.length p.enhC,.slice p.filesA p.files.length p.filesC] 28)).alloc (.cells #[.slice p.reqA p.req.length p.reqC,.slice p.conA p.con.length p.conC,.slice p.rcmA p.rcm.length p.rcmC,.slice p.supA p.sup.length p.supC,.slice p.sugA p.sug.length p.sugC,.slice p.enhA p.enh.length p.enhC] 25)=V at *;clear q0 q1 q2 q3 q4 q5 q6 hz1
 go_loopw[3,64] (fun m i wr => ∃k n:Nat,k<=6/\n<=2000/\i=.int .i64 (k:Int)/\m=.int .i64 (n:Int)/\Hid (∀j,j<k->qA9 (qA1 (sixL p j))<=2000)/\Below V.heap.size V wr) (fun _ i _=>6 - (intOf i).toNat)
 case atStart=>exact⟨0,0,by omega,by omega,rfl,rfl,hid (by intro j h;omega),Below.refl _ _⟩
 case round =>
  obtain⟨k,n,hk,hn,rfl,rfl,HSX,hB⟩:=hrel;rename World=>wr
  by_cases hlt:k<6
  ·obtain⟨A6,c6,e6,h6⟩:=H6.out wr hB k hlt;have HSY:=hid (fun (h:qA9 (qA1 (sixL p k))<=2000)=>show ∀j,j<k+1->qA9 (qA1 (sixL p j))<=2000 from fun j hj=>by
    by_cases e:j=k
    ·subst e;exact h
    ·exact HSX.out j (by omega))
   generalize sixL p k=l6 at *;have MU:=hid (qEU 21 0 A6 c6 l6 wr rfl h6);have i0:(0:Int)<=(k:Int):=by omega
   have i1:(k:Int)<6:=by omega
   clear h6;go_wp2_with fail
   go_at_call 92
   refine MU.out.mono ?_;rintro e w3 ⟨m,r,rfl,hm,hmp,h⟩;have HMP:=hid hmp;clear hmp;have hB3:=hB.trans (h.mono hB.size);clear h MU;cases r
   ·by_cases q6':(2000:Int)<(n:Int)+(m:Int)
    ·go_wp2_with fail
     go_ret;exact qC1 (HB.out.trans (hB3.mono HB.out.size))
    ·go_wp2_with fail
     go_roundw
     case rel=>exact⟨k+1,n+m,by omega,by omega,by go_num,by go_num,hid (HSY.out (by have:=HMP.out (by trivial);omega)),hB3⟩
     case measure=>simp[intOf];omega
   ·go_wp2_with fail
    go_ret;exact qC1 (HB.out.trans (hB3.mono HB.out.size))
  ·have i1:¬(k:Int)<6:=by omega
   go_wp2_with fail
   go_ret;exact⟨false,rfl,fun _=>SM.out fun j hj=>HSX.out j (by omega),HB.out.trans (hB.mono HB.out.size)⟩
