/- TrTells -/
import Derived.Test.YteobmfpbgnmffaaGreatDoorT36
import Derived.Test.YteobmfpbgnmffaaGreatDoorT37
import Derived.Test.YteobmfpbgnmffaaGreatDoorT46
set_option linter.unusedVariables false
set_option maxHeartbeats 16000000
set_option maxRecDepth 100000
open Go.Lib (hid)
set_option linter.unusedSimpArgs false
namespace Go.Proofs.YteobmfpbgnmffaaGreatDoor
open Go.RowKit Go.Shelf
def tt17 (T Q m sc wn wc:Nat)(SA WA:Option Addr)(R:RV)(x:Int)(WS:List Int)(va vb vd:Bool)(i:Nat)(v:Value)(W:World) : Prop := match i with
 |0=>v=.pointer (some ⟨T,0,none⟩)
 |1=>v=.slice SA m sc
 |2=>v=.agg #[.int .u8 R.kind,.string (bs R.dep.name),.int .u8 R.dep.op,.int .i64 R.dep.evr.epoch,.string (bs R.dep.evr.ver),.string (bs R.dep.evr.rel),.slice R.addr R.args.length R.cap]
 |3=>v=.bool va
 |4=>v=.pointer (some ⟨Q,0,none⟩)
 |5=>v=.slice SA m sc
 |6=>v=.agg #[.int .u8 R.kind,.string (bs R.dep.name),.int .u8 R.dep.op,.int .i64 R.dep.evr.epoch,.string (bs R.dep.evr.ver),.string (bs R.dep.evr.rel),.slice R.addr R.args.length R.cap]
 |7=>v=.bool va
 | 8|9=>v=.bool false
 |10=>v=.pointer (some ⟨T,0,none⟩)
 |11=>v=.slice SA m sc
 |12=>v=.int .i64 x
 |13=>v=.agg #[.int .u8 R.kind,.string (bs R.dep.name),.int .u8 R.dep.op,.int .i64 R.dep.evr.epoch,.string (bs R.dep.evr.ver),.string (bs R.dep.evr.rel),.slice R.addr R.args.length R.cap]
 |14=>v=.bool vb
 |15=>v=.pointer (some ⟨Q,0,none⟩)
 |16=>v=.slice SA m sc
 |17=>v=.int .i64 x
 |18=>v=.agg #[.int .u8 R.kind,.string (bs R.dep.name),.int .u8 R.dep.op,.int .i64 R.dep.evr.epoch,.string (bs R.dep.evr.ver),.string (bs R.dep.evr.rel),.slice R.addr R.args.length R.cap]
 |19=>v=.bool vb
 | 20|21|22=>v=.bool false
 |23=>v=.pointer (some ⟨T,0,none⟩)
 |24=>v=.int .i64 x
 |25=>v=.agg #[.int .u8 R.kind,.string (bs R.dep.name),.int .u8 R.dep.op,.int .i64 R.dep.evr.epoch,.string (bs R.dep.evr.ver),.string (bs R.dep.evr.rel),.slice R.addr R.args.length R.cap]
 |26=>v=.bool vd
 |27=>v=.pointer (some ⟨Q,0,none⟩)
 |28=>v=.int .i64 x
 |29=>v=.agg #[.int .u8 R.kind,.string (bs R.dep.name),.int .u8 R.dep.op,.int .i64 R.dep.evr.epoch,.string (bs R.dep.evr.ver),.string (bs R.dep.evr.rel),.slice R.addr R.args.length R.cap]
 |30=>v=.bool vd
 | 31|32|33=>v=.bool false
 |34=>v=.slice WA wn wc
 |35=>v=.pointer (some ⟨Q,0,none⟩)
 |36=>v=.slice SA m sc
 |37=>v=.agg #[.int .u8 R.kind,.string (bs R.dep.name),.int .u8 R.dep.op,.int .i64 R.dep.evr.epoch,.string (bs R.dep.evr.ver),.string (bs R.dep.evr.rel),.slice R.addr R.args.length R.cap]
 | 38 => ∃A c,v=.slice A wn c/\Rd encI 1 W.heap.size A c WS W
 |39=>v=.bool true
 | 40|41=>v=.bool false
 | _=>False
theorem qT6 (T Q m sc wn wc:Nat)(SA WA:Option Addr)(R:RV)(x:Int)(WS:List Int)(va vb vd:Bool):∀i v w w',tt17 T Q m sc wn wc SA WA R x WS va vb vd i v w->Below w.heap.size w w'->tt17 T Q m sc wn wc SA WA R x WS va vb vd i v w' := by
 intro i v w w' h hb
 match i,h with
 |0,h|1,h|2,h|3,h|4,h|5,h|6,h|7,h|8,h|9,h|10,h|11,h|12,h|13,h|14,h|15,h|16,h|17,h|18,h|19,h|20,h|21,h|22,h|23,h|24,h|25,h|26,h|27,h|28,h|29,h|30,h|31,h|32,h|33,h|34,h|35,h|36,h|37,h=>exact h
 |38,h=>exact h.elim fun A h=>h.elim fun c h=>⟨A,c,h.1,(h.2.below hb).more hb.size⟩
 |39,h|40,h|41,h=>exact h
 | (k+42),h=>exact h.elim
theorem qH2 (w:World)(hI:WhIn w)(RA:Option Addr)(rc:Nat)(repos:List Rp)(hr:RpRow w.heap.size w RA rc repos)(hrq:∀r∈repos,∀p∈r.pk,PkQ w p)(IA:Option Addr)(ic:Nat)(ins:List Pk)(hi:PRow w.heap.size w IA ic ins)(hiq:∀p∈ins,PkQ w p)(SA:Option Addr)(sc:Nat)(S:List Int)(hS:Rd encI 1 w.heap.size SA sc S w/\(∀z∈S,(Lit.int .i64 z).wf=true)/\S.length<=1000000000000000)(x:Int)(hxw:(Lit.int .i64 x).wf=true)(R:RV)(hR:RTree w.heap.size w R) : Calls Tryz.prog 9 #[.slice RA repos.length rc,.slice IA ins.length ic,.slice SA S.length sc,.int .i64 x,R.val] w fun e w'=>e=.returned (.bool true)/\Below w.heap.size w w' := by
 obtain⟨hS,hSw,hSl⟩:=hS;obtain⟨nr,hnr9⟩:∃n,repos.length=n:=⟨_,rfl⟩;obtain⟨I0,hI09⟩:∃n,ins.length=n:=⟨_,rfl⟩;have B1:=hid ((Below.refl w.heap.size w).alloc lR (.cells #[.int .u8 R.kind,.string (bs R.dep.name),.int .u8 R.dep.op,.int .i64 R.dep.evr.epoch,.string (bs R.dep.evr.ver),.string (bs R.dep.evr.rel),.slice R.addr R.args.length R.cap] 39));have RBV:=hid (RBx.new R w);have WD:=hid (fun W (hb:Below w.heap.size w W)=>show Calls Tryz.prog 36 #[.slice RA nr rc,.slice IA I0 ic,.slice SA S.length sc,R.val] W (qPQ repos ins S.length R W) from hnr9 ▸ hI09 ▸ qPL RA rc repos IA ic ins SA S.length sc R W (hr.calls hb) (hi.calls hb) ((hR.keeps hb).more hb.size));have AW:=hid (fun W (hb:Below w.heap.size w W)=>qP9 W (hI.below hb));have MD:=hid (fun (k:Int) (hn:Narrow repos ins k) W (hb:Below w.heap.size w W)=>show Calls Tryz.prog 23 #[.slice RA nr rc,.slice IA I0 ic] W (qMF repos ins W) from hnr9 ▸ hI09 ▸ qJM (w0:=w) (hI.1.below hb) (hr.calls hb) (hi.calls hb) hn hrq hiq);have ME:=hid (fun (k:Int) (hn:Narrow repos ins k) W (hb:Below w.heap.size w W)=>show Calls Tryz.prog 24 #[.slice RA nr rc,.slice IA I0 ic] W (qMG repos ins W) from hnr9 ▸ hI09 ▸ qJN (w0:=w) (hr.calls hb) (hi.calls hb) hn hrq hiq);have TM0:=hid (fun W (hb:Below w.heap.size w W)=>show WhIn W/\RTree W.heap.size W R/\Rd encI 1 W.heap.size SA sc S W from⟨hI.below hb,(hR.keeps hb).more hb.size,(hS.below hb).more hb.size⟩);unfold RV.val at *;obtain⟨m,hm⟩:∃m,S.length=m:=⟨_,rfl⟩;rw[hm]at WD |-;rw[hnr9,hI09];have HM:=hid hm;have HI0:=hid hI09;clear hI hr hrq hi hiq hS hSw hSl hR hm hnr9 hI09
 go_enter Tryz.func9,Tryz.ntmps9
 go_wp2_with fail
 obtain⟨V,hV⟩:∃V,V=w.alloc (.cells #[.int .u8 R.kind,.string (bs R.dep.name),.int .u8 R.dep.op,.int .i64 R.dep.evr.epoch,.string (bs R.dep.evr.ver),.string (bs R.dep.evr.rel),.slice R.addr R.args.length R.cap] 39):=⟨_,rfl⟩;rw[<- hV]at B1 RBV |-;clear hV;go_at_call 36
 refine (WD.out V B1.out).mono ?_;rintro en w1 ⟨r,rfl,hn,h⟩;have B2:=hid (B1.out.trans (h.mono B1.out.size));have RB2:=hid (RBV.out.then h);have HNR:=hid hn;clear h hn WD B1 RBV;cases r
 rotate_left
 ·go_wp2_with fail
  go_at_call 37
  refine (AW.out _ B2.out).mono ?_;rintro en w9 ⟨rfl,h⟩;have B9:=hid (B2.out.trans (h.mono B2.out.size));clear h;go_wp2_with fail
  go_ret;exact⟨rfl,B9.out⟩
 have NW:=hid (HNR.out rfl);clear HNR;have hs200:m<=200:=by have:=NW.out.1.nk;have:=HM.out;omega
 go_wp2_with fail
 go_at_call 23
 refine (MD.out _ NW.out.1 w1 B2.out).mono ?_;clear MD;rintro e w3 ⟨h3,hb3⟩;have B3:=hid (B2.out.trans (hb3.mono B2.out.size));have RB3:=hid (RB2.out.then hb3);clear hb3 B2 RB2;rcases h3 with⟨he0,P,L,rfl,hp3,hal,hl1,hl2⟩|⟨hne,rfl⟩
 rotate_left
 ·have HNE:=hid hne;obtain⟨er,her⟩:∃er,qB4 repos ins=er:=⟨_,rfl⟩;have HER:=hid her;rw[her]at hne |-;clear her;go_wp2_with fail
  go_at_call 24
  refine (ME.out _ NW.out.1 w3 B3.out).mono ?_;clear ME;rintro e w4 ⟨h4,hb4⟩;have B4:=hid (B3.out.trans (hb4.mono B3.out.size));clear hb4 B3;rcases h4 with⟨he0,_⟩|⟨_,rfl⟩
  ·exact absurd he0 HNE.out
  ·rw[HER.out];go_wp2_with fail
   go_at_call 37
   refine (AW.out _ B4.out).mono ?_;rintro en w9 ⟨rfl,h⟩;have B9:=hid (B4.out.trans (h.mono B4.out.size));clear h;go_wp2_with fail
   go_ret;exact⟨rfl,B9.out⟩
 have HE0:=hid he0;rw[HI0.out]at hp3 hl1;have P3:=hid hp3;have HAL:=hid hal;have HL2:=hid hl2;clear hp3 hl1 hl2 hal he0;go_wp2_with fail
 go_at_call 24
 refine (ME.out _ NW.out.1 w3 B3.out).mono ?_;clear ME;rintro e w4 ⟨h4,hb4⟩;have B4:=hid (B3.out.trans (hb4.mono B3.out.size));have RB4:=hid (RB3.out.then hb4);have P4:=hid (P3.out.then hb4);clear hb4 B3 RB3 P3;rcases h4 with⟨_,Q,L',rfl,hq4,hal'⟩|⟨hne,_⟩
 rotate_left
 ·exact absurd HE0.out hne
 rw[HI0.out]at hq4;have Q4:=hid hq4;have HAL2:=hid hal';clear hq4 hal' HE0 HI0;have TN:=hid (qF7 P4.out (by have:=HL2.out;omega));go_wp2_with fail
 go_at_call 50
 refine TN.out.mono ?_;rintro en w5 ⟨T,X,L2,rfl,ht,ha2,hb⟩;have B5:=hid (B4.out.trans (hb.mono B4.out.size));have RB5:=hid (RB4.out.then hb);have Q5:=hid (Q4.out.then hb);have A1:=hid (show qAQ (allP repos ins) (L.map Pr.pk) from⟨by rw[List.length_map];exact HAL.out.1,fun i h1 h2=>by rw[List.getElem_map];exact HAL.out.2 i h1 (by rw[List.length_map]at h2;exact h2)⟩);have PVE:=hid (show pvL L'=pvL L2 from qS1 HAL2.out (qF2 A1.out ha2));obtain⟨N,hN⟩:∃N,L.length=N:=⟨_,rfl⟩;have HN2:=hid (show L'.length=N from by rw[<- hN,HAL2.out.1,HAL.out.1]);rw[hN]at ht HL2;have T5:=hid ht;clear ht ha2 hb TN B4 RB4 Q4 P4 HAL HAL2 A1 hN;have HP:=hid (show R.tree.parts<=1000000 by have:=NW.out.2;omega);have HN6:=hid (show L'.length<=1000000 by have:=HN2.out;have:=HL2.out;omega);obtain⟨va,hva⟩:∃v,Tr.satS N (pvL L2) S R.tree=v:=⟨_,rfl⟩;obtain⟨vb,hvb⟩:∃v,Tr.satS N (pvL L2) (qBQ S x) R.tree=v:=⟨_,rfl⟩;obtain⟨vd,hvd⟩:∃v,Tr.aloneS N (pvL L2) x R.tree=v:=⟨_,rfl⟩;obtain⟨WS,hWS⟩:∃v,Tr.whoS N (pvL L2) S R.tree=v:=⟨_,rfl⟩;have LWS:=hid (show WS.length<=N from by rw[<- hWS];exact qIR N);have F1:=hid (fun W (hb:Below w5.heap.size w5 W)=>hva ▸ HM.out ▸ qFQ (T5.out.then hb) (TM0.out W (B5.out.trans (hb.mono B5.out.size))).1 SA sc S (TM0.out W (B5.out.trans (hb.mono B5.out.size))).2.2 R (TM0.out W (B5.out.trans (hb.mono B5.out.size))).2.1 HP.out);have F2:=hid (fun W (hb:Below w5.heap.size w5 W)=>show Calls Tryz.prog 52 #[.pointer (some ⟨Q,0,none⟩),.slice SA m sc,R.val] W fun e w'=>e=.returned (.bool va)/\Below W.heap.size W w' from by
  have h:=qEW (Q5.out.then hb) HN6.out SA sc S (TM0.out W (B5.out.trans (hb.mono B5.out.size))).2.2 (by have:=HM.out;omega) R (TM0.out W (B5.out.trans (hb.mono B5.out.size))).2.1 HP.out;rw[HM.out,HN2.out,PVE.out,hva]at h;exact h)
 have F3:=hid (fun W (hb:Below w5.heap.size w5 W)=>hvb ▸ HM.out ▸ qKN (T5.out.then hb) (TM0.out W (B5.out.trans (hb.mono B5.out.size))).1 SA sc S (TM0.out W (B5.out.trans (hb.mono B5.out.size))).2.2 (by have:=HM.out;omega) x R (TM0.out W (B5.out.trans (hb.mono B5.out.size))).2.1 HP.out);have F4:=hid (fun W (hb:Below w5.heap.size w5 W)=>show Calls Tryz.prog 54 #[.pointer (some ⟨Q,0,none⟩),.slice SA m sc,.int .i64 x,R.val] W fun e w'=>e=.returned (.bool vb)/\Below W.heap.size W w' from by
  have h:=qGZ (Q5.out.then hb) HN6.out SA sc S (TM0.out W (B5.out.trans (hb.mono B5.out.size))).2.2 (by have:=HM.out;omega) x R (TM0.out W (B5.out.trans (hb.mono B5.out.size))).2.1 HP.out (by have:=HM.out;omega);rw[HM.out,HN2.out,PVE.out,hvb]at h;exact h)
 have F5:=hid (fun W (hb:Below w5.heap.size w5 W)=>hvd ▸ qEY (T5.out.then hb) (TM0.out W (B5.out.trans (hb.mono B5.out.size))).1 x R (TM0.out W (B5.out.trans (hb.mono B5.out.size))).2.1 HP.out);have F6:=hid (fun W (hb:Below w5.heap.size w5 W)=>show Calls Tryz.prog 55 #[.pointer (some ⟨Q,0,none⟩),.int .i64 x,R.val] W fun e w'=>e=.returned (.bool vd)/\Below W.heap.size W w' from by
  have h:=qF6 (Q5.out.then hb) HN6.out x R (TM0.out W (B5.out.trans (hb.mono B5.out.size))).2.1 HP.out;rw[HN2.out,PVE.out,hvd]at h;exact h)
 have F7:=hid (fun W (hb:Below w5.heap.size w5 W)=>hWS ▸ HM.out ▸ qNJ (T5.out.then hb) (TM0.out W (B5.out.trans (hb.mono B5.out.size))).1 SA sc S (TM0.out W (B5.out.trans (hb.mono B5.out.size))).2.2 R (TM0.out W (B5.out.trans (hb.mono B5.out.size))).2.1 HP.out);have F8:=hid (fun W (hb:Below w5.heap.size w5 W)=>show Calls Tryz.prog 56 #[.pointer (some ⟨Q,0,none⟩),.slice SA m sc,R.val] W fun e w' => ∃A c,e=.returned (.slice A WS.length c)/\Rd encI 1 w'.heap.size A c WS w'/\Below W.heap.size W w' from by
  have h:=qOZ (Q5.out.then hb) HN6.out SA sc S (TM0.out W (B5.out.trans (hb.mono B5.out.size))).2.2 (by have:=HM.out;omega) R (TM0.out W (B5.out.trans (hb.mono B5.out.size))).2.1 HP.out;rw[HM.out,HN2.out,PVE.out,hWS]at h;refine h.mono ?_;rintro e w' ⟨v,rfl,ho,h⟩;obtain⟨A,c,rfl,hr⟩:=ho.rd qAZ;exact⟨A,c,rfl,hr,h⟩)
 have CPY:=hid (fun W (hb:Below w5.heap.size w5 W)=>(qK5 R.ht R W lR HP.out (TM0.out W (B5.out.trans (hb.mono B5.out.size))).2.1).mono fun e w' hh=>qBK.tq (TM0.out W (B5.out.trans (hb.mono B5.out.size))).2.1.wf hh);unfold RV.val at F1 F2 F3 F4 F5 F6 F7 F8 CPY;clear hva hvb hvd hWS PVE;go_wp2_with fail
 refine qH4 (PP:=fun og=>TLP og w5.heap.size m sc SA S R) (Bx:=TLX) (By:=TLY R) 8 5 7 rfl (by kernel_rfl) (by kernel_rfl) (by decide) (by decide) (by decide) (by decide) (by decide) (by kernel_rfl) (fun og i v w' w'' _ _ _ h hb=>qMH og i v w' w'' h hb) (fun i v w' w'' g _ _ h hg hb=>qWL i v w' w'' g h hg hb) (fun i v w' w'' g _ _ h _ hg=>qPP i v w' w'' g h hg) qTI qMI (fun _=>undef) (by simp[qA4,qAB,qAA,gP]) ?_ ?_ ?_ ?_
 ·intro i o og vs W hi hne hneA ho hog he hBW K hK;simp only[gT,qA4,qAB,qAA,gP]at hK |-;have BW:=hid hBW;have RBW:=hid (RB5.out.then hBW);obtain rfl|rfl|rfl|rfl|rfl|rfl|rfl|rfl:=c8_ hi<;>simp only[gE]at ho<;>subst ho
  ·rw[if_pos (by rfl)];simp only[gQ]at hK;have HK:=hid hK;clear hK he;go_simp;exact HK.out _ _ ⟨W.heap.size,rfl,Own.more (qRN (enc:=encI) (size:=1) (fun _=>rfl) [] W 3 (by simp)) BW.out.size,fun g hg=>Nat.ne_of_gt (hog g hg)⟩ (bR.alloc lR _)
  ·rw[if_pos (by rfl)];simp only[gQ]at hK;have HK:=hid hK;clear hK he;go_simp;exact HK.out _ _ rfl bR
  ·obtain⟨g0,e0,ho0,hn0⟩:=(he ⟨0,.data⟩ (by simp) rfl (by decide) (by decide):TLP og w5.heap.size m sc SA S R 0 (vs 0) W);have e1:vs 1=.slice SA m sc:=(he ⟨1,.data⟩ (by simp) rfl (by decide) (by decide):TLP og w5.heap.size m sc SA S R 1 (vs 1) W);rw[e0]at ho0;rw[e0,e1]at hK |-;rw[if_pos (by rfl)];simp only[gQ]at hK;have HK:=hid hK;clear hK he;refine qGT W _ _ 42 rfl w5.heap.size 3 _ _ 1 _ (by rfl) (by rfl) (by rfl) (by rfl) (by rfl) (by rfl) (by decide) (fun _=>rfl) qBW g0 rfl ho0 _ SA sc S m HM.out.symm rfl (TM0.out W (B5.out.trans (BW.out.mono B5.out.size))).2.2 (by have:=HM.out;omega) (by decide) BW.out.size ?_;intro v' w' ho' hb' hbl';refine HK.out _ _ ⟨ho',fun g hg e => ?_⟩ hb';rcases hbl' g e with h|h
   ·exact hn0 g hg h.symm
   ·have:=hog g hg;omega
  ·rw[if_pos (by rfl)];simp only[gQ]at hK;have HK:=hid hK;clear hK he;obtain⟨_,c0,c1,c2,c3,c4,c5,c6⟩:=RBW.out;go_simp;exact HK.out _ _ rfl bR
  ·have e3:vs 3=.agg #[.int .u8 R.kind,.string (bs R.dep.name),.int .u8 R.dep.op,.int .i64 R.dep.evr.epoch,.string (bs R.dep.evr.ver),.string (bs R.dep.evr.rel),.slice R.addr R.args.length R.cap]:=(he ⟨3,.data⟩ (by simp) rfl (by decide) (by decide):TLP og w5.heap.size m sc SA S R 3 (vs 3) W);rw[e3]at hK |-;rw[if_pos (by rfl)];simp only[gQ]at hK;have HK:=hid hK;clear hK he;have CW:=CPY.out W BW.out;go_simp;go_at_call 51
   refine CW.mono ?_;rintro en w9 ⟨C,rfl,hC,hq,h⟩;go_simp;exact HK.out _ _ ⟨C,rfl,hC,hq.keep (fun b hb=>⟨fun g hg=>by have:=hog g hg;have:=hb.1;omega,hb.2⟩) fun b hb=>rfl⟩ h
  ·exact absurd rfl hneA
  ·obtain⟨ho2,hn2⟩:=(he ⟨2,.data⟩ (by simp) rfl (by decide) (by decide):TLP og w5.heap.size m sc SA S R 2 (vs 2) W);obtain⟨A9,c9,e9⟩:=qAG ho2;rw[e9]at ho2 hn2;rw[e9]at hK |-;rw[if_pos (by rfl)];simp only[gQ]at hK;have HK:=hid hK;clear hK he;go_simp;exact HK.out _ _ ⟨ho2,hn2⟩ bR
  ·exact absurd rfl hne
 ·intro o vs W ho hBW K hK;simp only[gT,qA4,qAB,qAA,gP]at hK |-;simp only[gE]at ho;subst ho;rw[if_pos (by rfl)];simp only[gQ]at hK;have HK:=hid hK;clear hK;go_simp;exact HK.out W.heap.size _ lR (by simp) ⟨_,_,_,_,_,_,_,Box7.new W _ _ _ _ _ _ _ _⟩ (bR.alloc lR _)
 ·intro o vs W g ho he e5 hgw hbx hBW K hK;simp only[gT,qA4,qAB,qAA,gP]at hK |-;simp only[gE]at ho;subst ho;obtain⟨C,e4,hC,hq⟩:=(he ⟨4,.data⟩ (by simp) rfl (by decide) (by decide):TLP (some g) w5.heap.size m sc SA S R 4 (vs 4) W);unfold RV.val at e4;rw[e5,e4]at hK |-;rw[if_pos (by rfl)];have HK:=hid hK;have HBX:=hid hbx;clear hK he;obtain⟨a0,a1,a2,a3,a4,a5,a6,⟨h0,h1,h2,h3,h4,h5,h6⟩,⟨f0,f1,f2,f3,f4,f5,f6⟩,hl⟩:=hbx;go_simp;exact HK.out undef _ (qY5 HBX.out hC hq) (qJB _ _ _ _ _ _ _ _ _)
 ·intro vs W6 g hall e5 hgw hby hBW;obtain⟨ho6,_⟩:TLP (some g) w5.heap.size m sc SA S R 6 (vs 6) W6:=hall 6 (by decide) (by decide) (by decide);obtain⟨KA,kc,e6⟩:=qAG ho6;rw[e6]at ho6;obtain⟨A8,c8,e8,hk8⟩:=Own.rd ho6 (fun _=>rfl);cases e8
  rw[HM.out]at e6;simp only[gT,qA4,qAB,qAA,gP];rw[e5,e6];generalize vs 0=y0,vs 1=y1,vs 2=y2,vs 3=y3,vs 4=y4;have KR:=hid hk8;have BY:=hid hby;have B56:=hid hBW;have RB6:=hid (RB5.out.then hBW);clear hall e5 e6 hgw hby hBW ho6 hk8 CPY RB5;go_wp2_with fail
  go_loopw[19] (fun iv wr => ∃k:Nat,k<=2/\iv=.int .i64 (k:Int)/\Below W6.heap.size W6 wr) (fun iv _=>2 - (intOf iv).toNat)
  case atStart=>exact⟨0,by omega,rfl,Below.refl _ _⟩
  case round =>
   obtain⟨k,hk,rfl,hB⟩:=hrel;rename World=>wr
   have HB:=hid hB;have B5R:=hid (B56.out.trans (hB.mono B56.out.size));have RBR:=hid (RB6.out.then hB);clear hB;by_cases hlt:k<2
   ·have i1:(k:Int)<2:=by omega
    have FW:=hid (F7.out wr B5R.out);obtain⟨_,c0,c1,c2,c3,c4,c5,c6⟩:=RBR.out;go_wp2_with fail
    go_at_call 41
    refine FW.out.mono ?_;rintro en w7 ⟨v7,rfl,ho7,h⟩;have B57:=hid (B5R.out.trans (h.mono B5R.out.size));have BR7:=hid h;have RB7:=hid (RBR.out.then h);have O7:=hid ho7;obtain⟨WA,wc,rfl⟩:=qAG ho7;have WR7:=hid (qXM (enc:=encI) (size:=1) (fun _=>rfl) ho7);obtain⟨wn,hwn⟩:∃n,WS.length=n:=⟨_,rfl⟩;have HWN:=hid hwn;rw[hwn];have F8n:=hid (hwn ▸ F8.out);have hwn1:wn<=1000:=by have:=LWS.out;have:=HL2.out;omega
    clear h ho7 FW hwn c0 c1 c2 c3 c4 c5 c6 RBR;go_wp2_with fail
    have NUM:=hid (fun W (hb:Below w7.heap.size w7 W) A c (hA:Rd encI 1 W.heap.size A c WS W)=>show Calls Tryz.prog 30 #[.slice WA wn wc,.slice A wn c] W fun e w'=>e=.returned (.bool true)/\Below W.heap.size W w' from by
     have h:=qCV WA A wc c WS WS W (by have:=HWN.out;omega) (by have:=HWN.out;omega) ((WR7.out.below hb).more hb.size) hA;rw[decide_eq_true rfl,HWN.out]at h;exact h)
    refine qA6 (PP:=tt17 T Q m sc wn wc SA WA R x WS va vb vd) 42 rfl (by kernel_rfl) (by kernel_rfl) (by decide) (by decide) (qT6 T Q m sc wn wc SA WA R x WS va vb vd) (fun ii=>match ii with|0=>u66|1=>u67|2=>u68|3=>u69|4=>u70|5=>u71|6=>u72|7=>u73|8=>u74|9=>u75|10=>u76|11=>u77|12=>u78|13=>u79|14=>u80|15=>u81|16=>u82|17=>u83|18=>u84|19=>u85|20=>u86|21=>u87|22=>u88|23=>u89|24=>u90|25=>u91|26=>u92|27=>u93|28=>u94|29=>u95|30=>u96|31=>u97|32=>u98|33=>u99|34=>u100|35=>u101|36=>u102|37=>u103|38=>u104|39=>u105|40=>u106|41=>u107|_=>undef) (by simp[qA4,gQ]) ?_ ?_
    ·intro i o vs W hi ho he hBW K hK;simp only[gT,qA4,gQ]at hK |-;have BWR:=hid hBW;have BW5:=hid (B57.out.trans (hBW.mono B57.out.size));have RBW:=hid (RB7.out.then hBW);obtain rfl|rfl|rfl|rfl|rfl|rfl|rfl|rfl|rfl|rfl|rfl|rfl|rfl|rfl|rfl|rfl|rfl|rfl|rfl|rfl|rfl|rfl|rfl|rfl|rfl|rfl|rfl|rfl|rfl|rfl|rfl|rfl|rfl|rfl|rfl|rfl|rfl|rfl|rfl|rfl|rfl|rfl:=c42_ hi<;>simp only[gE]at ho<;>subst ho
     iterate 2 ·rw[if_pos (by rfl)];simp only[gQ]at hK;have HK:=hid hK;clear hK he hi hBW;go_simp;exact HK.out _ _ (by first|rfl|simp[tt17]) bR
     ·rw[if_pos (by rfl)];simp only[gQ]at hK;have HK:=hid hK;clear hK he hi hBW;obtain⟨_,c0,c1,c2,c3,c4,c5,c6⟩:=RBW.out;go_simp;exact HK.out _ _ rfl bR
     ·have e0:vs 0=_:=dq he 0;rw[e0]at hK |-;have e1:vs 1=_:=dq he 1;rw[e1]at hK |-;have e2:vs 2=_:=dq he 2;rw[e2]at hK |-;rw[if_pos (by rfl)];simp only[gQ]at hK;have HK:=hid hK;clear hK he hi hBW;have CW:=F1.out W BW5.out;go_simp;go_at_call 40
      refine CW.mono ?_;rintro en w9 ⟨rfl,h⟩;go_simp;exact HK.out _ _ rfl h
     iterate 2 ·rw[if_pos (by rfl)];simp only[gQ]at hK;have HK:=hid hK;clear hK he hi hBW;go_simp;exact HK.out _ _ (by first|rfl|simp[tt17]) bR
     ·rw[if_pos (by rfl)];simp only[gQ]at hK;have HK:=hid hK;clear hK he hi hBW;obtain⟨_,c0,c1,c2,c3,c4,c5,c6⟩:=RBW.out;go_simp;exact HK.out _ _ rfl bR
     ·have e4:vs 4=_:=dq he 4;rw[e4]at hK |-;have e5:vs 5=_:=dq he 5;rw[e5]at hK |-;have e6:vs 6=_:=dq he 6;rw[e6]at hK |-;rw[if_pos (by rfl)];simp only[gQ]at hK;have HK:=hid hK;clear hK he hi hBW;have CW:=F2.out W BW5.out;go_simp;go_at_call 52
      refine CW.mono ?_;rintro en w9 ⟨rfl,h⟩;go_simp;exact HK.out _ _ rfl h
     ·have e3:vs 3=_:=dq he 3;rw[e3]at hK |-;have e7:vs 7=_:=dq he 7;rw[e7]at hK |-;rw[if_pos (by rfl)];simp only[gQ]at hK;have HK:=hid hK;clear hK he hi hBW;go_simp;exact HK.out _ _ (by simp[tt17]) bR
     ·have e8:vs 8=_:=dq he 8;rw[e8]at hK |-;rw[if_pos (by rfl)];simp only[gQ]at hK;have HK:=hid hK;clear hK he hi hBW;go_simp;exact HK.out _ _ (by first|rfl|simp[tt17]) bR
     iterate 3 ·have e9:vs 9=_:=gd he 9;rw[e9]at hK |-;rw[if_pos (by rfl)];simp only[gQ]at hK;have HK:=hid hK;clear hK he hi hBW;go_simp;exact HK.out _ _ (by first|rfl|simp[tt17]) bR
     ·have e9:vs 9=_:=gd he 9;rw[e9]at hK |-;rw[if_pos (by rfl)];simp only[gQ]at hK;have HK:=hid hK;clear hK he hi hBW;obtain⟨_,c0,c1,c2,c3,c4,c5,c6⟩:=RBW.out;go_simp;exact HK.out _ _ rfl bR
     ·have e10:vs 10=_:=dq he 10;rw[e10]at hK |-;have e11:vs 11=_:=dq he 11;rw[e11]at hK |-;have e12:vs 12=_:=dq he 12;rw[e12]at hK |-;have e13:vs 13=_:=dq he 13;rw[e13]at hK |-;have e9:vs 9=_:=gd he 9;rw[e9]at hK |-;rw[if_pos (by rfl)];simp only[gQ]at hK;have HK:=hid hK;clear hK he hi hBW;have CW:=F3.out W BW5.out;go_simp;go_at_call 53
      refine CW.mono ?_;rintro en w9 ⟨rfl,h⟩;go_simp;exact HK.out _ _ rfl h
     iterate 3 ·have e9:vs 9=_:=gd he 9;rw[e9]at hK |-;rw[if_pos (by rfl)];simp only[gQ]at hK;have HK:=hid hK;clear hK he hi hBW;go_simp;exact HK.out _ _ (by first|rfl|simp[tt17]) bR
     ·have e9:vs 9=_:=gd he 9;rw[e9]at hK |-;rw[if_pos (by rfl)];simp only[gQ]at hK;have HK:=hid hK;clear hK he hi hBW;obtain⟨_,c0,c1,c2,c3,c4,c5,c6⟩:=RBW.out;go_simp;exact HK.out _ _ rfl bR
     ·have e15:vs 15=_:=dq he 15;rw[e15]at hK |-;have e16:vs 16=_:=dq he 16;rw[e16]at hK |-;have e17:vs 17=_:=dq he 17;rw[e17]at hK |-;have e18:vs 18=_:=dq he 18;rw[e18]at hK |-;have e9:vs 9=_:=gd he 9;rw[e9]at hK |-;rw[if_pos (by rfl)];simp only[gQ]at hK;have HK:=hid hK;clear hK he hi hBW;have CW:=F4.out W BW5.out;go_simp;go_at_call 54
      refine CW.mono ?_;rintro en w9 ⟨rfl,h⟩;go_simp;exact HK.out _ _ rfl h
     ·have e14:vs 14=_:=dq he 14;rw[e14]at hK |-;have e19:vs 19=_:=dq he 19;rw[e19]at hK |-;have e9:vs 9=_:=gd he 9;rw[e9]at hK |-;rw[if_pos (by rfl)];simp only[gQ]at hK;have HK:=hid hK;clear hK he hi hBW;go_simp;exact HK.out _ _ (by simp[tt17]) bR
     ·have e9:vs 9=_:=dq he 9;rw[e9]at hK |-;have e20:vs 20=_:=dq he 20;rw[e20]at hK |-;rw[if_pos (by rfl)];simp only[gQ]at hK;have HK:=hid hK;clear hK he hi hBW;go_simp;exact HK.out _ _ (by simp[tt17]) bR
     ·have e21:vs 21=_:=dq he 21;rw[e21]at hK |-;rw[if_pos (by rfl)];simp only[gQ]at hK;have HK:=hid hK;clear hK he hi hBW;go_simp;exact HK.out _ _ (by first|rfl|simp[tt17]) bR
     iterate 2 ·have e22:vs 22=_:=gd he 22;rw[e22]at hK |-;rw[if_pos (by rfl)];simp only[gQ]at hK;have HK:=hid hK;clear hK he hi hBW;go_simp;exact HK.out _ _ (by first|rfl|simp[tt17]) bR
     ·have e22:vs 22=_:=gd he 22;rw[e22]at hK |-;rw[if_pos (by rfl)];simp only[gQ]at hK;have HK:=hid hK;clear hK he hi hBW;obtain⟨_,c0,c1,c2,c3,c4,c5,c6⟩:=RBW.out;go_simp;exact HK.out _ _ rfl bR
     ·have e23:vs 23=_:=dq he 23;rw[e23]at hK |-;have e24:vs 24=_:=dq he 24;rw[e24]at hK |-;have e25:vs 25=_:=dq he 25;rw[e25]at hK |-;have e22:vs 22=_:=gd he 22;rw[e22]at hK |-;rw[if_pos (by rfl)];simp only[gQ]at hK;have HK:=hid hK;clear hK he hi hBW;have CW:=F5.out W BW5.out;go_simp;go_at_call 43
      refine CW.mono ?_;rintro en w9 ⟨rfl,h⟩;go_simp;exact HK.out _ _ rfl h
     iterate 2 ·have e22:vs 22=_:=gd he 22;rw[e22]at hK |-;rw[if_pos (by rfl)];simp only[gQ]at hK;have HK:=hid hK;clear hK he hi hBW;go_simp;exact HK.out _ _ (by first|rfl|simp[tt17]) bR
     ·have e22:vs 22=_:=gd he 22;rw[e22]at hK |-;rw[if_pos (by rfl)];simp only[gQ]at hK;have HK:=hid hK;clear hK he hi hBW;obtain⟨_,c0,c1,c2,c3,c4,c5,c6⟩:=RBW.out;go_simp;exact HK.out _ _ rfl bR
     ·have e27:vs 27=_:=dq he 27;rw[e27]at hK |-;have e28:vs 28=_:=dq he 28;rw[e28]at hK |-;have e29:vs 29=_:=dq he 29;rw[e29]at hK |-;have e22:vs 22=_:=gd he 22;rw[e22]at hK |-;rw[if_pos (by rfl)];simp only[gQ]at hK;have HK:=hid hK;clear hK he hi hBW;have CW:=F6.out W BW5.out;go_simp;go_at_call 55
      refine CW.mono ?_;rintro en w9 ⟨rfl,h⟩;go_simp;exact HK.out _ _ rfl h
     ·have e26:vs 26=_:=dq he 26;rw[e26]at hK |-;have e30:vs 30=_:=dq he 30;rw[e30]at hK |-;have e22:vs 22=_:=gd he 22;rw[e22]at hK |-;rw[if_pos (by rfl)];simp only[gQ]at hK;have HK:=hid hK;clear hK he hi hBW;go_simp;exact HK.out _ _ (by simp[tt17]) bR
     ·have e22:vs 22=_:=dq he 22;rw[e22]at hK |-;have e31:vs 31=_:=dq he 31;rw[e31]at hK |-;rw[if_pos (by rfl)];simp only[gQ]at hK;have HK:=hid hK;clear hK he hi hBW;go_simp;exact HK.out _ _ (by simp[tt17]) bR
     ·have e32:vs 32=_:=dq he 32;rw[e32]at hK |-;rw[if_pos (by rfl)];simp only[gQ]at hK;have HK:=hid hK;clear hK he hi hBW;go_simp;exact HK.out _ _ (by first|rfl|simp[tt17]) bR
     iterate 3 ·have e33:vs 33=_:=gd he 33;rw[e33]at hK |-;rw[if_pos (by rfl)];simp only[gQ]at hK;have HK:=hid hK;clear hK he hi hBW;go_simp;exact HK.out _ _ (by first|rfl|simp[tt17]) bR
     ·have e33:vs 33=_:=gd he 33;rw[e33]at hK |-;rw[if_pos (by rfl)];simp only[gQ]at hK;have HK:=hid hK;clear hK he hi hBW;obtain⟨_,c0,c1,c2,c3,c4,c5,c6⟩:=RBW.out;go_simp;exact HK.out _ _ rfl bR
     ·have e35:vs 35=_:=dq he 35;rw[e35]at hK |-;have e36:vs 36=_:=dq he 36;rw[e36]at hK |-;have e37:vs 37=_:=dq he 37;rw[e37]at hK |-;have e33:vs 33=_:=gd he 33;rw[e33]at hK |-;rw[if_pos (by rfl)];simp only[gQ]at hK;have HK:=hid hK;clear hK he hi hBW;have CW:=F8n.out W BW5.out;go_simp;go_at_call 56
      refine CW.mono ?_;rintro en w9 ⟨A9,c9,rfl,hr9,h⟩;go_simp;exact HK.out _ _ ⟨A9,c9,rfl,hr9⟩ h
     ·have e34:vs 34=_:=dq he 34;rw[e34]at hK |-;obtain⟨A9,c9,e9,r9⟩:=dq he 38;rw[e9]at hK |-;have R9:=hid r9;have e33:vs 33=_:=gd he 33;rw[e33]at hK |-;rw[if_pos (by rfl)];simp only[gQ]at hK;have HK:=hid hK;clear hK he hi hBW;have CW:=NUM.out W BWR.out A9 c9 R9.out;go_simp;go_at_call 30
      refine CW.mono ?_;rintro en w9 ⟨rfl,h⟩;go_simp;exact HK.out _ _ rfl h
     ·have e39:vs 39=_:=dq he 39;rw[e39]at hK |-;have e33:vs 33=_:=gd he 33;rw[e33]at hK |-;rw[if_pos (by rfl)];simp only[gQ]at hK;have HK:=hid hK;clear hK he hi hBW;go_simp;exact HK.out _ _ (by simp[tt17]) bR
     ·have e33:vs 33=_:=dq he 33;rw[e33]at hK |-;have e40:vs 40=_:=dq he 40;rw[e40]at hK |-;rw[if_pos (by rfl)];simp only[gQ]at hK;have HK:=hid hK;clear hK he hi hBW;go_simp;exact HK.out _ _ (by simp[tt17]) bR
    ·intro vs W8 hall hBW;have eo:vs 41=.bool false:=hall 41 (by decide);simp only[gT,qA4,qAB,qAA,gP];rw[eo];generalize vs 0=q0,vs 1=q1,vs 2=q2,vs 3=q3,vs 4=q4,vs 5=q5,vs 6=q6,vs 7=q7,vs 8=q8,vs 9=q9,vs 10=q10,vs 11=q11,vs 12=q12,vs 13=q13,vs 14=q14,vs 15=q15,vs 16=q16,vs 17=q17,vs 18=q18,vs 19=q19,vs 20=q20,vs 21=q21,vs 22=q22,vs 23=q23,vs 24=q24,vs 25=q25,vs 26=q26,vs 27=q27,vs 28=q28,vs 29=q29,vs 30=q30,vs 31=q31,vs 32=q32,vs 33=q33,vs 34=q34,vs 35=q35,vs 36=q36,vs 37=q37,vs 38=q38,vs 39=q39,vs 40=q40;have BR8:=hid (BR7.out.trans (hBW.mono BR7.out.size));have P8:=hid (show W8.ownsRow wr.heap.size 3 1 (.slice WA wn wc) wn (WS.flatMap encI) from by have h:=O7.out.below hBW lR;unfold Own at h;rw[HWN.out]at h;exact h);have G8:=hid (show wn=0 \/ ∃g,WA=some ⟨g,0,none⟩/\wr.heap.size<=g from by
      rcases qXN P8.out with h|⟨g,cap,e,h1,h2⟩
      ·exact .inl h
      ·simp only[Value.slice.injEq]at e;exact .inr ⟨g,e.1,h1⟩)
     clear hall hBW eo NUM O7 WR7 RB7 B57 BR7 F8n;go_wp2_with fail
     go_loopw[21] (fun kv wy => ∃(q:Nat) (ys:List Value),q<=wn/\kv=.int .i64 (q:Int)/\wy.ownsRow wr.heap.size 3 1 (.slice WA wn wc) wn ys/\Below wr.heap.size wr wy) (fun kv _=>wn - (intOf kv).toNat)
     case atStart=>exact⟨0,_,Nat.zero_le _,rfl,P8.out,BR8.out⟩
     case round =>
      obtain⟨q,ys,hq,rfl,hy,hBy⟩:=hrel;rename World=>wy
      have HYY:=hid hy;have BYY:=hid hBy;clear hy hBy P8 BR8;by_cases hlq:q<wn
      ·have q0:(0:Int)<=(q:Int):=by omega
       have q1:(q:Int)<(wn:Int):=by omega
       rcases G8.out with h0|⟨g9,rfl,hg1⟩
       ·omega
       obtain⟨u9,hc,hf⟩:=qV7 HYY.out (k:=q) (by omega);have NY:=hid (qDA HYY.out q (.int .i64 (-7)));have NB:=hid (show Below wr.heap.size wr (wy.setCell ⟨g9,q,none⟩ (.int .i64 (-7))) from BYY.out.setCell hg1 _);clear HYY BYY hg1;go_wp2_with fail
       go_roundw
       case rel=>exact⟨q+1,_,by omega,by go_num,NY.out,NB.out⟩
       case measure=>simp[intOf];omega
      ·obtain rfl:q=wn:=by omega
       have q1:¬(q:Int)<(q:Int):=by omega
       have B6Y:=hid (HB.out.trans (BYY.out.mono HB.out.size));clear HYY BYY G8;go_wp2_with fail
       go_roundw
       case rel=>exact⟨k+1,by omega,by go_num,B6Y.out⟩
       case measure=>simp[intOf];omega
   ·obtain rfl:k=2:=by omega
    have i1:¬((2:Nat):Int)<2:=by omega
    have BW9:=hid (B5.out.trans (B5R.out.mono B5.out.size));obtain⟨C,hC,hcx,hct⟩:=qMI g _ _ BY.out HB.out;have NU:=hid (show Calls Tryz.prog 30 #[.slice SA m sc,.slice KA m kc] wr fun e w'=>e=.returned (.bool true)/\Below wr.heap.size wr w' from by
     have h:=qCV SA KA sc kc S S wr (by have:=HM.out;omega) (by have:=HM.out;omega) (TM0.out wr BW9.out).2.2 ((KR.out.below HB.out).more HB.out.size);rw[decide_eq_true rfl,HM.out]at h;exact h)
    have SM:=hid (fun W (hb:Below wr.heap.size wr W)=>show Calls Tryz.prog 57 #[R.val,C.val] W fun e w'=>e=.returned (.bool true)/\Below W.heap.size W w' from by
     have h:=qK8 R.ht R C W lR (TM0.out W (BW9.out.trans (hb.mono BW9.out.size))).2.1 ((hct.keeps hb).more hb.size);rw[hC,qP5]at h;exact h)
    unfold RV.val at SM;have CXR:=hid hcx;clear hC hcx hct;go_wp2_with fail
    go_at_call 30
    refine NU.out.mono ?_;rintro en wa ⟨rfl,h⟩;have BA:=hid h;have RBA:=hid (RBR.out.then h);have CXA:=hid (CXR.out.then h);have B9A:=hid (BW9.out.trans (h.mono BW9.out.size));clear h NU RBR CXR BW9;obtain⟨_,c0,c1,c2,c3,c4,c5,c6⟩:=RBA.out;obtain⟨_,d0,d1,d2,d3,d4,d5,d6⟩:=CXA.out;have SMA:=hid (SM.out wa BA.out);clear SM;go_wp2_with fail
    go_at_call 57
    refine SMA.out.mono ?_;rintro en wb ⟨rfl,h⟩;have B9B:=hid (B9A.out.trans (h.mono B9A.out.size));clear h SMA c0 c1 c2 c3 c4 c5 c6 d0 d1 d2 d3 d4 d5 d6;go_wp2_with fail
    go_at_call 37
    refine (AW.out _ B9B.out).mono ?_;rintro en wc9 ⟨rfl,h⟩;have B9C:=hid (B9B.out.trans (h.mono B9B.out.size));clear h;go_wp2_with fail
    go_ret;exact⟨rfl,B9C.out⟩
