/- R30A, TrMade2 -/
import Derived.Test.YteobmfpbgnmffaaGreatDoorT40
import Derived.Test.YteobmfpbgnmffaaGreatDoorT33
set_option linter.unusedVariables false
set_option maxHeartbeats 16000000
set_option maxRecDepth 100000
open Go.Lib (hid)
set_option linter.unusedSimpArgs false
namespace Go.Proofs.YteobmfpbgnmffaaGreatDoor
section
open Go.RowKit Go.Shelf
structure RPool (Q:Nat)(I:Int)(L:List Pk)(W:World) : Prop where
 at_:RPoolAt Q I L W
 may:∀q∈L,mayP q=true
theorem RPool.then {Q:Nat}{I:Int}{L:List Pk}{W W':World}(h:RPool Q I L W)(hb:Below W.heap.size W W') : RPool Q I L W' := ⟨h.at_.then hb,h.may⟩
theorem qIL {Q:Nat}{I:Int}{L:List Pk}(i:Int)(w:World)(hp:RPool Q I L w)(hn:L.length<=1000000) : Calls Tryz.prog 88 #[.pointer (some ⟨Q,0,none⟩),.int .i64 i] w fun e w'=>e=.returned (.bool (decide (0<=i/\i<(L.length : Int))))/\w=w' := by
 obtain⟨A,c,c0,_⟩:=hp.at_.c0;generalize L.length=n at *;clear hp;by_cases h1:0<=i
 ·by_cases h2:i<(n:Int)
  ·rw[decide_eq_true ⟨h1,h2⟩]
   go_enter Tryz.func88,Tryz.ntmps88
   go_wp2_with fail
   go_ret;exact⟨rfl,rfl⟩
  ·rw[decide_eq_false (fun h=>h2 h.2)]
   go_enter Tryz.func88,Tryz.ntmps88
   go_wp2_with fail
   go_ret;exact⟨rfl,rfl⟩
 ·rw[decide_eq_false (fun h=>h1 h.1)]
  go_enter Tryz.func88,Tryz.ntmps88
  go_wp2_with fail
  go_ret;exact⟨rfl,rfl⟩
theorem qV4 (p:Pk)(w:World) : Calls Tryz.prog 216 #[.string p.name,.agg #[.int .i64 p.epoch,.string p.ver,.string p.rel]] w fun r w'=>r=.returned p.ownD.val/\Below w.heap.size w w' := by
 have h:=qS6 p.name p.evr w;unfold Evr.val Pk.evr at h;dsimp only at h;rw[qCE,qCE]at h;unfold Pk.ownD Dp.val Pk.evr;dsimp only;rw[qCE,qCE,qCE];exact h
theorem qOR (p:Pk)(w:World) : Calls Tryz.prog 207 #[p.val] w fun r w'=>r=.returned p.ownD.val/\Below w.heap.size w w' := by
 have D:=hid (fun W=>qV4 p W);unfold Pk.val
 go_enter Tryz.func207,Tryz.ntmps207
 go_wp2_with fail
 go_at_call 216
 refine (D.out _).mono ?_;rintro e w2 ⟨rfl,h⟩;have hb:=((Below.refl w.heap.size w).alloc lR (.cells #[.string p.name,.int .i64 p.epoch,.string p.ver,.string p.rel,.int .u8 p.arch,.string p.vendor,.slice p.provA p.prov.length p.provC,.slice p.reqA p.req.length p.reqC,.slice p.conA p.con.length p.conC,.slice p.obsA p.obs.length p.obsC,.slice p.rcmA p.rcm.length p.rcmC,.slice p.supA p.sup.length p.supC,.slice p.sugA p.sug.length p.sugC,.slice p.enhA p.enh.length p.enhC,.slice p.filesA p.files.length p.filesC] 28)).alloc (by simp) (.cells #[.string ⟨#[]⟩,.int .u8 0,.int .i64 0,.string ⟨#[]⟩,.string ⟨#[]⟩] 37);have hB:=hb.trans (h.mono hb.size);have z0:w2.cell? ⟨w.heap.size+1,0,none⟩=some (.string ⟨#[]⟩):=(h.cell (p:=⟨w.heap.size+1,0,none⟩) (by simp)).trans ((World.cell?_alloc_at _ _ _ _ (by simp)).trans rfl);have f0:w2.frozen? ⟨w.heap.size+1,0,none⟩=false:=(h.frozen (p:=⟨w.heap.size+1,0,none⟩) (by simp)).trans (World.frozen?_alloc_at _ _ _ _ (by simp));have z1:w2.cell? ⟨w.heap.size+1,1,none⟩=some (.int .u8 0):=(h.cell (p:=⟨w.heap.size+1,1,none⟩) (by simp)).trans ((World.cell?_alloc_at _ _ _ _ (by simp)).trans rfl);have f1:w2.frozen? ⟨w.heap.size+1,1,none⟩=false:=(h.frozen (p:=⟨w.heap.size+1,1,none⟩) (by simp)).trans (World.frozen?_alloc_at _ _ _ _ (by simp));have z2:w2.cell? ⟨w.heap.size+1,2,none⟩=some (.int .i64 0):=(h.cell (p:=⟨w.heap.size+1,2,none⟩) (by simp)).trans ((World.cell?_alloc_at _ _ _ _ (by simp)).trans rfl);have f2:w2.frozen? ⟨w.heap.size+1,2,none⟩=false:=(h.frozen (p:=⟨w.heap.size+1,2,none⟩) (by simp)).trans (World.frozen?_alloc_at _ _ _ _ (by simp));have z3:w2.cell? ⟨w.heap.size+1,3,none⟩=some (.string ⟨#[]⟩):=(h.cell (p:=⟨w.heap.size+1,3,none⟩) (by simp)).trans ((World.cell?_alloc_at _ _ _ _ (by simp)).trans rfl);have f3:w2.frozen? ⟨w.heap.size+1,3,none⟩=false:=(h.frozen (p:=⟨w.heap.size+1,3,none⟩) (by simp)).trans (World.frozen?_alloc_at _ _ _ _ (by simp));have z4:w2.cell? ⟨w.heap.size+1,4,none⟩=some (.string ⟨#[]⟩):=(h.cell (p:=⟨w.heap.size+1,4,none⟩) (by simp)).trans ((World.cell?_alloc_at _ _ _ _ (by simp)).trans rfl);have f4:w2.frozen? ⟨w.heap.size+1,4,none⟩=false:=(h.frozen (p:=⟨w.heap.size+1,4,none⟩) (by simp)).trans (World.frozen?_alloc_at _ _ _ _ (by simp));have S:=qMR (W:=w2) (r:=w.heap.size+1) (fun i hi=>match i,hi with|0,_=>⟨_,z0⟩|1,_=>⟨_,z1⟩|2,_=>⟨_,z2⟩|3,_=>⟨_,z3⟩|4,_=>⟨_,z4⟩) (.string (bs p.name.toList)) (.int .u8 2) (.int .i64 p.epoch) (.string (bs p.ver.toList)) (.string (bs p.rel.toList));dsimp only at S;clear h hb D;unfold Pk.ownD Dp.val Pk.evr;dsimp only;obtain⟨s0,s1,s2,s3,s4,hS⟩:=S;go_wp2_with fail
 exact bodyPost_ret (v:=.agg #[.string (bs p.name.toList),.int .u8 2,.int .i64 p.epoch,.string (bs p.ver.toList),.string (bs p.rel.toList)]) (by simp[results,Tryz.results207,go_sem,s0,s1,s2,s3,s4]) rfl ⟨rfl,hS (by simp) hB⟩
def qGY (b0 b1:Nat)(s0 s1:ByteArray)(i:Nat)(v:Value)(W:World) : Prop := match i with
 |0=>v=.pointer (some ⟨b1,0,none⟩)
 |1=>v=.string s0
 |2=>v=.pointer (some ⟨b0,0,none⟩)
 |3=>v=.string s1
 | 4|5=>v=.bool false
 | 6|7|8|9=>v=undef
 | 10|11=>v=.bool false
 | _=>False
theorem qOQ (b0 b1:Nat)(s0 s1:ByteArray):∀i v w w',qGY b0 b1 s0 s1 i v w->Below w.heap.size w w'->qGY b0 b1 s0 s1 i v w' := by
 intro i v w w' h _
 match i,h with
 |0,h|1,h|2,h|3,h|4,h|5,h|6,h|7,h|8,h|9,h|10,h|11,h=>exact h
 | (i+12),h=>exact h.elim
theorem qK2 (p:Pk)(d:Dp)(w:World)(ho:p.evr.ok)(hd:d.evr.ok) : Calls Tryz.prog 180 #[p.val,d.val] w fun r w'=>r=.returned (.bool (qAS p.ownD d))/\Below w.heap.size w w' := by
 have sd:=qA3 d.name;by_cases hn:p.name.toList=d.name
 ·have OW:=hid (fun W=>qOR p W);have ME:=hid (fun W=>qK7 p.ownD d W ho hd);have e:qAS p.ownD d=qET p.ownD d:=by unfold qAS;rw[show p.ownD.name=d.name from hn];simp
  rw[e];have q1:((bs d.name).toList == p.name.toList)=true:=by rw[sd,hn];simp
  have q2:(bs d.name).toList=p.name.toList:=by rw[sd,hn]
  generalize qET p.ownD d=r at *;clear e hn sd;unfold Pk.val Pk.ownD Dp.val Pk.evr at *;dsimp only at OW ME |-;have S0:=qR9 p d w;dsimp only at S0
  go_enter Tryz.func180,Tryz.ntmps180
  go_wp2_with fail
  generalize ((w.alloc (.cells #[.string p.name,.int .i64 p.epoch,.string p.ver,.string p.rel,.int .u8 p.arch,.string p.vendor,.slice p.provA p.prov.length p.provC,.slice p.reqA p.req.length p.reqC,.slice p.conA p.con.length p.conC,.slice p.obsA p.obs.length p.obsC,.slice p.rcmA p.rcm.length p.rcmC,.slice p.supA p.sup.length p.supC,.slice p.sugA p.sug.length p.sugC,.slice p.enhA p.enh.length p.enhC,.slice p.filesA p.files.length p.filesC] 28)).alloc (.cells #[.string (bs d.name),.int .u8 d.op,.int .i64 d.evr.epoch,.string (bs d.evr.ver),.string (bs d.evr.rel)] 37))=W at *;generalize hn:w.heap.size=n at *;obtain⟨c0_0,c0_1,c0_2,c0_3,c0_4,c0_5,c0_6,c0_7,c0_8,c0_9,c0_10,c0_11,c0_12,c0_13,c0_14,c1_0,c1_1,c1_2,c1_3,c1_4,l0,l1,hB⟩:=id S0
  go_region_held3 (fun W=>W.cell? ⟨n,0,none⟩=some (.string p.name)/\W.cell? ⟨n,1,none⟩=some (.int .i64 p.epoch)/\W.cell? ⟨n,2,none⟩=some (.string p.ver)/\W.cell? ⟨n,3,none⟩=some (.string p.rel)/\W.cell? ⟨n,4,none⟩=some (.int .u8 p.arch)/\W.cell? ⟨n,5,none⟩=some (.string p.vendor)/\W.cell? ⟨n,6,none⟩=some (.slice p.provA p.prov.length p.provC)/\W.cell? ⟨n,7,none⟩=some (.slice p.reqA p.req.length p.reqC)/\W.cell? ⟨n,8,none⟩=some (.slice p.conA p.con.length p.conC)/\W.cell? ⟨n,9,none⟩=some (.slice p.obsA p.obs.length p.obsC)/\W.cell? ⟨n,10,none⟩=some (.slice p.rcmA p.rcm.length p.rcmC)/\W.cell? ⟨n,11,none⟩=some (.slice p.supA p.sup.length p.supC)/\W.cell? ⟨n,12,none⟩=some (.slice p.sugA p.sug.length p.sugC)/\W.cell? ⟨n,13,none⟩=some (.slice p.enhA p.enh.length p.enhC)/\W.cell? ⟨n,14,none⟩=some (.slice p.filesA p.files.length p.filesC)/\W.cell? ⟨(n+1),0,none⟩=some (.string (bs d.name))/\W.cell? ⟨(n+1),1,none⟩=some (.int .u8 d.op)/\W.cell? ⟨(n+1),2,none⟩=some (.int .i64 d.evr.epoch)/\W.cell? ⟨(n+1),3,none⟩=some (.string (bs d.evr.ver))/\W.cell? ⟨(n+1),4,none⟩=some (.string (bs d.evr.rel))/\n<W.heap.size/\(n+1)<W.heap.size/\Below n w W) (first|exact qQX (by assumption) hbb|exact⟨c0_0,c0_1,c0_2,c0_3,c0_4,c0_5,c0_6,c0_7,c0_8,c0_9,c0_10,c0_11,c0_12,c0_13,c0_14,c1_0,c1_1,c1_2,c1_3,c1_4,l0,l1,hB.drew⟩|go_keep) (first|(go_at_call 207;refine (OW.out _).mono ?_;rintro e w' ⟨rfl,hbb⟩)|(go_at_call 191;refine (ME.out _).mono ?_;rintro e w' ⟨rfl,hbb⟩))
  rename_i hh
  have hB2:=qSQ hh;go_wp2
  go_ret;exact⟨rfl,by rw[hn];exact hB2⟩
 ·have e:qAS p.ownD d=false:=by unfold qAS;rw[show (p.ownD.name == d.name)=false from beq_eq_false_iff_ne.2 hn];rfl
  rw[e];have q1:((bs d.name).toList == p.name.toList)=false:=by rw[sd];exact beq_eq_false_iff_ne.2 fun h=>hn h.symm
  have q2:¬(bs d.name).toList=p.name.toList:=by rw[sd];exact fun h=>hn h.symm
  have S0:=qR9 p d w;dsimp only at S0;unfold Pk.val Dp.val
  go_enter Tryz.func180,Tryz.ntmps180
  go_wp2_with fail
  generalize ((w.alloc (.cells #[.string p.name,.int .i64 p.epoch,.string p.ver,.string p.rel,.int .u8 p.arch,.string p.vendor,.slice p.provA p.prov.length p.provC,.slice p.reqA p.req.length p.reqC,.slice p.conA p.con.length p.conC,.slice p.obsA p.obs.length p.obsC,.slice p.rcmA p.rcm.length p.rcmC,.slice p.supA p.sup.length p.supC,.slice p.sugA p.sug.length p.sugC,.slice p.enhA p.enh.length p.enhC,.slice p.filesA p.files.length p.filesC] 28)).alloc (.cells #[.string (bs d.name),.int .u8 d.op,.int .i64 d.evr.epoch,.string (bs d.evr.ver),.string (bs d.evr.rel)] 37))=V at *;obtain⟨c0_0,c0_1,c0_2,c0_3,c0_4,c0_5,c0_6,c0_7,c0_8,c0_9,c0_10,c0_11,c0_12,c0_13,c0_14,c1_0,c1_1,c1_2,c1_3,c1_4,l0,l1,hB⟩:=S0;have C0:=hid c0_0;have C1:=hid c1_0;have L0:=hid l0;have L1:=hid l1;have Q1:=hid q1;have Q2:=hid q2;have HB:=hid hB;clear c0_0 c0_1 c0_2 c0_3 c0_4 c0_5 c0_6 c0_7 c0_8 c0_9 c0_10 c0_11 c0_12 c0_13 c0_14 c1_0 c1_1 c1_2 c1_3 c1_4 l0 l1 hB q1 q2 e hn sd;generalize bs d.name=s0 at *;refine qA6 (PP:=qGY w.heap.size (w.heap.size+1) s0 p.name) 12 rfl (by kernel_rfl) (by kernel_rfl) (by decide) (by decide) (qOQ w.heap.size (w.heap.size+1) s0 p.name) (fun ii=>match ii with|11=>.bool false|_=>undef) (by simp[qA4,gQ]) ?_ ?_
  ·intro i o vs W hi ho he hBW K hK;simp only[gT,qA4,gQ]at hK |-;have C0W:=hid ((hBW.cell (p:=⟨w.heap.size,0,none⟩) L0.out).trans C0.out);have C1W:=hid ((hBW.cell (p:=⟨w.heap.size+1,0,none⟩) L1.out).trans C1.out);obtain rfl|rfl|rfl|rfl|rfl|rfl|rfl|rfl|rfl|rfl|rfl|rfl:=c12_ hi<;>simp only[gE]at ho<;>subst ho
   ·rw[if_pos (by rfl)];simp only[gQ]at hK;have HK:=hid hK;clear hK he hi hBW;go_simp;exact HK.out _ _ (by first|rfl|simp[qGY]) bR
   ·have e0:vs 0=_:=dq he 0;rw[e0]at hK |-;rw[if_pos (by rfl)];simp only[gQ]at hK;have HK:=hid hK;clear hK he hi hBW;have cc:=C1W.out;go_simp;exact HK.out _ _ rfl bR
   ·rw[if_pos (by rfl)];simp only[gQ]at hK;have HK:=hid hK;clear hK he hi hBW;go_simp;exact HK.out _ _ (by first|rfl|simp[qGY]) bR
   ·have e2:vs 2=_:=dq he 2;rw[e2]at hK |-;rw[if_pos (by rfl)];simp only[gQ]at hK;have HK:=hid hK;clear hK he hi hBW;have cc:=C0W.out;go_simp;exact HK.out _ _ rfl bR
   ·have e1:vs 1=_:=dq he 1;rw[e1]at hK |-;have e3:vs 3=_:=dq he 3;rw[e3]at hK |-;rw[if_pos (by rfl)];simp only[gQ]at hK;have HK:=hid hK;clear hK he hi hBW;have q1:=Q1.out;have q2:=Q2.out;go_simp;exact HK.out _ _ (by simp[qGY,q1,q2]) bR
   ·have e4:vs 4=_:=dq he 4;rw[e4]at hK |-;rw[if_pos (by rfl)];simp only[gQ]at hK;have HK:=hid hK;clear hK he hi hBW;go_simp;exact HK.out _ _ (by first|rfl|simp[qGY]) bR
   iterate 4 ·have e5:vs 5=_:=gd he 5;rw[e5]at hK |-;refine wN bF ?_;exact hK _ _ rfl bR
   ·have e5:vs 5=_:=dq he 5;rw[e5]at hK |-;rw[if_pos (by rfl)];simp only[gQ]at hK;have HK:=hid hK;clear hK he hi hBW;go_simp;exact HK.out _ _ (by first|rfl|simp[qGY]) bR
   ·have e10:vs 10=_:=dq he 10;rw[e10]at hK |-;rw[if_pos (by rfl)];simp only[gQ]at hK;have HK:=hid hK;clear hK he hi hBW;go_simp;exact HK.out _ _ (by first|rfl|simp[qGY]) bR
  ·intro vs W2 hall hBW;have e11:vs 11=.bool false:=(hall 11 (by decide):qGY w.heap.size (w.heap.size+1) s0 p.name 11 (vs 11) W2);simp only[gT,qA4,qAB,qAA,gP];rw[e11];generalize vs 0=y0,vs 1=y1,vs 2=y2,vs 3=y3,vs 4=y4,vs 5=y5,vs 6=y6,vs 7=y7,vs 8=y8,vs 9=y9,vs 10=y10;have BW2:=hid (HB.out.trans (hBW.mono (Nat.le_of_lt L0.out)));clear hall hBW e11;go_wp2_with fail
   go_ret;exact⟨rfl,BW2.out⟩
theorem qO2 {p:Pk}(h:mayP p=true) : p.evr.ok := by
 have s:=qCC h;have h1:=s.ver;have h2:=s.rel;exact⟨by show p.ver.toList.length<=1000000;rw[qA7];omega,by show p.rel.toList.length<=1000000;rw[qA7];omega⟩
end
section
open Go.RowKit Go.Shelf
def qMF (repos:List Rp)(ins:List Pk)(w:World)(e:Ending)(w':World) : Prop :=
 ((qB4 repos ins=0 /\ ∃(P:Nat) (L:List Pr),e=.returned (.tuple #[.pointer (some ⟨P,0,none⟩),.int .i64 0])/\Pool P (ins.length:Int) L w'/\qB9 (allP repos ins) L/\ins.length<=L.length/\L.length<=100) \/ (qB4 repos ins≠0/\e=.returned (.tuple #[.pointer none,.int .i64 (qB4 repos ins)])))/\Below w.heap.size w w'
theorem qJM {RA:Option Addr}{rc:Nat}{repos:List Rp}{IA:Option Addr}{ic:Nat}{ins:List Pk}{w0 w:World}{k:Int}(hI:PkIn w)(hr:RpRow w.heap.size w RA rc repos)(hi:PRow w.heap.size w IA ic ins)(hN:Narrow repos ins k)(hrq:∀r∈repos,∀p∈r.pk,PkQ w0 p)(hiq:∀p∈ins,PkQ w0 p) :
  Calls Tryz.prog 23 #[.slice RA repos.length rc,.slice IA ins.length ic] w (qMF repos ins w):=by
 have hd:=qFY hN hrq hiq;have h1:=hN.all;have h2:=hN.nr;refine (qG6 RA rc repos IA ic ins w hI hr hi hd (by omega) (by omega)).mono ?_;rintro e w' ⟨hok,hno,hb⟩;refine⟨?_,hb⟩;by_cases he:qB4 repos ins=0
 ·obtain⟨P,L,rfl,hat,hal⟩:=hok he;have hl:=hal.1;rw[qHW]at hl;exact .inl ⟨he,P,L,rfl,Pool.of hat hal he fun x hx=>(hd x hx).2,hal,by omega,by omega⟩
 ·exact .inr ⟨he,hno he⟩
def qMG (repos:List Rp)(ins:List Pk)(w:World)(e:Ending)(w':World) : Prop :=
 ((qB4 repos ins=0 /\ ∃(Q:Nat) (L:List Pk),e=.returned (.tuple #[.pointer (some ⟨Q,0,none⟩),.int .i64 0])/\RPool Q (ins.length:Int) L w'/\qAQ (allP repos ins) L) \/ (qB4 repos ins≠0/\e=.returned (.tuple #[.pointer none,.int .i64 (qB4 repos ins)])))/\Below w.heap.size w w'
theorem qJN {RA:Option Addr}{rc:Nat}{repos:List Rp}{IA:Option Addr}{ic:Nat}{ins:List Pk}{w0 w:World}{k:Int}(hr:RpRow w.heap.size w RA rc repos)(hi:PRow w.heap.size w IA ic ins)(hN:Narrow repos ins k)(hrq:∀r∈repos,∀p∈r.pk,PkQ w0 p)(hiq:∀p∈ins,PkQ w0 p) :
  Calls Tryz.prog 24 #[.slice RA repos.length rc,.slice IA ins.length ic] w (qMG repos ins w):=by
 have hd:=qFY hN hrq hiq;have h1:=hN.all;have h2:=hN.nr;refine (qOW RA rc repos IA ic ins w hr hi hd (by omega) (by omega)).mono ?_;rintro e w' ⟨hok,hno,hb⟩;refine⟨?_,hb⟩;by_cases he:qB4 repos ins=0
 ·obtain⟨Q,L,rfl,hat,hal⟩:=hok he;refine .inl ⟨he,Q,L,rfl,⟨hat,fun q hq => ?_⟩,hal⟩;obtain⟨i,hi,rfl⟩:=List.getElem_of_mem hq;have hi2:i<(allP repos ins).length:=by rw[<- hal.1];exact hi
  rw[(hal.2 i hi2 hi).may];exact qHG he _ (List.getElem_mem hi2)
 ·exact .inr ⟨he,hno he⟩
