/- TrIs6, TrIs7 -/
import Derived.Test.YteobmfpbgnmffaaGreatDoorT28
set_option linter.unusedVariables false
set_option maxHeartbeats 16000000
set_option maxRecDepth 100000
open Go.Lib (hid)
set_option linter.unusedSimpArgs false
namespace Go.Proofs.YteobmfpbgnmffaaGreatDoor
section
open Go.RowKit Go.Shelf
def atmP (ab T X rx:Nat)(d:Dp)(zs:List Int)(r:Bool)(i:Nat)(v:Value)(W:World) : Prop := match i with
 |0=>v=.pointer (some ⟨ab,0,none⟩)
 |1=>v=.pointer (some ⟨T,0,none⟩)
 |2=>v=.pointer (some ⟨T,0,none⟩)
 |3=>v=.pointer (some ⟨T,0,none⟩)
 |4=>v=.pointer (some ⟨X,0,none⟩)
 |5=>v=.pointer (some ⟨rx,1,none⟩)
 |6=>v=.agg #[.string (bs d.name),.int .u8 d.op,.int .i64 d.evr.epoch,.string (bs d.evr.ver),.string (bs d.evr.rel)]
 | 7 => ∃A c,v=.slice A zs.length c/\Rd encI 1 W.heap.size A c zs W
 |8=>v=.func (.func 183) #[] #[.pointer (some ⟨ab,0,none⟩)]
 |9=>v=.bool r
 | _=>False
theorem qPY (ab T X rx:Nat)(d:Dp)(zs:List Int)(r:Bool):∀i v w w',atmP ab T X rx d zs r i v w->Below w.heap.size w w'->atmP ab T X rx d zs r i v w' := by
 intro i v w w' h hb
 match i,h with
 |0,h|1,h|2,h|3,h|4,h|5,h|6,h=>exact h
 |7,h=>exact h.elim fun A h=>h.elim fun c h=>⟨A,c,h.1,(h.2.below hb).more hb.size⟩
 |8,h|9,h=>exact h
 | (k+10),h=>exact h.elim
section
variable {T X N:Nat}{L:List Pk}
theorem qZB {b:Nat}{R:RV}{d:Dp}{V W:World}(h:b<V.heap.size/\V.cell? ⟨b,0,none⟩=some (.int .u8 R.kind)/\V.cell? ⟨b,1,none⟩=some (.string (bs d.name))/\V.cell? ⟨b,2,none⟩=some (.int .u8 d.op)/\V.cell? ⟨b,3,none⟩=some (.int .i64 d.evr.epoch)/\V.cell? ⟨b,4,none⟩=some (.string (bs d.evr.ver))/\V.cell? ⟨b,5,none⟩=some (.string (bs d.evr.rel))/\V.cell? ⟨b,6,none⟩=some (.slice R.addr R.args.length R.cap))(hb:Below V.heap.size V W) :
  b<W.heap.size/\W.cell? ⟨b,0,none⟩=some (.int .u8 R.kind)/\W.cell? ⟨b,1,none⟩=some (.string (bs d.name))/\W.cell? ⟨b,2,none⟩=some (.int .u8 d.op)/\W.cell? ⟨b,3,none⟩=some (.int .i64 d.evr.epoch)/\W.cell? ⟨b,4,none⟩=some (.string (bs d.evr.ver))/\W.cell? ⟨b,5,none⟩=some (.string (bs d.evr.rel))/\W.cell? ⟨b,6,none⟩=some (.slice R.addr R.args.length R.cap):=by
 obtain⟨hl,c0,c1,c2,c3,c4,c5,c6⟩:=h;exact⟨Nat.lt_of_lt_of_le hl hb.size,(hb.cell (p:=⟨b,0,none⟩) hl).trans c0,(hb.cell (p:=⟨b,1,none⟩) hl).trans c1,(hb.cell (p:=⟨b,2,none⟩) hl).trans c2,(hb.cell (p:=⟨b,3,none⟩) hl).trans c3,(hb.cell (p:=⟨b,4,none⟩) hl).trans c4,(hb.cell (p:=⟨b,5,none⟩) hl).trans c5,(hb.cell (p:=⟨b,6,none⟩) hl).trans c6⟩
theorem qTQ (R:RV)(hdm:qAL R.dep=true)(rb:Nat)(f:Nat->Bool)(U:World)(hA:AskT T X N rb L f U)(hT:RTree U.heap.size U R) :
  Calls Tryz.prog 136 #[askW T rb N,R.val] U fun e w'=>e=.returned (.bool (Tr.anyN N fun n=>f n && pvL L n R.dep))/\Below U.heap.size U w':=by
 have b1:=(Below.refl U.heap.size U).alloc lR (.cells #[.pointer (some ⟨T,0,none⟩),.slice (some ⟨rb,0,none⟩) N N] 145);have b2:=b1.alloc (by simp) (.cells #[.int .u8 R.kind,.string (bs R.dep.name),.int .u8 R.dep.op,.int .i64 R.dep.evr.epoch,.string (bs R.dep.evr.ver),.string (bs R.dep.evr.rel),.slice R.addr R.args.length R.cap] 39);have bb:=(Below.refl _ (U.alloc (.cells #[.pointer (some ⟨T,0,none⟩),.slice (some ⟨rb,0,none⟩) N N] 145))).alloc lR (.cells #[.int .u8 R.kind,.string (bs R.dep.name),.int .u8 R.dep.op,.int .i64 R.dep.evr.epoch,.string (bs R.dep.evr.ver),.string (bs R.dep.evr.rel),.slice R.addr R.args.length R.cap] 39);have a1:=(ABox.new T rb N U 145).then bb;have RB:=RBx.new R (U.alloc (.cells #[.pointer (some ⟨T,0,none⟩),.slice (some ⟨rb,0,none⟩) N N] 145));rw[World.size_alloc]at RB;obtain⟨d,hd⟩:∃d,d=R.dep:=⟨_,rfl⟩;obtain⟨zs,hzs⟩:∃zs,zs=qRY L d:=⟨_,rfl⟩;obtain⟨r,hr⟩:∃r,r=zs.any (fun z=>f z.toNat):=⟨_,rfl⟩;have HRR:=hid (show (Tr.anyN N fun n=>f n && pvL L n R.dep)=r from by rw[hr,hzs,qPT,hA.tr.len,hd]);have HZ:=hid (show ∀z∈zs,∃k:Nat,z=(k:Int)/\k<N from fun z hz=>by rw[hzs,<- qG9]at hz;obtain⟨k,e,hk⟩:=qQS (List.mem_filter.1 hz).1;exact⟨k,e,by rw[<- hA.tr.len];exact hk⟩);have HZN:=hid (show zs.length<=1000000 from by rw[hzs,<- qG9];have h1:=List.length_filter_le (fun z:Int=>pvL L z.toNat d) (idxF L (bs d.name));have h2:=qMU L (bs d.name);have h3:=hA.tr.len;have h4:=hA.tr.hN;omega);have PV:=hid (fun W (ht:TruthAt T X N L W)=>(show Calls Tryz.prog 182 #[.pointer (some ⟨X,0,none⟩),d.val] W fun e w' => ∃v,e=.returned v/\Own encI 1 W.heap.size 3 v zs w'/\Below W.heap.size W w' from by
  have q:=qIJ ht.ix d (by rw[hd];exact hT.wf) (by rw[hd];exact qFP (qE1 hdm)) (by rw[hd];exact Dp.wf_ok hT.wf) ht.may (by have:=ht.len;have:=ht.hN;omega) (fun s z hz=>qQS hz) (fun s=>by have:=qMU L s;have:=ht.len;have:=ht.hN;omega);rw[show ((idxF L (bs d.name)).filter fun z=>(L[z.toNat]?).any fun q=>qC7 q d)=zs from by rw[hzs];exact qG9 L d]at q;exact q))
 have CF:=hid (fun W (hb:Below ((U.alloc (.cells #[.pointer (some ⟨T,0,none⟩),.slice (some ⟨rb,0,none⟩) N N] 145)).alloc (.cells #[.int .u8 R.kind,.string (bs R.dep.name),.int .u8 R.dep.op,.int .i64 R.dep.evr.epoch,.string (bs R.dep.evr.ver),.string (bs R.dep.evr.rel),.slice R.addr R.args.length R.cap] 39)).heap.size ((U.alloc (.cells #[.pointer (some ⟨T,0,none⟩),.slice (some ⟨rb,0,none⟩) N N] 145)).alloc (.cells #[.int .u8 R.kind,.string (bs R.dep.name),.int .u8 R.dep.op,.int .i64 R.dep.evr.epoch,.string (bs R.dep.evr.ver),.string (bs R.dep.evr.rel),.slice R.addr R.args.length R.cap] 39)) W) A c (h:Rd encI 1 W.heap.size A c zs W)=>hr ▸ qL6 183 (fun _ _=>rfl) #[.pointer (some ⟨U.heap.size,0,none⟩)] (fun z=>f z.toNat) zs A c W h HZN.out (fun z hz W' hB=>by
  obtain⟨k,rfl,hk⟩:=HZ.out z hz;have q:=qPZ (T:=T) (X:=X) (L:=L) U.heap.size rb f W' k hk (hA.then (b2.trans ((hb.trans (hB.mono hb.size)).mono b2.size))) (a1.then (hb.trans (hB.mono hb.size)));exact q.mono fun e w' h=>⟨h.1.trans (by show _=Ending.returned (.bool (f ((k:Int)).toNat));rw[Int.toNat_natCast]),h.2⟩))
 rw[<- hd]at RB;have TR:=hid (fun W (hb:Below ((U.alloc (.cells #[.pointer (some ⟨T,0,none⟩),.slice (some ⟨rb,0,none⟩) N N] 145)).alloc (.cells #[.int .u8 R.kind,.string (bs R.dep.name),.int .u8 R.dep.op,.int .i64 R.dep.evr.epoch,.string (bs R.dep.evr.ver),.string (bs R.dep.evr.rel),.slice R.addr R.args.length R.cap] 39)).heap.size ((U.alloc (.cells #[.pointer (some ⟨T,0,none⟩),.slice (some ⟨rb,0,none⟩) N N] 145)).alloc (.cells #[.int .u8 R.kind,.string (bs R.dep.name),.int .u8 R.dep.op,.int .i64 R.dep.evr.epoch,.string (bs R.dep.evr.ver),.string (bs R.dep.evr.rel),.slice R.addr R.args.length R.cap] 39)) W)=>hA.tr.then (b2.trans (hb.mono b2.size)));have HDD:=hid hd;rw[HRR.out];unfold Dp.val at PV;unfold askW RV.val;rw[<- hd];rw[<- hd]at CF TR b2 bb a1;clear hA hT hdm b1 bb hzs hr HRR hd
 go_enter Tryz.func136,Tryz.ntmps136
 go_wp2_with fail
 obtain⟨V,hV⟩:∃V,V=(U.alloc (.cells #[.pointer (some ⟨T,0,none⟩),.slice (some ⟨rb,0,none⟩) N N] 145)).alloc (.cells #[.int .u8 R.kind,.string (bs d.name),.int .u8 d.op,.int .i64 d.evr.epoch,.string (bs d.evr.ver),.string (bs d.evr.rel),.slice R.addr R.args.length R.cap] 39):=⟨_,rfl⟩;rw[<- hV]at a1 RB b2 CF TR |-;have AX:=hid a1;have BZ:=hid b2;have RBV:=hid RB;clear hV a1 b2 RB;refine qA6 (PP:=atmP U.heap.size T X (U.heap.size+1) d zs r) 10 rfl (by kernel_rfl) (by kernel_rfl) (by decide) (by decide) (qPY U.heap.size T X (U.heap.size+1) d zs r) (fun _=>undef) (by simp[qA4,gQ]) ?_ ?_
 ·intro i o vs W hi ho he hBW K hK;simp only[gT,qA4,gQ]at hK |-;have BW:=hid hBW;have AXW:=hid (AX.out.then hBW);have TRW:=hid (TR.out W hBW);have RBW:=hid (qZB RBV.out hBW);obtain rfl|rfl|rfl|rfl|rfl|rfl|rfl|rfl|rfl|rfl:=c10_ hi<;>simp only[gE]at ho<;>subst ho
  ·rw[if_pos (by rfl)];simp only[gQ]at hK;have HK:=hid hK;clear hK he hi hBW;go_simp;exact HK.out _ _ (by first|rfl|simp[atmP]) bR
  ·have e0:vs 0=_:=dq he 0;rw[e0]at hK |-;rw[if_pos (by rfl)];simp only[gQ]at hK;have HK:=hid hK;clear hK he hi hBW;have a0:=AXW.out.2.1;go_simp;exact HK.out _ _ rfl bR
  ·have e1:vs 1=_:=dq he 1;rw[e1]at hK |-;rw[if_pos (by rfl)];simp only[gQ]at hK;have HK:=hid hK;clear hK he hi hBW;go_simp;exact HK.out _ _ (by first|rfl|simp[atmP]) bR
  ·have e2:vs 2=_:=dq he 2;rw[e2]at hK |-;rw[if_pos (by rfl)];simp only[gQ]at hK;have HK:=hid hK;clear hK he hi hBW;go_simp;exact HK.out _ _ (by first|rfl|simp[atmP]) bR
  ·have e3:vs 3=_:=dq he 3;rw[e3]at hK |-;rw[if_pos (by rfl)];simp only[gQ]at hK;have HK:=hid hK;clear hK he hi hBW;have t0:=TRW.out.c0;go_simp;exact HK.out _ _ rfl bR
  ·rw[if_pos (by rfl)];simp only[gQ]at hK;have HK:=hid hK;clear hK he hi hBW;go_simp;exact HK.out _ _ (by first|rfl|simp[atmP]) bR
  ·have e5:vs 5=_:=dq he 5;rw[e5]at hK |-;rw[if_pos (by rfl)];simp only[gQ]at hK;have HK:=hid hK;clear hK he hi hBW;obtain⟨_,_,c1,c2,c3,c4,c5,_⟩:=RBW.out;rw[<- HDD.out]at c1 c2 c3 c4 c5;go_simp;exact HK.out _ _ rfl bR
  ·have e4:vs 4=_:=dq he 4;rw[e4]at hK |-;have e6:vs 6=_:=dq he 6;rw[e6]at hK |-;rw[if_pos (by rfl)];simp only[gQ]at hK;have HK:=hid hK;clear hK he hi hBW;have PVW:=PV.out W TRW.out;go_simp;go_at_call 182
   refine PVW.mono ?_;rintro en w9 ⟨v9,rfl,ho,h⟩;obtain⟨A9,c9,e9,hr9⟩:=ho.rd qAZ;go_simp;exact HK.out _ _ ⟨A9,c9,rfl,hr9⟩ h
  ·rw[if_pos (by rfl)];simp only[gQ]at hK;have HK:=hid hK;clear hK he hi hBW;go_simp;exact HK.out _ _ (by first|rfl|simp[atmP]) bR
  ·obtain⟨A7,c7,e7,hr7⟩:=dq he 7;rw[e7]at hK |-;have R7:=hid hr7;have e8:vs 8=_:=dq he 8;rw[e8]at hK |-;rw[if_pos (by rfl)];simp only[gQ]at hK;have HK:=hid hK;clear hK he hi hBW;have CFW:=CF.out W BW.out A7 c7 R7.out;clear e7;generalize zs.length=nz at *;go_simp;go_at_call 181
   refine CFW.mono ?_;rintro en w9 ⟨rfl,h⟩;go_simp;exact HK.out _ _ rfl h
 ·intro vs W hall hBW;have eo:vs 9=.bool r:=hall 9 (by decide);simp only[gT,qA4,qAB,qAA,gP];rw[eo];generalize vs 0=y0,vs 1=y1,vs 2=y2,vs 3=y3,vs 4=y4,vs 5=y5,vs 6=y6,vs 7=y7,vs 8=y8;have BX:=hid (BZ.out.trans (hBW.mono BZ.out.size));clear hall hBW eo;go_wp2_with fail
  go_ret;exact⟨rfl,BX.out⟩
end
end
section
open Go.RowKit Go.Shelf
def isP (rx tb kk T rb N:Nat)(g:FuncId)(R:RV)(r:Bool)(i:Nat)(v:Value)(W:World) : Prop := match i with
 |0=>v=.pointer (some ⟨rx,0,none⟩)
 |1=>v=.int .u8 (kk:Int)
 |2=>v=.pointer (some ⟨tb,kk,none⟩)
 |3=>v=.func (.func g) #[] #[]
 |4=>v=.agg #[.pointer (some ⟨T,0,none⟩),.slice (some ⟨rb,0,none⟩) N N]
 |5=>v=.agg #[.int .u8 R.kind,.string (bs R.dep.name),.int .u8 R.dep.op,.int .i64 R.dep.evr.epoch,.string (bs R.dep.evr.ver),.string (bs R.dep.evr.rel),.slice R.addr R.args.length R.cap]
 |6=>v=.bool r
 | _=>False
theorem qUA (rx tb kk T rb N:Nat)(g:FuncId)(R:RV)(r:Bool):∀i v w w',isP rx tb kk T rb N g R r i v w->Below w.heap.size w w'->isP rx tb kk T rb N g R r i v w' := by
 intro i v w w' h hb
 match i,h with
 |0,h|1,h|2,h|3,h|4,h|5,h|6,h=>exact h
 | (k+7),h=>exact h.elim
theorem qEI (l:List RV) : qA1 l=l.map RV.tree := by
 induction l with
 | nil=>rfl
 | cons a l ih=>rw[qA1,ih];rfl
section
variable {T X N:Nat}{L:List Pk}
theorem qKC (pv:Nat->Dp->Bool)(R:RV)(f:Nat->Bool) : Tr.sat N pv R.tree f=Tr.comb N f R.kind (fun n=>pv n R.dep) (Tr.satL N pv (qA1 R.args) f) (fun n=>Tr.satL N pv (qA1 R.args) (Tr.one n)) := by
 cases R
 rw[RV.tree,Tr.sat];rfl
theorem qHH (R:RV) : R.tree.okB=(if R.kind=1 then (qA1 R.args).isEmpty && qAL R.dep else decide (2<=R.kind/\R.kind<=7) && (qAH R.dep && (decide (2<=(qA1 R.args).length/\(qA1 R.args).length<=qF8 R.kind) && okL (qA1 R.args)))) := by
 cases R
 rw[RV.tree,RT.okB];rfl
theorem qBE {pv:Nat->Dp->Bool}{l:List RV}{i:Nat}(h:i<l.length)(f:Nat->Bool) : (Tr.satL N pv (qA1 l) f).getD i false=Tr.sat N pv l[i].tree f := by
 rw[Tr.satL_get (qA1 l) f (by rw[qA5];exact h),qAI l i h]
theorem qIO {pv:Nat->Dp->Bool}(l:List RV)(f:Nat->Bool) : (Tr.satL N pv (qA1 l) f).all id=l.all fun a=>Tr.sat N pv a.tree f := by
 rw[Tr.satL_all,qEI,List.all_map];rfl
theorem qSG {pv:Nat->Dp->Bool}(l:List RV)(f:Nat->Bool) : (Tr.satL N pv (qA1 l) f).any id=l.any fun a=>Tr.sat N pv a.tree f := by
 rw[Tr.satL_any,qEI,List.any_map];rfl
def fnOf (k:Nat) : FuncId := match k with
 |1=>136
 |2=>137
 |3=>138
 |4=>139
 |5=>140
 |6=>141
 | _=>142
theorem isfn (R:RV)(kk:Nat)(hkk:R.kind=(kk:Int))(hk:1<=kk/\kk<=7)(ho:R.tree.okB=true)(hn:R.args.length<=1000000)(hR:∀a∈R.args,IsOk T X N L a) :
  ∃g:FuncId,(∀args w,(callFunc g args).run Tryz.prog w=.ok (.enter g args) w)/\g=fnOf kk /\ ∀(rb:Nat) (f:Nat->Bool) (W:World),AskT T X N rb L f W->RTree W.heap.size W R->Calls Tryz.prog g #[askW T rb N,R.val] W fun e w'=>e=.returned (.bool (Tr.sat N (pvL L) R.tree f))/\Below W.heap.size W w':=by
 rw[qHH]at ho;simp only[qKC,Tr.comb,hkk] at *;obtain⟨h1,h2⟩:=hk;obtain rfl|rfl|rfl|rfl|rfl|rfl|rfl:kk=1 \/ kk=2 \/ kk=3 \/ kk=4 \/ kk=5 \/ kk=6 \/ kk=7:=by omega
 ·rw[if_pos (by rfl),Bool.and_eq_true]at ho;exact⟨_,fun _ _=>rfl,rfl,fun rb f W hA hT=>(qTQ R ho.2 rb f W hA hT).mono fun e w' h=>⟨h.1.trans (by rw[if_pos (by rfl)]),h.2⟩⟩
 ·exact⟨_,fun _ _=>rfl,rfl,fun rb f W hA hT=>(qPS R hn hR rb f W hA hT).mono fun e w' h=>⟨h.1.trans (by rw[if_neg (by decide),if_pos (by rfl),qIO]),h.2⟩⟩
 ·exact⟨_,fun _ _=>rfl,rfl,fun rb f W hA hT=>(qXR R hn hR rb f W hA hT).mono fun e w' h=>⟨h.1.trans (by rw[if_neg (by decide),if_neg (by decide),if_pos (by rfl),qSG]),h.2⟩⟩
 ·rw[if_neg (by decide)]at ho;simp only[Bool.and_eq_true,decide_eq_true_eq,qA5]at ho;have h3:=ho.2.2.1;have hm:qF8 ((4:Nat):Int)=3:=rfl;rw[hm]at h3;refine⟨_,fun _ _=>rfl,rfl,fun rb f W hA hT => ?_⟩;rw[if_neg (by decide),if_neg (by decide),if_neg (by decide),if_pos (by rfl),qBE (i:=1) (by omega) f,qBE (i:=0) (by omega) f,Tr.satL_len,qA5];by_cases e:R.args.length=2
  ·exact (qU6 R e hR rb f W hA hT).mono fun _ _ h=>⟨h.1.trans (by rw[show decide (R.args.length<3)=true from decide_eq_true (by omega),Bool.true_or]),h.2⟩
  ·have e3:R.args.length=3:=by omega
   rw[qBE (i:=2) (by omega) f];exact (qU7 R e3 hR rb f W hA hT).mono fun _ _ h=>⟨h.1.trans (by rw[show decide (R.args.length<3)=false from decide_eq_false (by omega),Bool.false_or]),h.2⟩
 ·rw[if_neg (by decide)]at ho;simp only[Bool.and_eq_true,decide_eq_true_eq,qA5]at ho;have h3:=ho.2.2.1;have hm:qF8 ((5:Nat):Int)=3:=rfl;rw[hm]at h3;refine⟨_,fun _ _=>rfl,rfl,fun rb f W hA hT => ?_⟩;rw[if_neg (by decide),if_neg (by decide),if_neg (by decide),if_neg (by decide),if_pos (by rfl),qBE (i:=1) (by omega) f,qBE (i:=0) (by omega) f,Tr.satL_len,qA5];by_cases e:R.args.length=2
  ·exact (qMC R e hR rb f W hA hT).mono fun _ _ h=>⟨h.1.trans (by rw[show decide (R.args.length=3)=false from decide_eq_false (by omega),Bool.false_and]),h.2⟩
  ·have e3:R.args.length=3:=by omega
   rw[qBE (i:=2) (by omega) f];exact (qMD R e3 hR rb f W hA hT).mono fun _ _ h=>⟨h.1.trans (by rw[show decide (R.args.length=3)=true from decide_eq_true (by omega),Bool.true_and]),h.2⟩
 ·exact⟨_,fun _ _=>rfl,rfl,fun rb f W hA hT=>(qVQ R hn hR rb f W hA hT).mono fun e w' h=>⟨h.1.trans (by rw[if_neg (by decide),if_neg (by decide),if_neg (by decide),if_neg (by decide),if_neg (by decide),if_pos (by rfl)];simp only[qIO]),h.2⟩⟩
 ·rw[if_neg (by decide)]at ho;simp only[Bool.and_eq_true,decide_eq_true_eq,qA5]at ho;have h3:=ho.2.2.1;have hm:qF8 ((7:Nat):Int)=2:=rfl;rw[hm]at h3;have e:R.args.length=2:=by omega
  exact⟨_,fun _ _=>rfl,rfl,fun rb f W hA hT=>(qME R e hR rb f W hA hT).mono fun _ _ h=>⟨h.1.trans (by
   rw[if_neg (by decide),if_neg (by decide),if_neg (by decide),if_neg (by decide),if_neg (by decide),if_neg (by decide)]
   congr 3;funext n;rw[qBE (by omega),qBE (by omega)]),h.2⟩⟩
theorem qX4 (R:RV)(kk:Nat)(hkk:R.kind=(kk:Int))(hk:1<=kk/\kk<=7)(ho:R.tree.okB=true)(hn:R.args.length<=1000000)(hR:∀a∈R.args,IsOk T X N L a) : IsOk T X N L R := by
 intro rb f U hA hT;have b1:=(Below.refl U.heap.size U).alloc lR (.cells #[.pointer (some ⟨T,0,none⟩),.slice (some ⟨rb,0,none⟩) N N] 145);have b2:=b1.alloc (by simp) (.cells #[.int .u8 R.kind,.string (bs R.dep.name),.int .u8 R.dep.op,.int .i64 R.dep.evr.epoch,.string (bs R.dep.evr.ver),.string (bs R.dep.evr.rel),.slice R.addr R.args.length R.cap] 39);have bb:=(Below.refl _ (U.alloc (.cells #[.pointer (some ⟨T,0,none⟩),.slice (some ⟨rb,0,none⟩) N N] 145))).alloc lR (.cells #[.int .u8 R.kind,.string (bs R.dep.name),.int .u8 R.dep.op,.int .i64 R.dep.evr.epoch,.string (bs R.dep.evr.ver),.string (bs R.dep.evr.rel),.slice R.addr R.args.length R.cap] 39);have a1:=(ABox.new T rb N U 145).then bb;have RB:=RBx.new R (U.alloc (.cells #[.pointer (some ⟨T,0,none⟩),.slice (some ⟨rb,0,none⟩) N N] 145));rw[World.size_alloc]at RB;obtain⟨g,eg,hg,cg⟩:=isfn (T:=T) (X:=X) (N:=N) (L:=L) R kk hkk hk ho hn hR;have CG:=hid (fun W (hb:Below U.heap.size U W)=>cg rb f W (hA.then hb) ((hT.keeps hb).more hb.size));have EG:=hid eg;have HKK:=hid hkk;have HG:=hid hg;have HK9:=hid hk;unfold askW RV.val at CG;unfold askW RV.val;clear hA hT ho hn hR cg eg hkk b1 hg;generalize Tr.sat N (pvL L) R.tree f=r at *;have hk1:=hk.1;have hk2:=hk.2;clear hk
 go_enter Tryz.func95,Tryz.ntmps95
 go_wp2_with fail
 have TC:=hid (show (((U.alloc (.cells #[.pointer (some ⟨T,0,none⟩),.slice (some ⟨rb,0,none⟩) N N] 145)).alloc (.cells #[.int .u8 R.kind,.string (bs R.dep.name),.int .u8 R.dep.op,.int .i64 R.dep.evr.epoch,.string (bs R.dep.evr.ver),.string (bs R.dep.evr.rel),.slice R.addr R.args.length R.cap] 39)).alloc (.cells #[.nilFunc,.func (.func 136) #[] #[],.func (.func 137) #[] #[],.func (.func 138) #[] #[],.func (.func 139) #[] #[],.func (.func 140) #[] #[],.func (.func 141) #[] #[],.func (.func 142) #[] #[]] 182)).cell? ⟨U.heap.size+1+1,(kk:Nat),none⟩=some (.func (.func g) #[] #[]) by rw[HG.out];obtain⟨h1,h2⟩:=HK9.out;rcases (show kk=1 \/ kk=2 \/ kk=3 \/ kk=4 \/ kk=5 \/ kk=6 \/ kk=7 by omega) with rfl|rfl|rfl|rfl|rfl|rfl|rfl<;>simp[go_sem,fnOf]);have bt:=(Below.refl _ ((U.alloc (.cells #[.pointer (some ⟨T,0,none⟩),.slice (some ⟨rb,0,none⟩) N N] 145)).alloc (.cells #[.int .u8 R.kind,.string (bs R.dep.name),.int .u8 R.dep.op,.int .i64 R.dep.evr.epoch,.string (bs R.dep.evr.ver),.string (bs R.dep.evr.rel),.slice R.addr R.args.length R.cap] 39))).alloc lR (.cells #[.nilFunc,.func (.func 136) #[] #[],.func (.func 137) #[] #[],.func (.func 138) #[] #[],.func (.func 139) #[] #[],.func (.func 140) #[] #[],.func (.func 141) #[] #[],.func (.func 142) #[] #[]] 182);have a2:=a1.then bt;have RB2:=RB.then bt;have b3:=b2.alloc b2.size (.cells #[.nilFunc,.func (.func 136) #[] #[],.func (.func 137) #[] #[],.func (.func 138) #[] #[],.func (.func 139) #[] #[],.func (.func 140) #[] #[],.func (.func 141) #[] #[],.func (.func 142) #[] #[]] 182);obtain⟨V,hV⟩:∃V,V=((U.alloc (.cells #[.pointer (some ⟨T,0,none⟩),.slice (some ⟨rb,0,none⟩) N N] 145)).alloc (.cells #[.int .u8 R.kind,.string (bs R.dep.name),.int .u8 R.dep.op,.int .i64 R.dep.evr.epoch,.string (bs R.dep.evr.ver),.string (bs R.dep.evr.rel),.slice R.addr R.args.length R.cap] 39)).alloc (.cells #[.nilFunc,.func (.func 136) #[] #[],.func (.func 137) #[] #[],.func (.func 138) #[] #[],.func (.func 139) #[] #[],.func (.func 140) #[] #[],.func (.func 141) #[] #[],.func (.func 142) #[] #[]] 182):=⟨_,rfl⟩;rw[<- hV]at a2 RB2 b3 TC |-;have AX:=hid a2;have BZ:=hid b3;have RBV:=hid RB2;have TCL:=hid (World.block_lt_of_cell? V _ TC.out);clear hV a1 a2 RB RB2 b2 b3 bt bb;have CG:=hid (fun W (hb:Below V.heap.size V W)=>CG.out W (BZ.out.trans (hb.mono BZ.out.size)));clear HG HK9;have i0:(0:Int)<=(kk:Int):=by omega
 have i1:(kk:Int)<8:=by omega
 refine qA6 (PP:=isP (U.heap.size+1) (U.heap.size+1+1) kk T rb N g R r) 7 rfl (by kernel_rfl) (by kernel_rfl) (by decide) (by decide) (qUA (U.heap.size+1) (U.heap.size+1+1) kk T rb N g R r) (fun _=>undef) (by simp[qA4,gQ]) ?_ ?_
 ·intro i o vs W hi ho he hBW K hK;simp only[gT,qA4,gQ]at hK |-;have BW:=hid hBW;have AXW:=hid (AX.out.then hBW);have RBW:=hid (RBV.out.then hBW);have TCW:=hid ((hBW.cell TCL.out).trans TC.out);obtain rfl|rfl|rfl|rfl|rfl|rfl|rfl:=c7_ hi<;>simp only[gE]at ho<;>subst ho
  ·rw[if_pos (by rfl)];simp only[gQ]at hK;have HK:=hid hK;clear hK he hi hBW;go_simp;exact HK.out _ _ (by first|rfl|simp[isP]) bR
  ·have e0:vs 0=_:=dq he 0;rw[e0]at hK |-;rw[if_pos (by rfl)];simp only[gQ]at hK;have HK:=hid hK;clear hK he hi hBW;have c0:=RBW.out.2.1;rw[HKK.out]at c0;go_simp;exact HK.out _ _ rfl bR
  ·have e1:vs 1=_:=dq he 1;rw[e1]at hK |-;rw[if_pos (by rfl)];simp only[gQ]at hK;have HK:=hid hK;clear hK he hi hBW;go_simp;exact HK.out _ _ rfl bR
  ·have e2:vs 2=_:=dq he 2;rw[e2]at hK |-;rw[if_pos (by rfl)];simp only[gQ]at hK;have HK:=hid hK;clear hK he hi hBW;have cx:=TCW.out;go_simp;exact HK.out _ _ rfl bR
  ·rw[if_pos (by rfl)];simp only[gQ]at hK;have HK:=hid hK;clear hK he hi hBW;have a0:=AXW.out.2.1;have a1:=AXW.out.2.2;go_simp;exact HK.out _ _ rfl bR
  ·rw[if_pos (by rfl)];simp only[gQ]at hK;have HK:=hid hK;clear hK he hi hBW;obtain⟨_,c0,c1,c2,c3,c4,c5,c6⟩:=RBW.out;go_simp;exact HK.out _ _ rfl bR
  ·have e3:vs 3=_:=dq he 3;rw[e3]at hK |-;have e4:vs 4=_:=dq he 4;rw[e4]at hK |-;have e5:vs 5=_:=dq he 5;rw[e5]at hK |-;rw[if_pos (by rfl)];simp only[gQ]at hK;have HK:=hid hK;clear hK he hi hBW;have CGW:=CG.out W BW.out;have eg:=EG.out;go_simp;go_at_fn g
   refine CGW.mono ?_;rintro en w9 ⟨rfl,h⟩;go_simp;exact HK.out _ _ rfl h
 ·intro vs W hall hBW;have eo:vs 6=.bool r:=hall 6 (by decide);simp only[gT,qA4,qAB,qAA,gP];rw[eo];generalize vs 0=y0,vs 1=y1,vs 2=y2,vs 3=y3,vs 4=y4,vs 5=y5;have BX:=hid (BZ.out.trans (hBW.mono BZ.out.size));clear hall hBW eo;go_wp2_with fail
  go_ret;exact⟨rfl,BX.out⟩
end
