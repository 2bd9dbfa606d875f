/- R14B, StTellsM -/
import Derived.Test.YteobmfpbgnmffaaGreatDoorT44
import Derived.Test.YteobmfpbgnmffaaGreatDoorT45
import Derived.Test.YteobmfpbgnmffaaGreatDoorT35
set_option linter.unusedVariables false
set_option maxHeartbeats 16000000
set_option maxRecDepth 100000
open Go.Lib (hid)
set_option linter.unusedSimpArgs false
namespace Go.Proofs.YteobmfpbgnmffaaGreatDoor
section
open Go.RowKit Go.Shelf
theorem qK3 {Q:Nat}{I:Int}{L:List Pk} : ∀(f:Nat) (t:RV),t.ht<=f->qD1 Q I L t
 |0,t,hf=>absurd hf (by rw[qAN];omega)
 | f+1,.node k d TA tc l,hf=>by
  have hl:htL l<=f:=by rw[qAN]at hf;have h:htL (RV.node k d TA tc l).args+1<=f+1:=hf;exact Nat.le_of_succ_le_succ h
  have IH:∀a∈l,qD1 Q I L a:=fun a ha=>qK3 f a (Nat.le_trans (qBN ha) hl);by_cases h1:k=1
  ·subst h1;exact qV3 d TA tc l IH
  by_cases h2:k=2
  ·subst h2;exact qXG d TA tc l IH
  by_cases h3:k=3
  ·subst h3;exact qYU d TA tc l IH
  by_cases h4:k=4
  ·subst h4;exact qYT d TA tc l IH
  by_cases h5:k=5
  ·subst h5;exact qYV d TA tc l IH
  by_cases h6:k=6
  ·subst h6;exact qYW d TA tc l IH
  by_cases h7:k=7
  ·subst h7;exact qYX d TA tc l IH
  intro A c S W hok;exfalso;rw[qHH,if_neg (show ¬(RV.node k d TA tc l).kind=1 from h1)]at hok;simp only[Bool.and_eq_true,decide_eq_true_eq]at hok;have hk:2<=k/\k<=7:=hok.1;omega
theorem qX2 (S:List Int)(k:Nat) : S.contains (k:Int)=St.inS S k := by
 unfold St.inS;rw[Bool.eq_iff_iff,List.contains_iff_mem,List.any_eq_true];constructor
 ·intro h;exact⟨_,h,by simp⟩
 ·rintro⟨z,hz,e⟩;rw[beq_iff_eq]at e;exact e ▸ hz
def r14o (Q m c:Nat)(A:Option Addr)(x:Int)(R:RV)(LV:List Int)(b:Bool)(i:Nat)(v:Value)(W:World) : Prop := match i with
 |0=>v=.pointer (some ⟨Q,0,none⟩)
 |1=>v=.slice A m c
 |2=>v=.int .i64 x
 | 3 => ∃A c,v=.slice A (LV).length c/\Rd encI 1 W.heap.size A c LV W
 |4=>v=.agg #[.int .u8 R.kind,.string (bs R.dep.name),.int .u8 R.dep.op,.int .i64 R.dep.evr.epoch,.string (bs R.dep.evr.ver),.string (bs R.dep.evr.rel),.slice R.addr R.args.length R.cap]
 |5=>v=.bool b
 |6=>v=.bool b
 | _=>False
theorem qS4 (Q m c:Nat)(A:Option Addr)(x:Int)(R:RV)(LV:List Int)(b:Bool):∀i v w w',r14o Q m c A x R LV b i v w->Below w.heap.size w w'->r14o Q m c A x R LV b i v w' := by
 intro i v w w' h hb
 match i,h with
 |0,h|1,h|2,h=>exact h
 |3,h=>exact h.elim fun A h=>h.elim fun c h=>⟨A,c,h.1,(h.2.below hb).more hb.size⟩
 |4,h|5,h|6,h=>exact h
 | (k+7),h=>exact h.elim
theorem qEW {Q:Nat}{I:Int}{L:List Pk}{w:World}(hP:RPool Q I L w)(hLn:L.length<=1000000)(A:Option Addr)(c:Nat)(S:List Int)(hS:Rd encI 1 w.heap.size A c S w)(hSn:S.length<=1000000)(R:RV)(hR:RTree w.heap.size w R)(hp:R.tree.parts<=1000000) : Calls Tryz.prog 52 #[.pointer (some ⟨Q,0,none⟩),.slice A S.length c,R.val] w fun e w'=>e=.returned (.bool (Tr.satS L.length (pvL L) S R.tree))/\Below w.heap.size w w' := by
 have B1:=hid ((Below.refl w.heap.size w).alloc lR (.cells #[.int .u8 R.kind,.string (bs R.dep.name),.int .u8 R.dep.op,.int .i64 R.dep.evr.epoch,.string (bs R.dep.evr.ver),.string (bs R.dep.evr.rel),.slice R.addr R.args.length R.cap] 39));have RBV:=hid (RBx.new R w);have WH:=hid (fun W (hb:Below w.heap.size w W)=>qM5 R W hp ((hR.keeps hb).more hb.size));have IS:=hid (fun (h:R.tree.whole=true) W (hb:Below w.heap.size w W)=>qK3 (Q:=Q) (I:=I) (L:=L) R.ht R lR A c S W (qKP h) ((hR.keeps hb).more hb.size) (hP.then hb) ((hS.below hb).more hb.size) hSn hLn);unfold Tr.satS;obtain⟨wh,hwh⟩:∃wh,R.tree.whole=wh:=⟨_,rfl⟩;rw[hwh]at WH IS |-;generalize Tr.sat L.length (pvL L) R.tree (St.inS S)=b at *;unfold RV.val at *;clear hP hS hR hp hwh;generalize S.length=m at *
 go_enter Tryz.func52,Tryz.ntmps52
 go_upto_region 1 with fail
 obtain⟨V,hV⟩:∃V,V=w.alloc (.cells #[.int .u8 R.kind,.string (bs R.dep.name),.int .u8 R.dep.op,.int .i64 R.dep.evr.epoch,.string (bs R.dep.evr.ver),.string (bs R.dep.evr.rel),.slice R.addr R.args.length R.cap] 39):=⟨_,rfl⟩;rw[<- hV]at B1 RBV |-;clear hV;obtain⟨_,c0,c1,c2,c3,c4,c5,c6⟩:=RBV.out;go_wp2_with fail
 go_at_call 108
 refine (WH.out V B1.out).mono ?_;rintro en w2 ⟨rfl,h⟩;have B2:=hid (B1.out.trans (h.mono B1.out.size));have R2:=hid (RBV.out.then h);clear h WH B1 RBV c0 c1 c2 c3 c4 c5 c6;cases wh
 ·go_wp2_with fail
  go_ret;exact⟨rfl,B2.out⟩
 obtain⟨_,c0,c1,c2,c3,c4,c5,c6⟩:=R2.out;have IC:=hid (IS.out rfl w2 B2.out);clear IS;go_wp2_with fail
 go_at_call 109
 refine IC.out.mono ?_;rintro en w3 ⟨rfl,h⟩;have B3:=hid (B2.out.trans (h.mono B2.out.size));clear h;go_wp2_with fail
 go_ret;exact⟨rfl,B3.out⟩
theorem qGZ {Q:Nat}{I:Int}{L:List Pk}{w:World}(hP:RPool Q I L w)(hLn:L.length<=1000000)(A:Option Addr)(c:Nat)(S:List Int)(hS:Rd encI 1 w.heap.size A c S w)(hSn:S.length<=1000000)(x:Int)(R:RV)(hR:RTree w.heap.size w R)(hp:R.tree.parts<=1000000)(hS2:S.length<=100000) : Calls Tryz.prog 54 #[.pointer (some ⟨Q,0,none⟩),.slice A S.length c,.int .i64 x,R.val] w fun e w'=>e=.returned (.bool (Tr.satS L.length (pvL L) (qBQ S x) R.tree))/\Below w.heap.size w w' := by
 have B1:=hid ((Below.refl w.heap.size w).alloc lR (.cells #[.int .u8 R.kind,.string (bs R.dep.name),.int .u8 R.dep.op,.int .i64 R.dep.evr.epoch,.string (bs R.dep.evr.ver),.string (bs R.dep.evr.rel),.slice R.addr R.args.length R.cap] 39));have RBV:=hid (RBx.new R w);have LE:=hid (fun W (hb:Below w.heap.size w W)=>show Calls Tryz.prog 60 #[.slice A S.length c,.int .i64 x] W fun e w' => ∃A c,e=.returned (.slice A (qBQ S x).length c)/\Rd encI 1 w'.heap.size A c (qBQ S x) w'/\Below W.heap.size W w' from by
  refine (qOE A c S x W hS2 ((hS.below hb).more hb.size)).mono ?_;rintro e w' ⟨v,rfl,ho,h⟩;obtain⟨A,c,rfl,hr⟩:=ho.rd qAZ;exact⟨A,c,rfl,hr,h⟩)
 have hl:=qJK S x;have SA:=hid (fun W (hb:Below w.heap.size w W) A c (hR2:Rd encI 1 W.heap.size A c (qBQ S x) W)=>qEW (hP.then hb) hLn A c (qBQ S x) hR2 (by omega) R ((hR.keeps hb).more hb.size) hp);obtain⟨LV,hLV⟩:∃l,qBQ S x=l:=⟨_,rfl⟩;rw[hLV]at LE SA |-;generalize Tr.satS L.length (pvL L) LV R.tree=b at *;unfold RV.val at *;clear hP hS hR hp hl hLV hSn hS2;generalize S.length=m at *
 go_enter Tryz.func54,Tryz.ntmps54
 go_upto_region 1 with fail
 obtain⟨V,hV⟩:∃V,V=w.alloc (.cells #[.int .u8 R.kind,.string (bs R.dep.name),.int .u8 R.dep.op,.int .i64 R.dep.evr.epoch,.string (bs R.dep.evr.ver),.string (bs R.dep.evr.rel),.slice R.addr R.args.length R.cap] 39):=⟨_,rfl⟩;rw[<- hV]at B1 RBV |-;clear hV;go_wp2_with fail
 refine qA6 (PP:=r14o Q m c A x R LV b) 7 rfl (by kernel_rfl) (by kernel_rfl) (by decide) (by decide) (qS4 Q m c A x R LV b) (fun ii=>match ii with|6=>.bool false|_=>undef) (by simp[qA4,gQ]) ?_ ?_
 ·intro i o vs W hi ho he hBW K hK;simp only[gT,qA4,gQ]at hK |-;have BW:=hid (B1.out.trans (hBW.mono B1.out.size));have RW:=hid (RBV.out.then hBW);obtain rfl|rfl|rfl|rfl|rfl|rfl|rfl:=c7_ hi<;>simp only[gE]at ho<;>subst ho
  iterate 3 ·rw[if_pos (by rfl)];simp only[gQ]at hK;have HK:=hid hK;clear hK he hi hBW;go_simp;exact HK.out _ _ (by first|rfl|simp[r14o]) bR
  ·have e1:vs 1=_:=dq he 1;rw[e1]at hK |-;have e2:vs 2=_:=dq he 2;rw[e2]at hK |-;rw[if_pos (by rfl)];simp only[gQ]at hK;have HK:=hid hK;clear hK he hi hBW;have CW:=LE.out W BW.out;go_simp;go_at_call 60
   refine CW.mono ?_;rintro en w9 ⟨A9,c9,rfl,hr9,h⟩;go_simp;exact HK.out _ _ ⟨A9,c9,rfl,hr9⟩ h
  ·rw[if_pos (by rfl)];simp only[gQ]at hK;have HK:=hid hK;clear hK he hi hBW;obtain⟨_,c0,c1,c2,c3,c4,c5,c6⟩:=RW.out;go_simp;exact HK.out _ _ rfl bR
  ·have e0:vs 0=_:=dq he 0;rw[e0]at hK |-;obtain⟨A9,c9,e9,r9⟩:=dq he 3;rw[e9]at hK |-;have R9:=hid r9;have e4:vs 4=_:=dq he 4;rw[e4]at hK |-;rw[if_pos (by rfl)];simp only[gQ]at hK;have HK:=hid hK;clear hK he hi hBW;have CW:=SA.out W BW.out A9 c9 R9.out;go_simp;go_at_call 52
   refine CW.mono ?_;rintro en w9 ⟨rfl,h⟩;go_simp;exact HK.out _ _ rfl h
  ·have e5:vs 5=_:=dq he 5;rw[e5]at hK |-;rw[if_pos (by rfl)];simp only[gQ]at hK;have HK:=hid hK;clear hK he hi hBW;go_simp;exact HK.out _ _ (by first|rfl|simp[r14o]) bR
 ·intro vs W2 hall hBW;have eo:vs 6=.bool b:=hall 6 (by decide);simp only[gT,qA4,qAB,qAA,gP];rw[eo];generalize vs 0=y0,vs 1=y1,vs 2=y2,vs 3=y3,vs 4=y4,vs 5=y5;have B2:=hid (B1.out.trans (hBW.mono B1.out.size));clear hall hBW eo;go_wp2_with fail
  go_ret;exact⟨rfl,B2.out⟩
theorem qF6 {Q:Nat}{I:Int}{L:List Pk}{w:World}(hP:RPool Q I L w)(hLn:L.length<=1000000)(n:Int)(R:RV)(hR:RTree w.heap.size w R)(hp:R.tree.parts<=1000000) : Calls Tryz.prog 55 #[.pointer (some ⟨Q,0,none⟩),.int .i64 n,R.val] w fun e w'=>e=.returned (.bool (Tr.aloneS L.length (pvL L) n R.tree))/\Below w.heap.size w w' := by
 have B1:=hid ((Below.refl w.heap.size w).alloc lR (.cells #[.int .u8 R.kind,.string (bs R.dep.name),.int .u8 R.dep.op,.int .i64 R.dep.evr.epoch,.string (bs R.dep.evr.ver),.string (bs R.dep.evr.rel),.slice R.addr R.args.length R.cap] 39));have RBV:=hid (RBx.new R w);have SA:=hid (fun W b (hb:Below w.heap.size w W) (hr:Rd encI 1 W.heap.size (some ⟨b,0,none⟩) 1 [n] W)=>qEW (hP.then hb) hLn (some ⟨b,0,none⟩) 1 [n] hr (by simp) R ((hR.keeps hb).more hb.size) hp);have ISA:=hid (fun W (hb:Below w.heap.size w W)=>qIL n W (hP.then hb) hLn);obtain⟨res,hres⟩:∃res,res=Tr.aloneS L.length (pvL L) n R.tree:=⟨_,rfl⟩;rw[<- hres];unfold Tr.aloneS at hres;have HRS:=hid hres;clear hP hR hp hres;generalize Tr.satS L.length (pvL L) [n] R.tree=r at *;unfold RV.val at *
 go_enter Tryz.func55,Tryz.ntmps55
 go_upto_region 1 with fail
 obtain⟨V,hV⟩:∃V,V=w.alloc (.cells #[.int .u8 R.kind,.string (bs R.dep.name),.int .u8 R.dep.op,.int .i64 R.dep.evr.epoch,.string (bs R.dep.evr.ver),.string (bs R.dep.evr.rel),.slice R.addr R.args.length R.cap] 39):=⟨_,rfl⟩;rw[<- hV]at B1 RBV |-;clear hV;have IC:=hid (ISA.out V B1.out);clear ISA;by_cases hz:0<=n/\n<(L.length:Int)
 ·rw[decide_eq_true hz]at IC;obtain rfl:res=r:=by rw[HRS.out,decide_eq_true hz.1,decide_eq_true hz.2];rfl
  go_wp2_with fail
  go_at_call 88
  refine IC.out.mono ?_;rintro en w2 ⟨rfl,rfl⟩;have bx:=RBV.out.then (bR.alloc lR (.cells #[.int .i64 n] 3));obtain⟨_,c0,c1,c2,c3,c4,c5,c6⟩:=bx;have BA:=hid (B1.out.alloc B1.out.size (.cells #[.int .i64 n] 3));have SB:=hid (SA.out _ V.heap.size BA.out (qCP (by simp) ((World.cell?_alloc_at _ _ _ _ rfl).trans rfl)));rw[show [n].length=1 from rfl]at SB;clear SA RBV;go_wp2_with fail
  go_at_call 52
  refine SB.out.mono ?_;rintro en w2 ⟨rfl,h⟩;have B2:=hid (BA.out.trans (h.mono BA.out.size));clear h;go_wp2_with fail
  go_ret;exact⟨rfl,B2.out⟩
 ·rw[decide_eq_false hz]at IC;obtain rfl:res=false:=by
   rw[HRS.out];by_cases h0:0<=n
   ·rw[decide_eq_false (show ¬n<(L.length:Int) from fun h=>hz ⟨h0,h⟩),Bool.and_false];rfl
   ·rw[decide_eq_false h0];rfl
  clear SA;go_wp2_with fail
  go_at_call 88
  refine IC.out.mono ?_;rintro en w2 ⟨rfl,rfl⟩;go_wp2_with fail
  go_ret;exact⟨rfl,B1.out⟩
theorem qOZ {Q:Nat}{I:Int}{L:List Pk}{w:World}(hP:RPool Q I L w)(hLn:L.length<=1000000)(A:Option Addr)(c:Nat)(S:List Int)(hS:Rd encI 1 w.heap.size A c S w)(hSn:S.length<=1000000)(R:RV)(hR:RTree w.heap.size w R)(hp:R.tree.parts<=1000000) : Calls Tryz.prog 56 #[.pointer (some ⟨Q,0,none⟩),.slice A S.length c,R.val] w fun e w' => ∃v,e=.returned v/\Own encI 1 w.heap.size 3 v (Tr.whoS L.length (pvL L) S R.tree) w'/\Below w.heap.size w w' := by
 have B1:=hid ((Below.refl w.heap.size w).alloc lR (.cells #[.int .u8 R.kind,.string (bs R.dep.name),.int .u8 R.dep.op,.int .i64 R.dep.evr.epoch,.string (bs R.dep.evr.ver),.string (bs R.dep.evr.rel),.slice R.addr R.args.length R.cap] 39));have RBV:=hid (RBx.new R w);have AL:=hid (fun (n:Int) W (hb:Below w.heap.size w W)=>qF6 (hP.then hb) hLn n R ((hR.keeps hb).more hb.size) hp);have HS:=hid (fun (k:Nat) W (hb:Below w.heap.size w W)=>qX2 S k ▸ qQP A c S (k:Int) W hSn ((hS.below hb).more hb.size));have CQ:=hid (fun W (hb:Below w.heap.size w W)=>(hP.then hb).at_.c0);obtain⟨N,hN⟩:∃N,L.length=N:=⟨_,rfl⟩;rw[hN]at AL CQ hLn |-;have WS:=hid (fun k=>qKO (N:=N) (pv:=pvL L) (S:=S) (t:=R.tree) k);have WL:=hid (fun k=>qIR (N:=N) (pv:=pvL L) (S:=S) (t:=R.tree) k);have WE:=hid (show whoK N (pvL L) S R.tree N=Tr.whoS N (pvL L) S R.tree from rfl);have W0:=hid (show whoK N (pvL L) S R.tree 0=[] from rfl);generalize Tr.whoS N (pvL L) S R.tree=ws at *;obtain⟨i0,hi,hz0,hz1,hz2⟩:=info_parts qFH;clear hP hS hR hp hN hSn;unfold RV.val at *;generalize S.length=m at *
 go_enter Tryz.func56,Tryz.ntmps56
 go_upto_region 1 with fail
 obtain⟨V,hV⟩:∃V,V=w.alloc (.cells #[.int .u8 R.kind,.string (bs R.dep.name),.int .u8 R.dep.op,.int .i64 R.dep.evr.epoch,.string (bs R.dep.evr.ver),.string (bs R.dep.evr.rel),.slice R.addr R.args.length R.cap] 39):=⟨_,rfl⟩;rw[<- hV]at B1 RBV |-;clear hV;go_wp2_with fail
 go_loopw[7,8] (fun v iv wr => ∃k:Nat,k<=N/\iv=.int .i64 (k:Int)/\Own encI 1 V.heap.size 3 v (whoK N (pvL L) S R.tree k) wr/\Below V.heap.size V wr) (fun _ iv _=>N - (intOf iv).toNat)
 case atStart=>exact⟨0,Nat.zero_le _,rfl,by rw[W0.out];exact Own.nil_ _ _ _,Below.refl _ _⟩
 case round =>
  obtain⟨k,hk,rfl,how,hB1⟩:=hrel;rename World=>wr
  have OW:=hid how;have HB1:=hid hB1;have HB:=hid (B1.out.trans (hB1.mono B1.out.size));have RW:=hid (RBV.out.then hB1);obtain⟨LA,lc,cq,_⟩:=CQ.out wr HB.out;clear how hB1;by_cases hlt:k<N
  ·have WK:=hid (WS.out k);have WKL:=hid (WL.out k);have ALK:=hid (fun W hb=>AL.out (k:Int) W hb);have HSK:=hid (HS.out k wr HB.out);have i0':(0:Int)<=(k:Int):=by omega
   have i1:(k:Int)<(N:Int):=by omega
   generalize St.inS S k=fk at *;generalize Tr.aloneS N (pvL L) (k:Int) R.tree=ak at *;go_wp2_with fail
   go_at_call 42
   refine HSK.out.mono ?_;rintro en w3 ⟨rfl,h⟩;have O3:=hid (Own.below OW.out h lR);have H3:=hid (HB.out.trans (h.mono HB.out.size));have C3:=hid (HB1.out.trans (h.mono HB1.out.size));have R3:=hid (RW.out.then h);clear h OW HSK cq;cases fk
   ·have WK2:=hid (show whoK N (pvL L) S R.tree (k+1)=whoK N (pvL L) S R.tree k from by rw[WK.out];simp);clear WK;go_wp2_with fail
    go_roundw
    case rel=>exact⟨k+1,by omega,by go_num,by rw[WK2.out];exact O3.out,C3.out⟩
    case measure=>simp[intOf];omega
   ·obtain⟨_,c0,c1,c2,c3,c4,c5,c6⟩:=R3.out;have AC:=hid (ALK.out w3 H3.out);clear ALK;go_wp2_with fail
    go_at_call 55
    refine AC.out.mono ?_;rintro en w9 ⟨rfl,h⟩;have OW9:=hid (Own.below O3.out h lR);have HC9:=hid (C3.out.trans (h.mono C3.out.size));clear h O3 AC c0 c1 c2 c3 c4 c5 c6;cases ak
    ·have WK2:=hid (show whoK N (pvL L) S R.tree (k+1)=whoK N (pvL L) S R.tree k from by rw[WK.out];simp);clear WK;go_wp2_with fail
     go_roundw
     case rel=>exact⟨k+1,by omega,by go_num,by rw[WK2.out];exact OW9.out,HC9.out⟩
     case measure=>simp[intOf];omega
    ·have WK2:=hid (show whoK N (pvL L) S R.tree (k+1)=whoK N (pvL L) S R.tree k++[(k:Int)] from by rw[WK.out];simp);clear WK;go_wp2_with (at_builtin;refine wpList_append_own _ rfl _ _ 42 rfl V.heap.size 3 i0 (.int .i64 0) 1 8 Tryz.underlying42 hi hz0 hz1 hz2 rfl (by decide) _ _ _ rfl (World.ownsRow.alloc OW9.out _) ⟨w9.heap.size,0,none⟩ 1 1 [.int .i64 (k:Int)] rfl rfl ?c1 ?c2 ?c3 ?c4 ?c5 ?c6)
     case c1=>exact cell_one_new _ _ _
     case c2=>simp[Value.oneCell']
     case c3=>have:=WKL.out;unfold maxLen;omega
     case c4=>have:=WKL.out;omega
     case c5=>simp only[World.size_alloc];have:=HC9.out.size;omega
     case c6 =>
      intro v' w6 ho6 hg6 _;have B6':=hid ((HC9.out.alloc HC9.out.size _).grown hg6 (by simp only[World.size_alloc];have:=HC9.out.size;omega) (fun j hj=>(World.ownsRow.lt (World.ownsRow.alloc OW9.out (.cells #[.int .i64 (k:Int)] 3)) j hj).1));have OV6:=hid (Own.snoc (x:=(k:Int)) ho6);clear ho6 hg6 OW9 HC9;go_wp2_with fail
      go_roundw
      case rel=>exact⟨k+1,by omega,by go_num,by rw[WK2.out];exact OV6.out,B6'.out⟩
      case measure=>simp[intOf];omega
  ·obtain rfl:k=N:=by omega
   have i1:¬(k:Int)<(k:Int):=by omega
   go_wp2_with fail
   go_ret;exact⟨_,rfl,by rw[<- WE.out];exact OW.out.more B1.out.size,HB.out⟩
end
section
open Go.RowKit Go.Shelf
theorem qV7 {base:Nat}{e:TypeId}{size g n cap:Nat}{W:World}{xs:List Value}(h:W.ownsRow base e size (.slice (some ⟨g,0,none⟩) n cap) n xs){k:Nat}(hk:k<n * size):∃u,W.cell? ⟨g,k,none⟩=some u/\W.frozen? ⟨g,k,none⟩=false := by
 rcases h.2 with⟨h2,_⟩|⟨g',cap',cur,hv,hg,hh,h1,h2,h3,h4⟩
 ·simp at h2
 ·simp only[Value.slice.injEq,Option.some.injEq,Addr.mk.injEq]at hv;obtain⟨⟨rfl,_⟩,_,rfl⟩:=hv;have hl:k<cur.size:=Nat.lt_of_lt_of_le hk (by rw[h3];exact Nat.mul_le_mul_right size h1);refine⟨cur[k],?_,?_⟩
  ·simp[World.cell?,hh,hl]
  ·simp[World.frozen?,hh]
theorem qXN {base:Nat}{e:TypeId}{size n:Nat}{W:World}{v:Value}{xs:List Value}(h:W.ownsRow base e size v n xs) : n=0 \/ ∃g cap,v=.slice (some ⟨g,0,none⟩) n cap/\base<=g/\g<W.heap.size := by
 rcases h.2 with⟨_,h2⟩|⟨g',cap',cur,hv,hg,hh,h1,h2,h3,h4⟩
 ·exact .inl h2
 ·refine .inr ⟨g',cap',hv,hg,?_⟩;exact (Array.getElem?_eq_some_iff.1 hh).1
