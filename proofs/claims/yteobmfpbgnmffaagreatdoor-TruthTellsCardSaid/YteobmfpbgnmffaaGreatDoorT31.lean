/- TrIs8, TrSat -/
import Derived.Test.YteobmfpbgnmffaaGreatDoorT29
import Derived.Test.YteobmfpbgnmffaaGreatDoorT30
set_option linter.unusedVariables false
set_option maxHeartbeats 16000000
set_option maxRecDepth 100000
open Go.Lib (hid)
set_option linter.unusedSimpArgs false
namespace Go.Proofs.YteobmfpbgnmffaaGreatDoor
section
open Go.RowKit Go.Shelf
section
variable {T X N:Nat}{L:List Pk}
theorem qUT (l:List RV) : l.length<=qA9 (qA1 l) := by
 induction l with
 | nil=>exact Nat.zero_le _
 | cons a l ih =>
  rw[qA1,qA9,List.length_cons];have:1<=a.tree.parts:=by cases a;rw[RV.tree,RT.parts];omega
  omega
theorem qRR {l:List RV}{a:RV}(h:a∈l) : a.tree.parts<=qA9 (qA1 l) := by
 induction l with
 | nil=>cases h
 | cons b l ih =>
  rw[qA1,qA9];rcases List.mem_cons.1 h with rfl|h
  ·omega
  ·have:=ih h;omega
theorem qN3 (R:RV) : R.tree.parts=1+qA9 (qA1 R.args) := by
 cases R
 rw[RV.tree,RT.parts];rfl
theorem qW8:∀(n:Nat) (R:RV),R.tree.parts<=n->n<=1000000->R.tree.okB=true->IsOk T X N L R
 |0,R,h,_,_=>by rw[qN3]at h;omega
 | n+1,R,h,hn,ho=>by
  have hp:=qN3 R;have hl:=qUT R.args;have h1:=ho;rw[qHH]at h1;obtain⟨kk,hkk,hk⟩:∃kk:Nat,R.kind=(kk:Int)/\1<=kk/\kk<=7:=by
   by_cases e:R.kind=1
   ·exact⟨1,e,by omega,by omega⟩
   ·rw[if_neg e]at h1;simp only[Bool.and_eq_true,decide_eq_true_eq]at h1;have:=h1.1;exact⟨R.kind.toNat,by omega,by omega,by omega⟩
  refine qX4 R kk hkk hk ho (by omega) fun a ha=>qW8 n a (by have:=qRR ha;omega) (by omega) ?_;by_cases e:R.kind=1
  ·rw[if_pos e,Bool.and_eq_true,List.isEmpty_iff]at h1;have:(qA1 R.args).length=0:=by rw[h1.1];rfl
   rw[qA5]at this;have:=List.length_pos_of_mem ha;omega
  ·rw[if_neg e]at h1;simp only[Bool.and_eq_true]at h1;refine qRD.1 h1.2.2.2 _ ?_;rw[qEI];exact List.mem_map_of_mem ha
end
end
section
open Go.RowKit Go.Shelf
def stT (T X N m c:Nat)(A:Option Addr)(L:List Pk)(f:Nat->Bool)(R:RV)(r:Bool)(i:Nat)(v:Value)(W:World) : Prop := match i with
 |0=>v=.pointer (some ⟨T,0,none⟩)
 | 1|2=>v=.bool true
 |3=>v=.agg #[.int .u8 R.kind,.string (bs R.dep.name),.int .u8 R.dep.op,.int .i64 R.dep.evr.epoch,.string (bs R.dep.evr.ver),.string (bs R.dep.evr.rel),.slice R.addr R.args.length R.cap]
 | 4|5|6=>v=.bool true
 |7=>v=.pointer (some ⟨T,0,none⟩)
 |8=>v=.slice A m c
 | 9 => ∃rb,v=.agg #[.pointer (some ⟨T,0,none⟩),.slice (some ⟨rb,0,none⟩) N N]/\AskT T X N rb L f W
 |10=>v=.agg #[.int .u8 R.kind,.string (bs R.dep.name),.int .u8 R.dep.op,.int .i64 R.dep.evr.epoch,.string (bs R.dep.evr.ver),.string (bs R.dep.evr.rel),.slice R.addr R.args.length R.cap]
 |11=>v=.bool r
 |12=>v=.bool r
 | _=>False
theorem qVL (T X N m c:Nat)(A:Option Addr)(L:List Pk)(f:Nat->Bool)(R:RV)(r:Bool):∀i v w w',stT T X N m c A L f R r i v w->Below w.heap.size w w'->stT T X N m c A L f R r i v w' := by
 intro i v w w' h hb
 match i,h with
 |0,h|1,h|2,h|3,h|4,h|5,h|6,h|7,h|8,h=>exact h
 |9,h=>exact h.elim fun rb h=>⟨rb,h.1,h.2.then hb⟩
 |10,h|11,h|12,h=>exact h
 | (k+13),h=>exact h.elim
def stF (T X N m c:Nat)(A:Option Addr)(L:List Pk)(f:Nat->Bool)(R:RV)(r:Bool)(i:Nat)(v:Value)(W:World) : Prop := match i with
 |0=>v=.pointer (some ⟨T,0,none⟩)
 | 1|2=>v=.bool true
 |3=>v=.agg #[.int .u8 R.kind,.string (bs R.dep.name),.int .u8 R.dep.op,.int .i64 R.dep.evr.epoch,.string (bs R.dep.evr.ver),.string (bs R.dep.evr.rel),.slice R.addr R.args.length R.cap]
 | 4|5|6=>v=.bool false
 | 7|8|9|10|11=>v=undef
 |12=>v=.bool false
 | _=>False
theorem qVK (T X N m c:Nat)(A:Option Addr)(L:List Pk)(f:Nat->Bool)(R:RV)(r:Bool):∀i v w w',stF T X N m c A L f R r i v w->Below w.heap.size w w'->stF T X N m c A L f R r i v w' := by
 intro i v w w' h hb
 match i,h with
 |0,h|1,h|2,h|3,h|4,h|5,h|6,h|7,h|8,h|9,h|10,h|11,h|12,h=>exact h
 | (k+13),h=>exact h.elim
theorem qFQ {T X N:Nat}{L:List Pk}{w:World}(hT:TruthAt T X N L w)(hI:WhIn w)(A:Option Addr)(c:Nat)(S:List Int)(hS:Rd encI 1 w.heap.size A c S w)(R:RV)(hR:RTree w.heap.size w R)(hp:R.tree.parts<=1000000) :
  Calls Tryz.prog 40 #[.pointer (some ⟨T,0,none⟩),.slice A S.length c,R.val] w fun e w'=>e=.returned (.bool (Tr.satS N (pvL L) S R.tree))/\Below w.heap.size w w':=by
 have b1:=(Below.refl w.heap.size w).alloc lR (.cells #[.int .u8 R.kind,.string (bs R.dep.name),.int .u8 R.dep.op,.int .i64 R.dep.evr.epoch,.string (bs R.dep.evr.ver),.string (bs R.dep.evr.rel),.slice R.addr R.args.length R.cap] 39);have RB:=RBx.new R w;have WH:=hid (fun W (hb:Below w.heap.size w W)=>qM6 R W hp ((hR.keeps hb).more hb.size) (hI.below hb));have ST:=hid (fun W (hb:Below w.heap.size w W)=>qGQ (hT.then hb) A c S ((hS.below hb).more hb.size));have IS:=hid (fun (hw:R.tree.whole=true) rb W (hb:Below w.heap.size w W) (hA:AskT T X N rb L (St.inS S) W)=>qW8 (T:=T) (X:=X) (N:=N) (L:=L) R.tree.parts R lR hp (qKP hw) rb (St.inS S) W hA ((hR.keeps hb).more hb.size));obtain⟨res,hres⟩:∃res,res=Tr.satS N (pvL L) S R.tree:=⟨_,rfl⟩;rw[<- hres];unfold Tr.satS at hres;have HRS:=hid hres;clear hT hI hS hR hp hres;unfold askW at IS;unfold RV.val at *;generalize Tr.sat N (pvL L) R.tree (St.inS S)=r at *;generalize R.tree.whole=wh at *;generalize St.inS S=f at *;generalize S.length=m at *;have B1:=hid b1;have RBV:=hid RB;clear b1 RB
 go_enter Tryz.func40,Tryz.ntmps40
 go_wp2_with fail
 obtain⟨V,hV⟩:∃V,V=w.alloc (.cells #[.int .u8 R.kind,.string (bs R.dep.name),.int .u8 R.dep.op,.int .i64 R.dep.evr.epoch,.string (bs R.dep.evr.ver),.string (bs R.dep.evr.rel),.slice R.addr R.args.length R.cap] 39):=⟨_,rfl⟩;rw[<- hV]at B1 RBV |-;clear hV;have BZ:=B1;cases wh
 ·clear IS ST;refine qA6 (PP:=stF T X N m c A L f R r) 13 rfl (by kernel_rfl) (by kernel_rfl) (by decide) (by decide) (qVK T X N m c A L f R r) (fun _=>undef) (by simp[qA4,gQ]) ?_ ?_
  ·intro i o vs W hi ho he hBW K hK;simp only[gT,qA4,gQ]at hK |-;have BW:=hid (B1.out.trans (hBW.mono B1.out.size));have RBW:=hid (RBV.out.then hBW);obtain rfl|rfl|rfl|rfl|rfl|rfl|rfl|rfl|rfl|rfl|rfl|rfl|rfl:=c13_ hi<;>simp only[gE]at ho<;>subst ho
   ·rw[if_pos (by rfl)];simp only[gQ]at hK;have HK:=hid hK;clear hK he hi hBW;go_simp;exact HK.out _ _ (by first|rfl|simp[stF]) bR
   ·have e0:vs 0=_:=dq he 0;rw[e0]at hK |-;rw[if_pos (by rfl)];simp only[gQ]at hK;have HK:=hid hK;clear hK he hi hBW;go_simp;exact HK.out _ _ (by first|rfl|simp[stF]) bR
   ·have e1:vs 1=_:=dq he 1;rw[e1]at hK |-;rw[if_pos (by rfl)];simp only[gQ]at hK;have HK:=hid hK;clear hK he hi hBW;go_simp;exact HK.out _ _ (by first|rfl|simp[stF]) bR
   ·have e2:vs 2=_:=gd he 2;rw[e2]at hK |-;rw[if_pos (by rfl)];simp only[gQ]at hK;have HK:=hid hK;clear hK he hi hBW;obtain⟨_,c0,c1,c2,c3,c4,c5,c6⟩:=RBW.out;go_simp;exact HK.out _ _ rfl bR
   ·have e3:vs 3=_:=dq he 3;rw[e3]at hK |-;have e2:vs 2=_:=gd he 2;rw[e2]at hK |-;rw[if_pos (by rfl)];simp only[gQ]at hK;have HK:=hid hK;clear hK he hi hBW;have WHW:=WH.out W BW.out;go_simp;go_at_call 45
    refine WHW.mono ?_;rintro en w9 ⟨rfl,h⟩;go_simp;exact HK.out _ _ rfl h
   ·have e2:vs 2=_:=dq he 2;rw[e2]at hK |-;have e4:vs 4=_:=dq he 4;rw[e4]at hK |-;rw[if_pos (by rfl)];simp only[gQ]at hK;have HK:=hid hK;clear hK he hi hBW;go_simp;exact HK.out _ _ (by first|rfl|simp[stF]) bR
   ·have e5:vs 5=_:=dq he 5;rw[e5]at hK |-;rw[if_pos (by rfl)];simp only[gQ]at hK;have HK:=hid hK;clear hK he hi hBW;go_simp;exact HK.out _ _ (by first|rfl|simp[stF]) bR
   iterate 2 ·have e6:vs 6=_:=gd he 6;rw[e6]at hK |-;refine wN bF ?_;exact hK _ _ rfl bR
   ·have e7:vs 7=_:=dq he 7;rw[e7]at hK |-;have e8:vs 8=_:=dq he 8;rw[e8]at hK |-;have e6:vs 6=_:=gd he 6;rw[e6]at hK |-;refine wN bF ?_;exact hK _ _ rfl bR
   ·have e6:vs 6=_:=gd he 6;rw[e6]at hK |-;refine wN bF ?_;exact hK _ _ rfl bR
   ·have e9:vs 9=_:=dq he 9;rw[e9]at hK |-;have e10:vs 10=_:=dq he 10;rw[e10]at hK |-;have e6:vs 6=_:=gd he 6;rw[e6]at hK |-;refine wN bF ?_;exact hK _ _ rfl bR
   ·have e6:vs 6=_:=dq he 6;rw[e6]at hK |-;have e11:vs 11=_:=dq he 11;rw[e11]at hK |-;rw[if_pos (by rfl)];simp only[gQ]at hK;have HK:=hid hK;clear hK he hi hBW;go_simp;exact HK.out _ _ (by first|rfl|simp[stF]) bR
  ·intro vs W hall hBW;have eo:vs 12=.bool false:=hall 12 (by decide);simp only[gT,qA4,qAB,qAA,gP];rw[eo];generalize vs 0=y0,vs 1=y1,vs 2=y2,vs 3=y3,vs 4=y4,vs 5=y5,vs 6=y6,vs 7=y7,vs 8=y8,vs 9=y9,vs 10=y10,vs 11=y11;have BX:=hid (BZ.out.trans (hBW.mono BZ.out.size));clear hall hBW eo;have HE:=hid (show res=false from by rw[HRS.out];rfl);go_wp2_with fail
   go_ret;exact⟨by rw[HE.out];rfl,BX.out⟩
 ·have IS:=hid (IS.out rfl);refine qA6 (PP:=stT T X N m c A L f R r) 13 rfl (by kernel_rfl) (by kernel_rfl) (by decide) (by decide) (qVL T X N m c A L f R r) (fun _=>undef) (by simp[qA4,gQ]) ?_ ?_
  ·intro i o vs W hi ho he hBW K hK;simp only[gT,qA4,gQ]at hK |-;have BW:=hid (B1.out.trans (hBW.mono B1.out.size));have RBW:=hid (RBV.out.then hBW);obtain rfl|rfl|rfl|rfl|rfl|rfl|rfl|rfl|rfl|rfl|rfl|rfl|rfl:=c13_ hi<;>simp only[gE]at ho<;>subst ho
   ·rw[if_pos (by rfl)];simp only[gQ]at hK;have HK:=hid hK;clear hK he hi hBW;go_simp;exact HK.out _ _ (by first|rfl|simp[stT]) bR
   ·have e0:vs 0=_:=dq he 0;rw[e0]at hK |-;rw[if_pos (by rfl)];simp only[gQ]at hK;have HK:=hid hK;clear hK he hi hBW;go_simp;exact HK.out _ _ (by first|rfl|simp[stT]) bR
   ·have e1:vs 1=_:=dq he 1;rw[e1]at hK |-;rw[if_pos (by rfl)];simp only[gQ]at hK;have HK:=hid hK;clear hK he hi hBW;go_simp;exact HK.out _ _ (by first|rfl|simp[stT]) bR
   ·have e2:vs 2=_:=gd he 2;rw[e2]at hK |-;rw[if_pos (by rfl)];simp only[gQ]at hK;have HK:=hid hK;clear hK he hi hBW;obtain⟨_,c0,c1,c2,c3,c4,c5,c6⟩:=RBW.out;go_simp;exact HK.out _ _ rfl bR
   ·have e3:vs 3=_:=dq he 3;rw[e3]at hK |-;have e2:vs 2=_:=gd he 2;rw[e2]at hK |-;rw[if_pos (by rfl)];simp only[gQ]at hK;have HK:=hid hK;clear hK he hi hBW;have WHW:=WH.out W BW.out;go_simp;go_at_call 45
    refine WHW.mono ?_;rintro en w9 ⟨rfl,h⟩;go_simp;exact HK.out _ _ rfl h
   ·have e2:vs 2=_:=dq he 2;rw[e2]at hK |-;have e4:vs 4=_:=dq he 4;rw[e4]at hK |-;rw[if_pos (by rfl)];simp only[gQ]at hK;have HK:=hid hK;clear hK he hi hBW;go_simp;exact HK.out _ _ (by first|rfl|simp[stT]) bR
   ·have e5:vs 5=_:=dq he 5;rw[e5]at hK |-;rw[if_pos (by rfl)];simp only[gQ]at hK;have HK:=hid hK;clear hK he hi hBW;go_simp;exact HK.out _ _ (by first|rfl|simp[stT]) bR
   iterate 2 ·have e6:vs 6=_:=gd he 6;rw[e6]at hK |-;rw[if_pos (by rfl)];simp only[gQ]at hK;have HK:=hid hK;clear hK he hi hBW;go_simp;exact HK.out _ _ (by first|rfl|simp[stT]) bR
   ·have e7:vs 7=_:=dq he 7;rw[e7]at hK |-;have e8:vs 8=_:=dq he 8;rw[e8]at hK |-;have e6:vs 6=_:=gd he 6;rw[e6]at hK |-;rw[if_pos (by rfl)];simp only[gQ]at hK;have HK:=hid hK;clear hK he hi hBW;have STW:=ST.out W BW.out;go_simp;go_at_call 94
    refine STW.mono ?_;rintro en w9 ⟨rb,rfl,hask,_,h⟩;unfold askW;go_simp;exact HK.out _ _ ⟨rb,rfl,hask⟩ h
   ·have e6:vs 6=_:=gd he 6;rw[e6]at hK |-;rw[if_pos (by rfl)];simp only[gQ]at hK;have HK:=hid hK;clear hK he hi hBW;obtain⟨_,c0,c1,c2,c3,c4,c5,c6⟩:=RBW.out;go_simp;exact HK.out _ _ rfl bR
   ·obtain⟨rb9,e9,hak9⟩:=dq he 9;rw[e9]at hK |-;have AK:=hid hak9;have e10:vs 10=_:=dq he 10;rw[e10]at hK |-;have e6:vs 6=_:=gd he 6;rw[e6]at hK |-;rw[if_pos (by rfl)];simp only[gQ]at hK;have HK:=hid hK;clear hK he hi hBW;have ISW:=IS.out rb9 W BW.out AK.out;go_simp;go_at_call 95
    refine ISW.mono ?_;rintro en w9 ⟨rfl,h⟩;go_simp;exact HK.out _ _ rfl h
   ·have e6:vs 6=_:=dq he 6;rw[e6]at hK |-;have e11:vs 11=_:=dq he 11;rw[e11]at hK |-;rw[if_pos (by rfl)];simp only[gQ]at hK;have HK:=hid hK;clear hK he hi hBW;go_simp;exact HK.out _ _ (by first|rfl|simp[stT]) bR
  ·intro vs W hall hBW;have eo:vs 12=.bool r:=hall 12 (by decide);simp only[gT,qA4,qAB,qAA,gP];rw[eo];generalize vs 0=y0,vs 1=y1,vs 2=y2,vs 3=y3,vs 4=y4,vs 5=y5,vs 6=y6,vs 7=y7,vs 8=y8,vs 9=y9,vs 10=y10,vs 11=y11;have BX:=hid (BZ.out.trans (hBW.mono BZ.out.size));clear hall hBW eo;have HE:=hid (show res=r from by rw[HRS.out];rfl);go_wp2_with fail
   go_ret;exact⟨by rw[HE.out];rfl,BX.out⟩
