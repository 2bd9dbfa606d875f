/- St14Wide, TrLess, TrDel -/
import Derived.Test.YteobmfpbgnmffaaGreatDoorT34
set_option linter.unusedVariables false
set_option maxHeartbeats 16000000
set_option maxRecDepth 100000
open Go.Lib (hid)
set_option linter.unusedSimpArgs false
namespace Go.Proofs.YteobmfpbgnmffaaGreatDoor
open Go.RowKit Go.Shelf
section
def qPQ (repos:List Rp)(ins:List Pk)(sl:Nat)(R:RV)(w:World)(e:Ending)(w':World) : Prop := ∃r,e=.returned (.bool r)/\(r=false->Narrow repos ins (sl:Int)/\R.tree.parts<=2000)/\Below w.heap.size w w'
theorem qBV {repos:List Rp}{ins:List Pk}{sl:Nat}{R:RV}{w w':World}(h:Below w.heap.size w w') : qPQ repos ins sl R w (.returned (.bool true)) w' := ⟨true,rfl,(fun hf=>by cases hf),h⟩
theorem qSD {w W:World}{A:Option Addr}{cap:Nat}{l:List Rp}(h:RpRow w.heap.size w A cap l)(hb:Below w.heap.size w W){k:Nat}(hk:k<l.length){b o:Nat}(ha:A=some ⟨b,o,none⟩) : W.cell? ⟨b,o+k * 2+1,none⟩=some (.slice l[k].A l[k].pk.length l[k].c) := by
 obtain⟨b',o',e,_,_,h2⟩:=(h.calls hb).at_ hk
 rw[ha]at e;cases e
 exact h2
theorem qV9 {W:World}{R:RV}(h:RTree W.heap.size W R) : RRow (W.alloc (.cells #[.int .u8 R.kind,.string (bs R.dep.name),.int .u8 R.dep.op,.int .i64 R.dep.evr.epoch,.string (bs R.dep.evr.ver),.string (bs R.dep.evr.rel),.slice R.addr R.args.length R.cap] 39)).heap.size (W.alloc (.cells #[.int .u8 R.kind,.string (bs R.dep.name),.int .u8 R.dep.op,.int .i64 R.dep.evr.epoch,.string (bs R.dep.evr.ver),.string (bs R.dep.evr.rel),.slice R.addr R.args.length R.cap] 39)) (some ⟨W.heap.size,0,none⟩) 1 [R] := by
 have b1:=(Below.refl W.heap.size W).alloc lR (.cells #[.int .u8 R.kind,.string (bs R.dep.name),.int .u8 R.dep.op,.int .i64 R.dep.evr.epoch,.string (bs R.dep.evr.ver),.string (bs R.dep.evr.rel),.slice R.addr R.args.length R.cap] 39);refine⟨⟨by simp,by unfold maxLen;omega,fun k hk=>⟨W.heap.size,0,rfl,by simp,fun j u hu => ?_⟩⟩,fun t ht => ?_⟩
 ·obtain rfl:k=0:=by simp at hk;exact hk
  refine (World.cell?_alloc_at _ _ _ _ rfl).trans ?_
  simpa [encR] using hu
 ·simp at ht;subst ht;exact (h.keeps b1).more b1.size
theorem qPL (RA:Option Addr)(rc:Nat)(repos:List Rp)(IA:Option Addr)(ic:Nat)(ins:List Pk)(SA:Option Addr)(sl sc:Nat)(R:RV)(w:World)(hr:RpRow w.heap.size w RA rc repos)(hi:PRow w.heap.size w IA ic ins)(hT:RTree w.heap.size w R) : Calls Tryz.prog 36 #[.slice RA repos.length rc,.slice IA ins.length ic,.slice SA sl sc,R.val] w (qPQ repos ins sl R w) := by
 have HI:=hid hi;have HR:=hid hr;have LI:=hi.1.len;have LR:=hr.row.len;have mi:=hi.1.1;have mr:=hr.row.1;have mi2:=hi.1.2.1;have mr2:=hr.row.2.1;unfold maxLen at mi2 mr2;clear hi hr;have LG:=hid (fun (p:Pk) W (h:p.Laid W.heap.size W)=>qLD p W h);unfold Pk.val at LG;have b1:=(Below.refl w.heap.size w).alloc lR (.cells #[.int .u8 R.kind,.string (bs R.dep.name),.int .u8 R.dep.op,.int .i64 R.dep.evr.epoch,.string (bs R.dep.evr.ver),.string (bs R.dep.evr.rel),.slice R.addr R.args.length R.cap] 39);have RB:=RBx.new R w;have tr:=(hT.keeps b1).more b1.size;have rw1:=qV9 tr;rw[show (w.alloc (.cells #[.int .u8 R.kind,.string (bs R.dep.name),.int .u8 R.dep.op,.int .i64 R.dep.evr.epoch,.string (bs R.dep.evr.ver),.string (bs R.dep.evr.rel),.slice R.addr R.args.length R.cap] 39)).heap.size=w.heap.size+1 from by simp]at rw1;have MU:=hid (qEU 21 0 _ 1 [R] _ rfl rw1);have b2:=b1.alloc b1.size (.cells #[.int .u8 R.kind,.string (bs R.dep.name),.int .u8 R.dep.op,.int .i64 R.dep.evr.epoch,.string (bs R.dep.evr.ver),.string (bs R.dep.evr.rel),.slice R.addr R.args.length R.cap] 39);unfold qIT at MU;rw[show [R].length=1 from rfl]at MU;unfold RV.val;obtain⟨_,z0,z1,z2,z3,z4,z5,z6⟩:=RB;have B2:=hid b2;clear tr rw1 b1 b2 hT;obtain⟨ni,hni⟩:∃n,n=ins.length:=⟨_,rfl⟩;obtain⟨nr,hnr⟩:∃n,n=repos.length:=⟨_,rfl⟩;rw[<- hni]at LI mi |-;rw[<- hnr]at LR mr |-;have HNI:=hid hni;have HNR:=hid hnr;clear hni hnr
 go_enter Tryz.func36,Tryz.ntmps36
 go_wp2_with fail
 go_at_call 92
 refine MU.out.mono ?_;rintro en W1 ⟨mm,rr,rfl,hm2,hr2,h⟩;have HB0:=hid (B2.out.trans (h.mono B2.out.size));have HR2:=hid hr2;clear h hr2 MU B2 z0 z1 z2 z3 z4 z5 z6;cases rr
 rotate_left
 ·go_wp2_with fail
  go_ret;exact qBV HB0.out
 have HPT:=hid (show R.tree.parts<=2000 from by
  have q:=HR2.out (by trivial);rw[qA1,qA1,qA9,qA9]at q;omega)
 clear HR2;by_cases q0:(30:Int)<(nr:Int)
 ·go_wp2_with fail
  go_ret;exact qBV HB0.out
 by_cases q1:(30:Int)<(ni:Int)
 ·go_wp2_with fail
  go_ret;exact qBV HB0.out
 by_cases q2:(200:Int)<(sl:Int)
 ·go_wp2_with fail
  go_ret;exact qBV HB0.out
 have Q2:=hid q2;go_wp2_with fail
 clear q2
 go_loopw[12] (fun i wr => ∃j:Nat,j<=ni/\i=.int .i64 (j:Int)/\Hid (∀m (hm:m<ins.length),m<j->(ins[m]).slim)/\Below w.heap.size w wr) (fun i _=>ni - (intOf i).toNat)
 case atStart=>exact⟨0,by omega,rfl,hid (by intro m hm h;omega),HB0.out⟩
 case round =>
  obtain⟨j,hj,rfl,HS,hB⟩:=hrel;rename World=>wr
  have HB:=hid hB;clear hB;by_cases hlt:j<ni
  ·have hjl:j<ins.length:=by have:=HNI.out;omega
   obtain⟨b,o,hadr,hbl,e0,e1,e2,e3,e4,e5,e6,e7,e8,e9,e10,e11,e12,e13,e14⟩:=(HI.out.calls HB.out).at_ hjl
   have LP:=hid (LG.out ins[j] wr ((HI.out.calls HB.out).2 _ (List.getElem_mem hjl)));have HSY:=hid (fun (h:(ins[j]).slim)=>show ∀m (hm:m<ins.length),m<j+1->(ins[m]).slim from fun m hm hmj=>by
    by_cases e:m=j
    ·subst e;exact h
    ·exact HS.out m hm (by omega))
   unfold qFC at LP;generalize ins[j]=x at *;subst hadr;have i0:(0:Int)<=(j:Int):=by omega
   have i1:(j:Int)<(ni:Int):=by omega
   clear hjl;go_wp2_with fail
   go_at_call 93
   refine LP.out.mono ?_;rintro e w3 ⟨r,rfl,hs,h⟩;have HB3:=hid (HB.out.trans (h.mono HB.out.size));have HSP:=hid hs;clear h hs LP e0 e1 e2 e3 e4 e5 e6 e7 e8 e9 e10 e11 e12 e13 e14;cases r
   ·go_wp2_with fail
    go_roundw
    case rel=>exact⟨j+1,by omega,by go_num,hid (HSY.out (HSP.out (by trivial))),HB3.out⟩
    case measure=>simp[intOf];omega
   ·go_wp2_with fail
    go_ret;exact qBV HB3.out
  ·obtain rfl:j=ni:=by omega
   have SI:=hid (show ∀p∈ins,p.slim from fun p hp=>by
    obtain⟨m,hm,rfl⟩:=List.getElem_of_mem hp;exact HS.out m hm (by have:=HNI.out;omega))
   clear HS;have i1:¬(j:Int)<(j:Int):=by omega
   go_wp2_with fail
   go_loopw[11,13] (fun n i wx => ∃(t m:Nat),t<=nr/\i=.int .i64 (t:Int)/\n=.int .i64 (m:Int)/\Hid (m=ins.length+qBD (repos.take t))/\(0<t->m<=50)/\m<=50/\Hid (∀u (hu:u<repos.length),u<t -> ∀p∈(repos[u]).pk,p.slim)/\Below w.heap.size w wx) (fun _ i _=>nr - (intOf i).toNat)
   case atStart=>exact⟨0,j,by omega,rfl,rfl,hid (by rw[HNI.out];simp[qBD]),by omega,by omega,hid (by intro u hu h;omega),HB.out⟩
   case round =>
    obtain⟨t,m,ht,rfl,rfl,HM,_,hm50,HS,hB⟩:=hrel;rename World=>wx
    have HX:=hid hB;clear hB HB;by_cases hlt2:t<nr
    ·have htl:t<repos.length:=by have:=HNR.out;omega
     obtain⟨b,o,hadr,hbl,d0,d1⟩:=(HR.out.calls HX.out).at_ htl
     have DD:=hid (fun W (h:Below w.heap.size w W)=>qSD HR.out h htl hadr);have PR:=hid (HR.out.pks _ (List.getElem_mem htl));have HM2:=hid (show m+(repos[t]).pk.length=ins.length+qBD (repos.take (t+1)) by rw[qBT repos t htl,HM.out];omega);have hpl:=HR.out.cnt _ (List.getElem_mem htl);have HSY:=hid (fun (h:∀p∈(repos[t]).pk,p.slim)=>show ∀u (hu:u<repos.length),u<t+1 -> ∀p∈(repos[u]).pk,p.slim from fun u hu hut=>by
      by_cases e:u=t
      ·subst e;exact h
      ·exact HS.out u hu (by omega))
     generalize repos[t]=r at *;obtain⟨np,hnp⟩:∃np,np=r.pk.length:=⟨_,rfl⟩;rw[<- hnp]at d1 hpl HM2;have HNP:=hid hnp;have HAD:=hid hadr;subst hadr;clear hnp htl HAD;have i0:(0:Int)<=(t:Int):=by omega
     have i2:(t:Int)<(nr:Int):=by omega
     by_cases hw:(50:Int)<(m:Int)+(np:Int)
     ·go_wp2_with fail
      go_ret;exact qBV HX.out
     ·go_wp2_with fail
      go_loopw[14] (fun i wy => ∃v:Nat,v<=np/\i=.int .i64 (v:Int)/\Hid (∀u (hu:u<r.pk.length),u<v->(r.pk[u]).slim)/\Below w.heap.size w wy) (fun i _=>np - (intOf i).toNat)
      case atStart=>exact⟨0,by omega,rfl,hid (by intro u hu h;omega),HX.out⟩
      case round =>
       obtain⟨v,hv,rfl,HV,hB⟩:=hrel;rename World=>wy
       have HY:=hid hB;clear hB;have dd1:wy.cell? ⟨b,o+t * 2+1,none⟩=some (.slice r.A np r.c):=by
        have h1:=HNP.out;exact (DD.out wy HY.out).trans (by rw[h1])
       by_cases hlt3:v<np
       ·have hvl:v<r.pk.length:=by have:=HNP.out;omega
        obtain⟨b',o',hadr',hbl',e0,e1,e2,e3,e4,e5,e6,e7,e8,e9,e10,e11,e12,e13,e14⟩:=(PR.out.calls HY.out).at_ hvl
        have LP:=hid (LG.out r.pk[v] wy ((PR.out.calls HY.out).2 _ (List.getElem_mem hvl)));have HVY:=hid (fun (h:(r.pk[v]).slim)=>show ∀u (hu:u<r.pk.length),u<v+1->(r.pk[u]).slim from fun u hu huv=>by
         by_cases e:u=v
         ·subst e;exact h
         ·exact HV.out u hu (by omega))
        unfold qFC at LP;generalize r.pk[v]=x at *;rw[hadr']at dd1;clear hadr';have j0:(0:Int)<=(v:Int):=by omega
        have j1:(v:Int)<(np:Int):=by omega
        clear hvl;go_wp2_with fail
        go_at_call 93
        refine LP.out.mono ?_;rintro e w3 ⟨r9,rfl,hs,h⟩;have HB3:=hid (HY.out.trans (h.mono HY.out.size));have HSP:=hid hs;clear h hs LP e0 e1 e2 e3 e4 e5 e6 e7 e8 e9 e10 e11 e12 e13 e14 dd1;cases r9
        ·go_wp2_with fail
         go_roundw
         case rel=>exact⟨v+1,by omega,by go_num,hid (HVY.out (HSP.out (by trivial))),HB3.out⟩
         case measure=>simp[intOf];omega
        ·go_wp2_with fail
         go_ret;exact qBV HB3.out
       ·obtain rfl:v=np:=by omega
        have SR:=hid (show ∀p∈r.pk,p.slim from fun p hp=>by
         obtain⟨u,hu,rfl⟩:=List.getElem_of_mem hp;exact HV.out u hu (by have:=HNP.out;omega))
        have j1:¬(v:Int)<(v:Int):=by omega
        clear HV;go_wp2_with fail
        go_roundw
        case rel=>exact⟨t+1,m+v,by omega,by go_num,by go_num,HM2,by omega,by omega,hid (HSY.out SR.out),HY.out⟩
        case measure=>simp[intOf];omega
    ·obtain rfl:t=nr:=by omega
     have i2:¬(t:Int)<(t:Int):=by omega
     have NW:=hid (show Narrow repos ins (sl:Int) from⟨by have:=HNR.out;omega,by have:=HNI.out;omega,by have:=Q2.out;omega,SI.out,fun r hr p hp=>by
      obtain⟨u,hu,rfl⟩:=List.getElem_of_mem hr;exact HS.out u hu (by have:=HNR.out;omega) p hp,by
      have h1:=HM.out;rw[List.take_of_length_le (by have:=HNR.out;omega)]at h1;omega⟩)
     clear HM HS SI;go_wp2_with fail
     go_ret;exact⟨false,rfl,fun _=>⟨NW.out,HPT.out⟩,HX.out⟩
end
section
def qBQ (D:List Int)(x:Int) : List Int := D.filter fun z=>decide (z≠x)
theorem qOG (D:List Int)(x:Int){k:Nat}(hk:k<D.length) : qBQ (D.take (k+1)) x=qBQ (D.take k) x++(if D[k]≠x then [D[k]] else []) := by
 unfold qBQ;rw[List.take_succ_eq_append_getElem hk,List.filter_append,List.filter_cons]
 congr 1
 by_cases h:D[k]=x
 ·rw[if_neg (by simp[h]),if_neg (by simp[h])];rfl
 ·rw[if_pos (by simp[h]),if_pos h];rfl
theorem qJK (D:List Int)(x:Int) : (qBQ D x).length<=D.length := List.length_filter_le _ _
theorem qOE (A:Option Addr)(c:Nat)(D:List Int)(x:Int)(w:World)(hD:D.length<=100000)(h:Rd encI 1 w.heap.size A c D w) : Calls Tryz.prog 60 #[.slice A D.length c,.int .i64 x] w fun e w' => ∃v,e=.returned v/\Own encI 1 w.heap.size 3 v (qBQ D x) w'/\Below w.heap.size w w' := by
 have H:=hid h;obtain⟨n,hn⟩:∃n,n=D.length:=⟨_,rfl⟩;rw[<- hn]at hD |-;have HN:=hid hn;have LS:=hid (fun k (hk:k<D.length)=>qOG D x hk);have LL:=hid (fun k=>Nat.le_trans (qJK (D.take k) x) (show (D.take k).length<=k by rw[List.length_take];omega));have LE:=hid (show qBQ (D.take n) x=qBQ D x by rw[hn,List.take_length]);obtain⟨i0,hi,hz0,hz1,hz2⟩:=info_parts qFH;clear h hn
 go_enter Tryz.func60,Tryz.ntmps60
 go_wp2_with fail
 go_loopw[5,6] (fun v iv wr => ∃k:Nat,k<=n/\iv=.int .i64 (k:Int)/\Own encI 1 w.heap.size 3 v (qBQ (D.take k) x) wr/\Below w.heap.size w wr) (fun _ iv _=>n - (intOf iv).toNat)
 case atStart=>exact⟨0,Nat.zero_le _,rfl,Own.nil_ _ _ _,Below.refl _ _⟩
 case round =>
  obtain⟨k,hk,rfl,how,hB⟩:=hrel;rename World=>wr
  have OW:=hid how;have HB:=hid hB;clear how;by_cases hlt:k<n
  ·have hkl:k<D.length:=by have:=HN.out;omega
   obtain⟨b,o,hA,hb,e0⟩:=((H.out.below hB).more hB.size).int_at hkl;have WK:=hid (LS.out k hkl);have WKL:=hid (LL.out k);subst hA;generalize D[k]=y at *;have i0':(0:Int)<=(k:Int):=by omega
   have i1:(k:Int)<(n:Int):=by omega
   clear hB hkl;by_cases hy:y=x
   ·subst hy;have WK2:=hid (show qBQ (D.take (k+1)) y=qBQ (D.take k) y from by rw[WK.out,if_neg (by simp),List.append_nil]);clear WK;go_wp2_with fail
    go_roundw
    case rel=>exact⟨k+1,by omega,by go_num,by rw[WK2.out];exact OW.out,HB.out⟩
    case measure=>simp[intOf];omega
   ·have WK2:=hid (show qBQ (D.take (k+1)) x=qBQ (D.take k) x++[y] from by rw[WK.out,if_pos hy]);have hy2:(y == x)=false:=beq_eq_false_iff_ne.2 hy;clear WK;go_wp2_with (at_builtin;refine wpList_append_own _ rfl _ _ 42 rfl w.heap.size 3 i0 (.int .i64 0) 1 8 Tryz.underlying42 hi hz0 hz1 hz2 rfl (by decide) _ _ _ rfl (World.ownsRow.alloc OW.out _) ⟨wr.heap.size,0,none⟩ 1 1 [.int .i64 y] rfl rfl ?c1 ?c2 ?c3 ?c4 ?c5 ?c6)
    case c1=>exact cell_one_new _ _ _
    case c2=>simp[Value.oneCell']
    case c3=>have:=WKL.out;unfold maxLen;omega
    case c4=>have:=WKL.out;omega
    case c5=>simp only[World.size_alloc];have:=HB.out.size;omega
    case c6 =>
     intro v' w6 ho6 hg6 _;have B6':=hid ((HB.out.alloc HB.out.size _).grown hg6 (by simp only[World.size_alloc];have:=HB.out.size;omega) (fun j hj=>(World.ownsRow.lt (World.ownsRow.alloc OW.out (.cells #[.int .i64 y] 3)) j hj).1));have OV6:=hid (Own.snoc (x:=y) ho6);clear ho6 hg6 OW HB e0 hb;go_wp2_with fail
     go_roundw
     case rel=>exact⟨k+1,by omega,by go_num,by rw[WK2.out];exact OV6.out,B6'.out⟩
     case measure=>simp[intOf];omega
  ·obtain rfl:k=n:=by omega
   have i1:¬(k:Int)<(k:Int):=by omega
   go_wp2_with fail
   go_ret;exact⟨_,rfl,by rw[<- LE.out];exact OW.out,HB.out⟩
end
section
def IRow (b n:Nat)(f:Nat->Int)(W:World) : Prop := ∀i,i<n->W.cell? ⟨b,i,none⟩=some (.int .i64 (f i))/\W.frozen? ⟨b,i,none⟩=false
theorem IRow.then {b n:Nat}{f:Nat->Int}{W W':World}(h:IRow b n f W)(hb:Below W.heap.size W W') : IRow b n f W' := fun i hi=>by
 obtain⟨h1,h2⟩:=h i hi;have hl:=World.block_lt_of_cell? W _ h1;exact⟨(hb.cell hl).trans h1,(hb.frozen hl).trans h2⟩
theorem IRow.set {b n:Nat}{f:Nat->Int}{W:World}(h:IRow b n f W){k:Nat}(hk:k<n)(x:Int) : IRow b n (fun i=>if i=k then x else f i) (W.setCell ⟨b,k,none⟩ (.int .i64 x)) := fun i hi=>by
 refine⟨?_,(World.frozen?_setCell _ _ _ _).trans (h i hi).2⟩;show _=some (Value.int .i64 (if i=k then x else f i));by_cases e:i=k
 ·subst e;rw[if_pos rfl];exact qAY (h i hi).1
 ·rw[if_neg e];exact (qA0 (fun h2=>e (by simp only[Addr.mk.injEq]at h2;exact h2.2.1.symm))).trans (h i hi).1
theorem IRow.of_own {b c base:Nat}{D:List Int}{W:World}(h:Own encI 1 base 3 (.slice (some ⟨b,0,none⟩) D.length c) D W) : IRow b D.length (fun i=>D.getD i 0) W := fun i hi=>by
 refine⟨?_,World.ownsRow.frozenAt h i⟩;have q:=World.ownsRow.cellAt h i (by omega);rw[q];have:∀(l:List Int) (k:Nat),(l.flatMap encI)[k]?=(l[k]?).map fun z=>Value.int .i64 z:=by
  intro l
  induction l with
  | nil=>intro k;rfl
  | cons a l ih=>intro k;cases k with
   | zero=>rfl
   | succ k=>exact ih k
 show _=some (Value.int .i64 (D.getD i 0));rw[this,List.getD_eq_getElem?_getD,List.getElem?_eq_getElem hi];rfl
theorem qPA (A:Option Addr)(cap:Nat)(l:List Int)(w:World)(h:Rd encI 1 w.heap.size A cap l w)(hl:l.length<=5000) : Calls Tryz.prog 111 #[.slice A l.length cap] w fun e w' => ∃v,e=.returned v/\Own encI 1 w.heap.size 3 v l w'/\Below w.heap.size w w' := by
 have q:∀(w:World) (a:Option Addr) (n c n' c':Nat),(binOp .eql 42 (.slice a n c) (.slice none n' c')).run Tryz.prog w=.ok (.bool a.isNone) w:=fun w a n c n' c'=>Lib.run_eql_slice_nil w _ _ a n c n' c' (by rfl);have H:=hid h;have HL:=hid hl
 cases A with
 | none =>
  have hlen:l.length=0:=by
   cases l with
   | nil=>rfl
   | cons x r=>obtain⟨b,o,e,_⟩:=h.2.2 0 (by simp);cases e
  obtain rfl:=List.eq_nil_of_length_eq_zero hlen;clear h hl hlen
  go_enter Tryz.func111,Tryz.ntmps111
  go_wp2_with fail
  go_ret;exact⟨_,rfl,Own.nil_ _ _ _,Below.refl _ _⟩
 | some ad =>
  obtain⟨n,hn⟩:∃n,n=l.length:=⟨_,rfl⟩;have HN:=hid hn;rw[<- hn];clear h hl hn
  go_enter Tryz.func111,Tryz.ntmps111
  go_wp2_with (at_builtin;refine qB5 _ rfl _ _ 42 rfl w.heap.size 3 _ _ 1 _ (by rfl) (by rfl) (by rfl) (by rfl) (by rfl) (by rfl) (by decide) qAZ qBW _ 0 [] rfl (World.ownsRow_made w #[] 0 lR (Nat.zero_le _) rfl) w.heap.size (some ad) cap l n HN.out rfl (H.out.alloc lR _) (by have:=HL.out;omega) (by decide) (by simp) ?_;intro v1 w1 ho1 hg1 hw1)
  go_ret;have hO:Own encI 1 w.heap.size 3 v1 l w1:=by simpa [Own] using ho1
  exact⟨v1,rfl,hO,((Below.refl _ w).alloc lR _).grown hg1 (by simp) (by intro k hk;cases hk;exact Nat.le_refl _)⟩
theorem qQU (g:FuncId)(eg:∀args w,(callFunc g args).run Tryz.prog w=.ok (.enter g args) w)(cp:Array Value)(p:Int->Bool)(l:List Int)(A:Option Addr)(c:Nat)(w:World)(hl:Rd encI 1 w.heap.size A c l w)(hn:l.length<=1000000)(hp:qTH w g cp p l) :
  Calls Tryz.prog 156 #[.slice A l.length c,.func (.func g) #[] cp] w fun e w'=>((e=.returned (.int .i64 (-1)) /\ ∀j (hj:j<l.length),p l[j]=false) \/ ∃k:Nat,∃hk:k<l.length,e=.returned (.int .i64 (k:Int))/\p l[k]=true /\ ∀j (hj:j<l.length),j<k->p l[j]=false)/\Below w.heap.size w w':=by
 have HL:=hid hl;have HP:=hid hp;clear hp;obtain⟨n,hnn⟩:∃n,n=l.length:=⟨_,rfl⟩;rw[<- hnn]at hn;have HN:=hid hnn;rw[show (Value.slice A l.length c)=.slice A n c by rw[hnn]];clear hl hnn
 go_enter Tryz.func156,Tryz.ntmps156
 go_wp2_with fail
 go_loopw[8] (fun i wr => ∃k:Nat,k<=n/\i=.int .i64 (k:Int)/\Hid (∀j (hj:j<l.length),j<k->p l[j]=false)/\Below w.heap.size w wr) (fun i _=>n - (intOf i).toNat)
 case atStart=>exact⟨0,by omega,rfl,hid (by intro j hj h;omega),Below.refl _ _⟩
 case round =>
  obtain⟨k,hk,rfl,hS,hB⟩:=hrel;rename World=>wr
  by_cases hlt:k<n
  ·have hkl:k<l.length:=by have:=HN.out;omega
   obtain⟨b,o,rfl,hb,c0⟩:=(HL.out.below hB).at1 (f:=fun s=>Value.int .i64 s) (fun _=>rfl) hkl;have CP:=hid (HP.out _ (List.getElem_mem hkl) wr hB);have HT:=hid (fun (h:p l[k]=true)=>show ∃k':Nat,∃hk:k'<l.length,k'=k/\p l[k']=true /\ ∀j (hj:j<l.length),j<k'->p l[j]=false from⟨k,hkl,rfl,h,hS.out⟩);have HF:=hid (fun (h:p l[k]=false)=>show ∀j (hj:j<l.length),j<k+1->p l[j]=false from fun j hj hjk=>by
    by_cases e:j=k
    ·subst e;exact h
    ·exact hS.out j hj (by omega))
   have i0:(0:Int)<=(k:Int):=by omega
   have i1:(k:Int)<(n:Int):=by omega
   generalize l[k]=d at *;generalize p d=r at *;clear hS;go_wp2_with fail
   go_at_fn g
   refine CP.out.mono ?_;rintro e w2 ⟨rfl,h⟩;have hB2:=hB.trans (h.mono hB.size);cases r
   ·have HF2:=hid (HF.out (by trivial));go_wp2_with fail
    go_roundw
    case rel=>exact⟨k+1,by omega,by go_num,HF2,hB2⟩
    case measure=>simp[intOf];omega
   ·have HA:=hid (HT.out (by trivial));clear HT HF;go_wp2_with fail
    go_ret;obtain⟨k',hk',rfl,h1,h2⟩:=HA.out;exact⟨.inr ⟨_,hk',rfl,h1,h2⟩,hB2⟩
  ·have i1:¬(k:Int)<(n:Int):=by omega
   have HA:=hid (show ∀j (hj:j<l.length),p l[j]=false from fun j hj=>hS.out j hj (by have:=HN.out;omega));go_wp2_with fail
   go_ret;exact⟨.inl ⟨rfl,HA.out⟩,hB⟩
theorem IRow.rd {b n c:Nat}{f:Nat->Int}{W:World}(h:IRow b n f W)(hb:b<W.heap.size){E:List Int}(hE:E.length<=n)(hc:n<=c)(hm:c<=maxLen)(he:∀i (hi:i<E.length),f i=E[i]) : Rd encI 1 W.heap.size (some ⟨b,0,none⟩) c E W :=
 ⟨by omega,hm,fun k hk=>⟨b,0,rfl,hb,fun j u hu=>by
  have hj:j=0:=by have:=(List.getElem?_eq_some_iff.1 hu).1;rw[qAZ]at this;omega
  subst hj;have h1:=(h k (by omega)).1;rw[he k hk]at h1;rw[show 0+k * 1+0=k by omega,h1];exact hu⟩⟩
theorem qG0 {D:List Int}{i:Nat}(hi:i<D.length) : D.getD i 0=D[i] := by rw[List.getD_eq_getElem?_getD,List.getElem?_eq_getElem hi];rfl
theorem qHE (g:FuncId)(eg:∀args w,(callFunc g args).run Tryz.prog w=.ok (.enter g args) w)(cp:Array Value)(p:Int->Bool)(l:List Int)(n:Nat)(hl9:l.length=n)(A:Option Addr)(c:Nat)(w:World)(hl:Rd encI 1 w.heap.size A c l w)(hn:n<=1000000)(hp:qTH w g cp p l) :
  Calls Tryz.prog 156 #[.slice A n c,.func (.func g) #[] cp] w fun e w'=>((e=.returned (.int .i64 (-1)) /\ ∀s∈l,p s=false) \/ ∃k:Nat,k<n/\e=.returned (.int .i64 (k:Int))/\p (l.getD k 0)=true /\ ∀j,j<k->p (l.getD j 0)=false)/\Below w.heap.size w w':=by
 subst hl9;refine (qQU g eg cp p l A c w hl hn hp).mono ?_;rintro e w' ⟨h,hb⟩;refine⟨?_,hb⟩;rcases h with⟨h1,h2⟩|⟨k,hk,h1,h2,h3⟩
 ·exact .inl ⟨h1,fun s hs=>by obtain⟨j,hj,rfl⟩:=List.getElem_of_mem hs;exact h2 j hj⟩
 ·exact .inr ⟨k,hk,h1,by rw[qG0 hk];exact h2,fun j hj=>by rw[qG0 (by omega:j<l.length)];exact h3 j _ hj⟩
theorem qKH (b:Nat):∀(vs:List Value) (o:Nat) (W:World),(W.setCells b o vs).heap.size=W.heap.size
 | [],_,_=>rfl
 | v::vs,o,W=>(qKH b vs (o+1) (W.setCell ⟨b,o,none⟩ v)).trans (by simp[World.setCell])
theorem qH8 {B b:Nat}(hb:B<=b):∀(vs:List Value) (o:Nat) {a W:World},Below B a W->Below B a (W.setCells b o vs)
 | [],_,_,_,h=>h
 | v::vs,o,_,_,h=>qH8 hb vs (o+1) (h.setCell (p:=⟨b,o,none⟩) hb v)
theorem qNX (g:FuncId)(eg:∀args w,(callFunc g args).run Tryz.prog w=.ok (.enter g args) w)(cp:Array Value)(p:Int->Bool)(D:List Int)(b c base:Nat)(w0 w:World)(hbase:base<=b)(hbw:b<w.heap.size)(h0:Below base w0 w)(hr:IRow b D.length (fun i=>D.getD i 0) w)(hn:D.length<=1000000)(hc:D.length<=c)(hcm:c<=maxLen)(h0b:base<=w.heap.size)(hp:∀s W,Below base w0 W->Calls Tryz.prog g (#[.int .i64 s]++cp) W fun e w'=>e=.returned (.bool (p s))/\Below W.heap.size W w') :
  Calls Tryz.prog 110 #[.slice (some ⟨b,0,none⟩) D.length c,.func (.func g) #[] cp] w fun e w'=>e=.returned (.slice (some ⟨b,0,none⟩) (D.filter fun s => !p s).length c)/\Rd encI 1 w'.heap.size (some ⟨b,0,none⟩) c (D.filter fun s => !p s) w'/\Below base w0 w':=by
 obtain⟨n,hnn⟩:∃n,D.length=n:=⟨_,rfl⟩;have IX:=hid (qHE g eg cp p D n hnn (some ⟨b,0,none⟩) c w (hr.rd hbw lR hc hcm (fun i hi=>qG0 hi)) (by omega) (fun s _ W hb=>hp s W (h0.trans (hb.mono (by omega)))));have HP:=hid hp;have HR:=hid hr;have H0:=hid h0;rw[hnn]at HR hn hc |-;have HN:=hid hnn;have TK:=hid (fun j (hj:j<n)=>show (D.take (j+1)).filter (fun s => !p s)=(D.take j).filter (fun s => !p s)++(if p (D.getD j 0) then [] else [D.getD j 0]) from by
  have hj2:j<D.length:=by omega
  rw[List.take_succ_eq_append_getElem hj2,List.filter_append,qG0 hj2,List.filter_cons]
  cases p D[j]<;>rfl)
 have TE:=hid (show (D.take n).filter (fun s => !p s)=D.filter (fun s => !p s) from by rw[<- hnn,List.take_length]);clear hp hr h0 hnn
 go_enter Tryz.func110,Tryz.ntmps110
 go_wp2_with fail
 go_at_call 156
 refine IX.out.mono ?_;rintro en w1 ⟨hcase,h⟩;have B1:=hid (H0.out.trans (h.mono (by omega)));have R1:=hid (HR.out.then h);have HBW:=hid (Nat.lt_of_lt_of_le hbw h.size);clear h IX H0 HR;rcases hcase with⟨rfl,hall⟩|⟨k,hk,rfl,hpk,hall⟩
 ·have HF:=hid (show D.filter (fun s => !p s)=D from List.filter_eq_self.2 fun s hs=>by rw[hall s hs];rfl);clear hall;go_wp2_with fail
  go_ret;exact⟨by rw[HF.out,HN.out];rfl,by rw[HF.out];exact R1.out.rd HBW.out (Nat.le_of_eq HN.out) hc hcm (fun i hi=>qG0 hi),B1.out⟩
 ·have hk2:((k:Int) == -1)=false:=beq_eq_false_iff_ne.2 (by omega);have F0:=hid (show (List.range k).map (fun i=>D.getD i 0)=(D.take (k+1)).filter (fun s => !p s) from by
   have hal:∀j,j<=k->(D.take j).filter (fun s => !p s)=(List.range j).map (fun i=>D.getD i 0):=by
    intro j
    induction j with
    | zero=>intro _;rfl
    | succ j ih =>
     intro hj;rw[TK.out j (by omega),ih (by omega),hall j (by omega),List.range_succ,List.map_append];rfl
   rw[TK.out k hk,hal k lR,hpk];simp)
  clear hall hpk;go_wp2_with fail
  go_loopw[5,6,7] (fun iv jv vv wr => ∃(i j:Nat) (f:Nat->Int),i<j/\j<=n/\iv=.int .i64 (i:Int)/\jv=.int .i64 (j:Int)/\IRow b n f wr/\Hid (∀x,j<=x->x<n->f x=D.getD x 0)/\Hid ((List.range i).map f=(D.take j).filter fun s => !p s)/\b<wr.heap.size/\Below base w0 wr) (fun _ jv _ _=>n - (intOf jv).toNat)
  case atStart=>exact⟨k,k+1,fun i=>D.getD i 0,by omega,by omega,rfl,by go_num,R1.out,hid (fun _ _ _=>rfl),F0.out,HBW.out,B1.out⟩
  case round =>
   obtain⟨i,j,f,hij,hjn,rfl,rfl,hR,HS,HT,hbl,hB⟩:=hrel;rename World=>wr
   have RR:=hid hR;have HB:=hid hB;by_cases hlt:j<n
   ·have i0:(0:Int)<=(j:Int):=by omega
    have i1:(j:Int)<(n:Int):=by omega
    have c0:=(hR j hlt).1;have FJ:=HS.out j lR hlt;rw[FJ]at c0;have CP:=hid (HP.out (D.getD j 0) wr hB);have TJ:=hid (TK.out j hlt);generalize D.getD j 0=d at *;generalize p d=r at *;clear hR hB;go_wp2_with fail
    go_at_fn g
    refine CP.out.mono ?_;rintro e w2 ⟨rfl,h⟩;have HB2:=hid (HB.out.trans (h.mono (by have:=HB.out.size;omega)));have RR2:=hid (RR.out.then h);have hbl2:=Nat.lt_of_lt_of_le hbl h.size;clear h c0 RR HB;cases r
    ·have NT:=hid (show (List.range (i+1)).map (fun x=>if x=i then d else f x)=(D.take (j+1)).filter (fun s => !p s) from by
      rw[TJ.out,<- HT.out,List.range_succ,List.map_append,if_neg (by simp)]
      congr 1
      ·exact List.map_congr_left fun x hx=>if_neg (by have:=List.mem_range.1 hx;omega)
      ·simp)
     obtain⟨ci,fi⟩:=RR2.out i (by omega);have j0:(0:Int)<=(i:Int):=by omega
     have j1:(i:Int)<(n:Int):=by omega
     have NR:=hid (RR2.out.set (k:=i) (by omega) d);have NB:=hid (HB2.out.setCell (p:=⟨b,i,none⟩) hbase (.int .i64 d));clear TJ CP FJ;go_wp2_with fail
     go_roundw
     case rel=>exact⟨i+1,j+1,_,by omega,by omega,by go_num,by go_num,NR.out,hid (fun x h1 h2=>by show (if x=i then d else f x)=_;rw[if_neg (by omega)];exact HS.out x (by omega) h2),NT,by simpa [World.setCell] using hbl2,NB.out⟩
     case measure=>simp[intOf];omega
    ·have NT:=hid (show (List.range i).map f=(D.take (j+1)).filter (fun s => !p s) from by rw[TJ.out,if_pos (by simp),List.append_nil];exact HT.out);clear TJ CP FJ;go_wp2_with fail
     go_roundw
     case rel=>exact⟨i,j+1,f,by omega,by omega,rfl,by go_num,RR2.out,hid (fun x h1 h2=>HS.out x (by omega) h2),NT,hbl2,HB2.out⟩
     case measure=>simp[intOf];omega
   ·obtain rfl:j=n:=by omega
    have i1:¬(j:Int)<(j:Int):=by omega
    have j0:(0:Int)<=(i:Int):=by omega
    have j1:(i:Int)<=(j:Int):=by omega
    have j2:(i:Int)<=(c:Int):=by omega
    have CL:=fun ty=>Lib.run_clear_slice (P:=Tryz.prog) wr 42 3 ty (.int .i64 0) Tryz.underlying42 Tryz.zeroValue3 rfl rfl b i (j - i) (c - i) (by omega) (fun x hx=>by rw[(hR (i+x) (by omega)).1];rfl) (fun x hx=>(hR (i+x) (by omega)).2);clear hR hB;have R9:=hid (show Rd encI 1 (wr.setCells b i (List.replicate (j - i) (.int .i64 0))).heap.size (some ⟨b,0,none⟩) c (D.filter fun s => !p s) (wr.setCells b i (List.replicate (j - i) (.int .i64 0))) from by
     have hE:D.filter (fun s => !p s)=(List.range i).map f:=by rw[HT.out,TE.out]
     rw[hE];refine IRow.rd (n:=i) (f:=f) (fun x hx => ?_) ?_ (by simp) (by omega) hcm (fun x hx=>by simp)
     ·exact⟨(World.cell?_setCells_out b _ _ _ _ (fun _ _=>.inl hx)).trans (RR.out x (by omega)).1,(World.frozen?_setCells b _ _ _ _).trans (RR.out x (by omega)).2⟩
     ·rw[qKH];exact hbl)
    have L9:=hid (show (D.filter fun s => !p s).length=i from by rw[<- TE.out,<- HT.out];simp);have B9:=hid (qH8 hbase (List.replicate (j - i) (.int .i64 0)) i HB.out);clear HT TE RR HB;go_wp2_with fail
    go_ret;exact⟨by rw[L9.out];rfl,R9.out,B9.out⟩
