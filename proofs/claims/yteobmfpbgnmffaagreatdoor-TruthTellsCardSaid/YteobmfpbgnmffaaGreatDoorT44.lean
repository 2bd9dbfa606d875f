/- R14 -/
import Derived.Test.YteobmfpbgnmffaaGreatDoorT42
import Derived.Test.YteobmfpbgnmffaaGreatDoorT43
set_option linter.unusedVariables false
set_option maxHeartbeats 16000000
set_option maxRecDepth 100000
open Go.Lib (hid)
set_option linter.unusedSimpArgs false
namespace Go.Proofs.YteobmfpbgnmffaaGreatDoor
open Go.RowKit Go.Shelf
def qD1 (Q:Nat)(I:Int)(L:List Pk)(t:RV) : Prop := ∀(A:Option Addr) (c:Nat) (S:List Int) (W:World),t.tree.okB=true->RTree W.heap.size W t->RPool Q I L W->Rd encI 1 W.heap.size A c S W->S.length<=1000000->L.length<=1000000->Calls Tryz.prog 109 #[.pointer (some ⟨Q,0,none⟩),.slice A S.length c,t.val] W fun e w'=>e=.returned (.bool (Tr.sat L.length (pvL L) t.tree (St.inS S)))/\Below W.heap.size W w'
theorem qHI {t:RV}(h:t.tree.okB=true)(hk:t.kind≠1):∀a∈t.args,a.tree.okB=true := by
 rw[qHH,if_neg hk]at h;simp only[Bool.and_eq_true]at h;intro a ha;exact qRD.1 h.2.2.2 _ (by rw[qEI];exact List.mem_map_of_mem ha)
theorem qHX {t:RV}(h:t.tree.okB=true)(hk:t.kind≠1) : 2<=t.args.length/\t.args.length<=qF8 t.kind := by
 rw[qHH,if_neg hk]at h;simp only[Bool.and_eq_true,decide_eq_true_eq]at h;have:=h.2.2.1;rw[qA5]at this;exact this
section
variable {Q:Nat}{I:Int}{L:List Pk}
def qE8 (Q sb so m c k lb lo N lc nn bx:Nat)(z:Int)(q:Pk)(d:Dp)(pv:Bool)(i:Nat)(v:Value)(W:World) : Prop := match i with
 |0=>v=.pointer (some ⟨Q,0,none⟩)
 |1=>v=.slice (some ⟨sb,so,none⟩) m c
 |2=>v=.int .i64 (k:Int)
 |3=>v=.pointer (some ⟨sb,so+k,none⟩)
 |4=>v=.int .i64 z
 | 5|6=>v=.bool true
 |7=>v=.pointer (some ⟨Q,0,none⟩)
 |8=>v=.pointer (some ⟨Q,0,none⟩)
 |9=>v=.pointer (some ⟨Q,0,none⟩)
 |10=>v=.slice (some ⟨lb,lo,none⟩) N lc
 |11=>v=.slice (some ⟨sb,so,none⟩) m c
 |12=>v=.int .i64 (k:Int)
 |13=>v=.pointer (some ⟨sb,so+k,none⟩)
 |14=>v=.int .i64 z
 |15=>v=.pointer (some ⟨lb,lo+nn * 15,none⟩)
 |16=>v=.agg #[.string q.name,.int .i64 q.epoch,.string q.ver,.string q.rel,.int .u8 q.arch,.string q.vendor,.slice q.provA q.prov.length q.provC,.slice q.reqA q.req.length q.reqC,.slice q.conA q.con.length q.conC,.slice q.obsA q.obs.length q.obsC,.slice q.rcmA q.rcm.length q.rcmC,.slice q.supA q.sup.length q.supC,.slice q.sugA q.sug.length q.sugC,.slice q.enhA q.enh.length q.enhC,.slice q.filesA q.files.length q.filesC]
 |17=>v=.pointer (some ⟨bx,1,none⟩)
 |18=>v=.agg #[.string (bs d.name),.int .u8 d.op,.int .i64 d.evr.epoch,.string (bs d.evr.ver),.string (bs d.evr.rel)]
 |19=>v=.bool pv
 |20=>v=.bool pv
 | _=>False
theorem qOY (Q sb so m c k lb lo N lc nn bx:Nat)(z:Int)(q:Pk)(d:Dp)(pv:Bool):∀i v w w',qE8 Q sb so m c k lb lo N lc nn bx z q d pv i v w->Below w.heap.size w w'->qE8 Q sb so m c k lb lo N lc nn bx z q d pv i v w' := by
 intro i v w w' h hb
 match i,h with
 |0,h|1,h|2,h|3,h|4,h|5,h|6,h|7,h|8,h|9,h|10,h|11,h|12,h|13,h|14,h|15,h|16,h|17,h|18,h|19,h|20,h=>exact h
 | (k+21),h=>exact h.elim
def qLY (Q sb so m c k:Nat)(z:Int)(i:Nat)(v:Value)(W:World) : Prop := match i with
 |0=>v=.pointer (some ⟨Q,0,none⟩)
 |1=>v=.slice (some ⟨sb,so,none⟩) m c
 |2=>v=.int .i64 (k:Int)
 |3=>v=.pointer (some ⟨sb,so+k,none⟩)
 |4=>v=.int .i64 z
 | 5|6=>v=.bool false
 | 7|8|9|10|11|12|13|14|15|16|17|18|19=>v=undef
 |20=>v=.bool false
 | _=>False
theorem qOX (Q sb so m c k:Nat)(z:Int):∀i v w w',qLY Q sb so m c k z i v w->Below w.heap.size w w'->qLY Q sb so m c k z i v w' := by
 intro i v w w' h hb
 match i,h with
 |0,h|1,h|2,h|3,h|4,h|5,h|6,h|7,h|8,h|9,h|10,h|11,h|12,h|13,h|14,h|15,h|16,h|17,h|18,h|19,h|20,h=>exact h
 | (k+21),h=>exact h.elim
def qE9 (Q sb so m c k:Nat)(z:Int)(d:Dp)(TA:Option Addr)(tc:Nat)(l:List RV)(pv:Bool)(i:Nat)(v:Value)(W:World) : Prop := match i with
 |0=>v=.pointer (some ⟨Q,0,none⟩)
 |1=>v=.slice (some ⟨sb,so,none⟩) m c
 |2=>v=.int .i64 (k:Int)
 |3=>v=.pointer (some ⟨sb,so+k,none⟩)
 |4=>v=.int .i64 z
 | 5|6=>v=.bool true
 |7=>v=.pointer (some ⟨Q,0,none⟩)
 |8=>v=.slice (some ⟨sb,so,none⟩) m c
 |9=>v=.int .i64 (k:Int)
 |10=>v=.pointer (some ⟨sb,so+k,none⟩)
 |11=>v=.int .i64 z
 |12=>v=.agg #[.int .u8 6,.string (bs d.name),.int .u8 d.op,.int .i64 d.evr.epoch,.string (bs d.evr.ver),.string (bs d.evr.rel),.slice TA l.length tc]
 |13=>v=.bool pv
 |14=>v=.bool pv
 | _=>False
theorem qM0 (Q sb so m c k:Nat)(z:Int)(d:Dp)(TA:Option Addr)(tc:Nat)(l:List RV)(pv:Bool):∀i v w w',qE9 Q sb so m c k z d TA tc l pv i v w->Below w.heap.size w w'->qE9 Q sb so m c k z d TA tc l pv i v w' := by
 intro i v w w' h hb
 match i,h with
 |0,h|1,h|2,h|3,h|4,h|5,h|6,h|7,h|8,h|9,h|10,h|11,h|12,h|13,h|14,h=>exact h
 | (k+15),h=>exact h.elim
def qGC (Q sb so m c k:Nat)(z:Int)(i:Nat)(v:Value)(W:World) : Prop := match i with
 |0=>v=.pointer (some ⟨Q,0,none⟩)
 |1=>v=.slice (some ⟨sb,so,none⟩) m c
 |2=>v=.int .i64 (k:Int)
 |3=>v=.pointer (some ⟨sb,so+k,none⟩)
 |4=>v=.int .i64 z
 | 5|6=>v=.bool false
 | 7|8|9|10|11|12|13=>v=undef
 |14=>v=.bool false
 | _=>False
theorem qLZ (Q sb so m c k:Nat)(z:Int):∀i v w w',qGC Q sb so m c k z i v w->Below w.heap.size w w'->qGC Q sb so m c k z i v w' := by
 intro i v w w' h hb
 match i,h with
 |0,h|1,h|2,h|3,h|4,h|5,h|6,h|7,h|8,h|9,h|10,h|11,h|12,h|13,h|14,h=>exact h
 | (k+15),h=>exact h.elim
def qEA (Q sb so m c k:Nat)(z:Int)(d:Dp)(TA:Option Addr)(tc:Nat)(l:List RV)(pv:Bool)(i:Nat)(v:Value)(W:World) : Prop := match i with
 |0=>v=.pointer (some ⟨Q,0,none⟩)
 |1=>v=.slice (some ⟨sb,so,none⟩) m c
 |2=>v=.int .i64 (k:Int)
 |3=>v=.pointer (some ⟨sb,so+k,none⟩)
 |4=>v=.int .i64 z
 | 5|6=>v=.bool true
 |7=>v=.pointer (some ⟨Q,0,none⟩)
 |8=>v=.slice (some ⟨sb,so,none⟩) m c
 |9=>v=.int .i64 (k:Int)
 |10=>v=.pointer (some ⟨sb,so+k,none⟩)
 |11=>v=.int .i64 z
 |12=>v=.agg #[.int .u8 7,.string (bs d.name),.int .u8 d.op,.int .i64 d.evr.epoch,.string (bs d.evr.ver),.string (bs d.evr.rel),.slice TA l.length tc]
 |13=>v=.bool pv
 |14=>v=.bool pv
 | _=>False
theorem qM2 (Q sb so m c k:Nat)(z:Int)(d:Dp)(TA:Option Addr)(tc:Nat)(l:List RV)(pv:Bool):∀i v w w',qEA Q sb so m c k z d TA tc l pv i v w->Below w.heap.size w w'->qEA Q sb so m c k z d TA tc l pv i v w' := by
 intro i v w w' h hb
 match i,h with
 |0,h|1,h|2,h|3,h|4,h|5,h|6,h|7,h|8,h|9,h|10,h|11,h|12,h|13,h|14,h=>exact h
 | (k+15),h=>exact h.elim
def qGD (Q sb so m c k:Nat)(z:Int)(i:Nat)(v:Value)(W:World) : Prop := match i with
 |0=>v=.pointer (some ⟨Q,0,none⟩)
 |1=>v=.slice (some ⟨sb,so,none⟩) m c
 |2=>v=.int .i64 (k:Int)
 |3=>v=.pointer (some ⟨sb,so+k,none⟩)
 |4=>v=.int .i64 z
 | 5|6=>v=.bool false
 | 7|8|9|10|11|12|13=>v=undef
 |14=>v=.bool false
 | _=>False
theorem qM1 (Q sb so m c k:Nat)(z:Int):∀i v w w',qGD Q sb so m c k z i v w->Below w.heap.size w w'->qGD Q sb so m c k z i v w' := by
 intro i v w w' h hb
 match i,h with
 |0,h|1,h|2,h|3,h|4,h|5,h|6,h|7,h|8,h|9,h|10,h|11,h|12,h|13,h|14,h=>exact h
 | (k+15),h=>exact h.elim
theorem qXG (d:Dp)(TA:Option Addr)(tc:Nat)(l:List RV)(IH:∀a∈l,qD1 Q I L a) : qD1 Q I L (.node 2 d TA tc l) := by
 intro A c S w hok hT hP hS hSn hLn;have HT:=hid (fun W (hb:Below w.heap.size w W)=>(hT.keeps hb).more hb.size);have AT:=hid (fun W (hb:Below w.heap.size w W) (i:Nat) (hi:i<l.length)=>(show RRow W.heap.size W TA tc l from ((hT.keeps hb).more hb.size).rrow).at_ hi);have hn:=hT.row.len;have hln:l.length<=9223372036854775807:=hn;clear hn;have PQ:=hid (fun W (hb:Below w.heap.size w W)=>hP.then hb);have IHC:=hid (fun (i:Nat) (hi:i<l.length) W (hb:Below w.heap.size w W)=>IH l[i] (List.getElem_mem hi) A c S W (qHI hok (show (2:Int)≠1 by decide) _ (List.getElem_mem hi)) (((hT.keeps hb).more hb.size).sub _ (List.getElem_mem hi)) (hP.then hb) ((hS.below hb).more hb.size) hSn hLn);have XB:=hid (RBx.new (.node 2 d TA tc l) w);unfold RV.val at IHC;dsimp only[RV.kind,RV.dep,RV.addr,RV.args,RV.cap]at XB;have B1:=hid ((Below.refl w.heap.size w).alloc lR (.cells #[.int .u8 2,.string (bs d.name),.int .u8 d.op,.int .i64 d.evr.epoch,.string (bs d.evr.ver),.string (bs d.evr.rel),.slice TA l.length tc] 39));obtain⟨m,hm⟩:∃m,S.length=m:=⟨_,rfl⟩;rw[hm]at IHC |-;obtain⟨n,hn⟩:∃n,n=l.length:=⟨_,rfl⟩;have HN:=hid hn;obtain⟨r,hr⟩:∃r,r=Tr.sat L.length (pvL L) (RV.tree (.node 2 d TA tc l)) (St.inS S):=⟨_,rfl⟩;rw[<- hr];have RR:=hid (show r=l.all fun a=>Tr.sat L.length (pvL L) a.tree (St.inS S) by rw[hr,qKC,<- qIO];rfl);clear hok hT hP hS hr IH;unfold RV.val;dsimp only[RV.kind,RV.dep,RV.addr,RV.args,RV.cap]
 go_enter Tryz.func109,Tryz.ntmps109
 go_wp2_with fail
 obtain⟨V,hV⟩:∃V,V=w.alloc (.cells #[.int .u8 2,.string (bs d.name),.int .u8 d.op,.int .i64 d.evr.epoch,.string (bs d.evr.ver),.string (bs d.evr.rel),.slice TA l.length tc] 39):=⟨_,rfl⟩;rw[<- hV]at B1 XB |-;clear hV;rw[<- hn]at hln |-;clear hn
 go_loopw[8] (fun iv wr => ∃i9:Nat,i9<=n/\iv=.int .i64 (i9:Int)/\Hid (∀j (hj:j<l.length),j<i9->Tr.sat L.length (pvL L) l[j].tree (St.inS S)=true)/\Below w.heap.size w wr/\Below V.heap.size V wr) (fun iv _=>n - (intOf iv).toNat)
 case atStart=>exact⟨0,Nat.zero_le _,rfl,hid (by intro j hj h;omega),B1.out,Below.refl _ _⟩
 case round =>
  obtain⟨i9,hi9,rfl,HS,hB,hV⟩:=hrel;rename World=>wr
  have HB:=hid hB;have HV:=hid hV;obtain⟨_,c0,c1,c2,c3,c4,c5,c6⟩:=XB.out.then hV;clear c0 c1 c2 c3 c4 c5 hB hV;dsimp only[RV.addr,RV.args,RV.cap]at c6;rw[<- HN.out]at c6;by_cases hlt:i9<n
  ·have hkl:i9<l.length:=by have:=HN.out;omega
   obtain⟨b,o,hA,hb,a0,a1,a2,a3,a4,a5,a6⟩:=AT.out wr HB.out i9 hkl;have IC:=hid (IHC.out i9 hkl wr HB.out);have HYS:=hid (fun (h:Tr.sat L.length (pvL L) l[i9].tree (St.inS S)=false)=>show r=false by rw[RR.out];exact by rw[List.all_eq_false];exact⟨_,List.getElem_mem hkl,by rw[h];exact Bool.false_ne_true⟩);have HNX:=hid (fun (h:Tr.sat L.length (pvL L) l[i9].tree (St.inS S)=true)=>show ∀j (hj:j<l.length),j<i9+1->Tr.sat L.length (pvL L) l[j].tree (St.inS S)=true from fun j hj hjk=>by
    by_cases e:j=i9
    ·subst e;exact h
    ·exact HS.out j hj (by omega))
   obtain⟨v9,hv9⟩:∃v,Tr.sat L.length (pvL L) l[i9].tree (St.inS S)=v:=⟨_,rfl⟩;rw[hv9]at IC HYS HNX;clear hv9;generalize l[i9]=y at *;have i0:(0:Int)<=(i9:Int):=by omega
   have i1:(i9:Int)<(n:Int):=by omega
   subst hA;clear hb hkl IHC;go_wp2_with fail
   go_at_call 109
   refine IC.out.mono ?_;rintro e w9 ⟨rfl,h9⟩;have B9:=hid (HB.out.trans (h9.mono HB.out.size));have V9:=hid (HV.out.trans (h9.mono HV.out.size));clear h9 IC a0 a1 a2 a3 a4 a5 a6 c6;cases v9
   ·obtain rfl:r=false:=HYS.out (by simp);go_wp2_with fail
    go_ret;exact⟨rfl,B9.out⟩
   ·go_wp2_with fail
    go_roundw
    case rel=>exact⟨i9+1,by omega,by go_num,hid (HNX.out (by simp)),B9.out,V9.out⟩
    case measure=>simp[intOf];omega
  ·obtain rfl:i9=n:=by omega
   have i1:¬(i9:Int)<(i9:Int):=by omega
   obtain rfl:r=true:=by
    rw[RR.out];rw[List.all_eq_true];intro x hx;obtain⟨j,hj,rfl⟩:=List.getElem_of_mem hx;exact HS.out j hj (by have:=HN.out;omega)
   go_wp2_with fail
   go_ret;exact⟨rfl,HB.out⟩
theorem qYU (d:Dp)(TA:Option Addr)(tc:Nat)(l:List RV)(IH:∀a∈l,qD1 Q I L a) : qD1 Q I L (.node 3 d TA tc l) := by
 intro A c S w hok hT hP hS hSn hLn;have HT:=hid (fun W (hb:Below w.heap.size w W)=>(hT.keeps hb).more hb.size);have AT:=hid (fun W (hb:Below w.heap.size w W) (i:Nat) (hi:i<l.length)=>(show RRow W.heap.size W TA tc l from ((hT.keeps hb).more hb.size).rrow).at_ hi);have hn:=hT.row.len;have hln:l.length<=9223372036854775807:=hn;clear hn;have PQ:=hid (fun W (hb:Below w.heap.size w W)=>hP.then hb);have IHC:=hid (fun (i:Nat) (hi:i<l.length) W (hb:Below w.heap.size w W)=>IH l[i] (List.getElem_mem hi) A c S W (qHI hok (show (3:Int)≠1 by decide) _ (List.getElem_mem hi)) (((hT.keeps hb).more hb.size).sub _ (List.getElem_mem hi)) (hP.then hb) ((hS.below hb).more hb.size) hSn hLn);have XB:=hid (RBx.new (.node 3 d TA tc l) w);unfold RV.val at IHC;dsimp only[RV.kind,RV.dep,RV.addr,RV.args,RV.cap]at XB;have B1:=hid ((Below.refl w.heap.size w).alloc lR (.cells #[.int .u8 3,.string (bs d.name),.int .u8 d.op,.int .i64 d.evr.epoch,.string (bs d.evr.ver),.string (bs d.evr.rel),.slice TA l.length tc] 39));obtain⟨m,hm⟩:∃m,S.length=m:=⟨_,rfl⟩;rw[hm]at IHC |-;obtain⟨n,hn⟩:∃n,n=l.length:=⟨_,rfl⟩;have HN:=hid hn;obtain⟨r,hr⟩:∃r,r=Tr.sat L.length (pvL L) (RV.tree (.node 3 d TA tc l)) (St.inS S):=⟨_,rfl⟩;rw[<- hr];have RR:=hid (show r=l.any fun a=>Tr.sat L.length (pvL L) a.tree (St.inS S) by rw[hr,qKC,<- qSG];rfl);clear hok hT hP hS hr IH;unfold RV.val;dsimp only[RV.kind,RV.dep,RV.addr,RV.args,RV.cap]
 go_enter Tryz.func109,Tryz.ntmps109
 go_wp2_with fail
 obtain⟨V,hV⟩:∃V,V=w.alloc (.cells #[.int .u8 3,.string (bs d.name),.int .u8 d.op,.int .i64 d.evr.epoch,.string (bs d.evr.ver),.string (bs d.evr.rel),.slice TA l.length tc] 39):=⟨_,rfl⟩;rw[<- hV]at B1 XB |-;clear hV;rw[<- hn]at hln |-;clear hn
 go_loopw[9] (fun iv wr => ∃i9:Nat,i9<=n/\iv=.int .i64 (i9:Int)/\Hid (∀j (hj:j<l.length),j<i9->Tr.sat L.length (pvL L) l[j].tree (St.inS S)=false)/\Below w.heap.size w wr/\Below V.heap.size V wr) (fun iv _=>n - (intOf iv).toNat)
 case atStart=>exact⟨0,Nat.zero_le _,rfl,hid (by intro j hj h;omega),B1.out,Below.refl _ _⟩
 case round =>
  obtain⟨i9,hi9,rfl,HS,hB,hV⟩:=hrel;rename World=>wr
  have HB:=hid hB;have HV:=hid hV;obtain⟨_,c0,c1,c2,c3,c4,c5,c6⟩:=XB.out.then hV;clear c0 c1 c2 c3 c4 c5 hB hV;dsimp only[RV.addr,RV.args,RV.cap]at c6;rw[<- HN.out]at c6;by_cases hlt:i9<n
  ·have hkl:i9<l.length:=by have:=HN.out;omega
   obtain⟨b,o,hA,hb,a0,a1,a2,a3,a4,a5,a6⟩:=AT.out wr HB.out i9 hkl;have IC:=hid (IHC.out i9 hkl wr HB.out);have HYS:=hid (fun (h:Tr.sat L.length (pvL L) l[i9].tree (St.inS S)=true)=>show r=true by rw[RR.out];exact List.any_eq_true.2 ⟨_,List.getElem_mem hkl,h⟩);have HNX:=hid (fun (h:Tr.sat L.length (pvL L) l[i9].tree (St.inS S)=false)=>show ∀j (hj:j<l.length),j<i9+1->Tr.sat L.length (pvL L) l[j].tree (St.inS S)=false from fun j hj hjk=>by
    by_cases e:j=i9
    ·subst e;exact h
    ·exact HS.out j hj (by omega))
   obtain⟨v9,hv9⟩:∃v,Tr.sat L.length (pvL L) l[i9].tree (St.inS S)=v:=⟨_,rfl⟩;rw[hv9]at IC HYS HNX;clear hv9;generalize l[i9]=y at *;have i0:(0:Int)<=(i9:Int):=by omega
   have i1:(i9:Int)<(n:Int):=by omega
   subst hA;clear hb hkl IHC;go_wp2_with fail
   go_at_call 109
   refine IC.out.mono ?_;rintro e w9 ⟨rfl,h9⟩;have B9:=hid (HB.out.trans (h9.mono HB.out.size));have V9:=hid (HV.out.trans (h9.mono HV.out.size));clear h9 IC a0 a1 a2 a3 a4 a5 a6 c6;cases v9
   ·go_wp2_with fail
    go_roundw
    case rel=>exact⟨i9+1,by omega,by go_num,hid (HNX.out (by simp)),B9.out,V9.out⟩
    case measure=>simp[intOf];omega
   ·obtain rfl:r=true:=HYS.out (by simp);go_wp2_with fail
    go_ret;exact⟨rfl,B9.out⟩
  ·obtain rfl:i9=n:=by omega
   have i1:¬(i9:Int)<(i9:Int):=by omega
   obtain rfl:r=false:=by
    rw[RR.out];rw[List.any_eq_false];intro x hx;obtain⟨j,hj,rfl⟩:=List.getElem_of_mem hx;rw[HS.out j hj (by have:=HN.out;omega)];simp
   go_wp2_with fail
   go_ret;exact⟨rfl,HB.out⟩
theorem qYT (d:Dp)(TA:Option Addr)(tc:Nat)(l:List RV)(IH:∀a∈l,qD1 Q I L a) : qD1 Q I L (.node 4 d TA tc l) := by
 intro A c S w hok hT hP hS hSn hLn;have HT:=hid (fun W (hb:Below w.heap.size w W)=>(hT.keeps hb).more hb.size);have AT:=hid (fun W (hb:Below w.heap.size w W) (i:Nat) (hi:i<l.length)=>(show RRow W.heap.size W TA tc l from ((hT.keeps hb).more hb.size).rrow).at_ hi);have hn:=hT.row.len;have hln:l.length<=9223372036854775807:=hn;clear hn;have PQ:=hid (fun W (hb:Below w.heap.size w W)=>hP.then hb);have IHC:=hid (fun (i:Nat) (hi:i<l.length) W (hb:Below w.heap.size w W)=>IH l[i] (List.getElem_mem hi) A c S W (qHI hok (show (4:Int)≠1 by decide) _ (List.getElem_mem hi)) (((hT.keeps hb).more hb.size).sub _ (List.getElem_mem hi)) (hP.then hb) ((hS.below hb).more hb.size) hSn hLn);have XB:=hid (RBx.new (.node 4 d TA tc l) w);unfold RV.val at IHC;dsimp only[RV.kind,RV.dep,RV.addr,RV.args,RV.cap]at XB;have B1:=hid ((Below.refl w.heap.size w).alloc lR (.cells #[.int .u8 4,.string (bs d.name),.int .u8 d.op,.int .i64 d.evr.epoch,.string (bs d.evr.ver),.string (bs d.evr.rel),.slice TA l.length tc] 39));obtain⟨m,hm⟩:∃m,S.length=m:=⟨_,rfl⟩;rw[hm]at IHC |-;obtain⟨n,hn⟩:∃n,n=l.length:=⟨_,rfl⟩;have HN:=hid hn;obtain⟨hn2,hn3⟩:=qHX hok (show (4:Int)≠1 by decide);have hn2:2<=l.length:=hn2;have hn3:l.length<=3:=hn3;rw[<- hn]at hn2 hn3;obtain⟨r,hr⟩:∃r,r=Tr.sat L.length (pvL L) (RV.tree (.node 4 d TA tc l)) (St.inS S):=⟨_,rfl⟩;rw[<- hr];have l0:0<l.length:=by omega
 have l1:1<l.length:=by omega
 obtain⟨v0,hv0⟩:∃v,Tr.sat L.length (pvL L) l[0].tree (St.inS S)=v:=⟨_,rfl⟩;obtain⟨v1,hv1⟩:∃v,Tr.sat L.length (pvL L) l[1].tree (St.inS S)=v:=⟨_,rfl⟩;have RR:=hid (show r=(if v1 then v0 else (decide (l.length<3) || (Tr.satL L.length (pvL L) (qA1 l) (St.inS S)).getD 2 false)) by
  rw[hr,qKC,<- hv0,<- hv1,<- qBE l0,<- qBE l1,show l.length=(Tr.satL L.length (pvL L) (qA1 l) (St.inS S)).length by rw[Tr.satL_len,qA5]];rfl)
 have RG:=hid (fun (h:2<l.length)=>show (Tr.satL L.length (pvL L) (qA1 l) (St.inS S)).getD 2 false=Tr.sat L.length (pvL L) l[2].tree (St.inS S) from qBE h _);have I0:=hid (fun W hb=>hv0 ▸ IHC.out 0 l0 W hb);have I1:=hid (fun W hb=>hv1 ▸ IHC.out 1 l1 W hb);obtain⟨b,o,hA,_⟩:=AT.out w bR 0 l0;subst hA;have CX:=hid (fun (i:Nat) (hi:i<l.length) W (hb:Below w.heap.size w W)=>show W.cell? ⟨b,o+i * 7,none⟩=some (.int .u8 l[i].kind)/\W.cell? ⟨b,o+i * 7+1,none⟩=some (.string (bs l[i].dep.name))/\W.cell? ⟨b,o+i * 7+2,none⟩=some (.int .u8 l[i].dep.op)/\W.cell? ⟨b,o+i * 7+3,none⟩=some (.int .i64 l[i].dep.evr.epoch)/\W.cell? ⟨b,o+i * 7+4,none⟩=some (.string (bs l[i].dep.evr.ver))/\W.cell? ⟨b,o+i * 7+5,none⟩=some (.string (bs l[i].dep.evr.rel))/\W.cell? ⟨b,o+i * 7+6,none⟩=some (.slice l[i].addr l[i].args.length l[i].cap) from by
  obtain⟨b',o',e,_,q⟩:=AT.out W hb i hi;cases e
  exact q)
 have C0:=hid (fun W hb=>CX.out 0 l0 W hb);have C1:=hid (fun W hb=>CX.out 1 l1 W hb);simp only[Nat.zero_mul,Nat.one_mul,Nat.add_zero]at C0 C1;clear hok hT hP hS hr IH hv0 hv1;generalize l[0]=y0 at *;generalize l[1]=y1 at *;unfold RV.val;dsimp only[RV.kind,RV.dep,RV.addr,RV.args,RV.cap];have hi0:(0:Int)<(n:Int):=by omega
 have hi1:(1:Int)<(n:Int):=by omega
 go_enter Tryz.func109,Tryz.ntmps109
 go_upto_region 24 with fail
 obtain⟨V,hV⟩:∃V,V=w.alloc (.cells #[.int .u8 4,.string (bs d.name),.int .u8 d.op,.int .i64 d.evr.epoch,.string (bs d.evr.ver),.string (bs d.evr.rel),.slice (some ⟨b,o,none⟩) l.length tc] 39):=⟨_,rfl⟩;rw[<- hV]at B1 XB |-;clear hV;rw[<- hn]at hln |-;clear hn;obtain⟨_,c0,c1,c2,c3,c4,c5,c6⟩:=XB.out;clear c0 c1 c2 c3 c4 c5;dsimp only[RV.addr,RV.args,RV.cap]at c6;rw[<- HN.out]at c6;obtain⟨a0,a1,a2,a3,a4,a5,a6⟩:=C1.out V B1.out;have IC:=hid (I1.out V B1.out);go_wp2_with fail
 go_at_call 109
 refine IC.out.mono ?_;rintro e w2 ⟨rfl,h2⟩;have B2:=hid (B1.out.trans (h2.mono B1.out.size));have X2:=hid (XB.out.then h2);clear h2 IC XB B1 a0 a1 a2 a3 a4 a5 a6 c6 C1 I1;cases v1
 ·by_cases hn9:n=2
  ·have HN2:=hid (show l.length=2 by have:=HN.out;omega);obtain⟨_,c0,c1,c2,c3,c4,c5,c6⟩:=X2.out;clear c0 c1 c2 c3 c4 c5;dsimp only[RV.addr,RV.args,RV.cap]at c6;rw[<- HN.out]at c6;obtain rfl:r=true:=by rw[RR.out,HN2.out];simp
   have hq:(n:Int)=2:=by omega
   go_wp2_with fail
   go_ret;exact⟨rfl,B2.out⟩
  ·obtain⟨_,c0,c1,c2,c3,c4,c5,c6⟩:=X2.out;clear c0 c1 c2 c3 c4 c5;dsimp only[RV.addr,RV.args,RV.cap]at c6;rw[<- HN.out]at c6;have l2:2<l.length:=by have:=HN.out;omega
   have IC:=hid (IHC.out 2 l2 w2 B2.out);have C2:=CX.out 2 l2 w2 B2.out;have hv2:=RG.out l2;obtain⟨v2,hv9⟩:∃v,Tr.sat L.length (pvL L) l[2].tree (St.inS S)=v:=⟨_,rfl⟩;rw[hv9]at IC hv2;generalize l[2]=y2 at *;simp only[Nat.reduceMul]at C2;obtain⟨a0,a1,a2,a3,a4,a5,a6⟩:=C2;have HN3:=hid (show l.length=3 by have:=HN.out;omega);obtain rfl:r=v2:=by rw[RR.out,hv2,HN3.out];simp
   have hq:(n:Int)=3:=by omega
   have hq2:(2:Int)<(n:Int):=by omega
   clear hv2 hv9;go_wp2_with fail
   go_at_call 109
   refine IC.out.mono ?_;rintro e w3 ⟨rfl,h3⟩;have B3:=hid (B2.out.trans (h3.mono B2.out.size));clear h3 IC a0 a1 a2 a3 a4 a5 a6 c6;go_wp2_with fail
   go_ret;exact⟨rfl,B3.out⟩
 ·obtain⟨_,c0,c1,c2,c3,c4,c5,c6⟩:=X2.out;clear c0 c1 c2 c3 c4 c5;dsimp only[RV.addr,RV.args,RV.cap]at c6;rw[<- HN.out]at c6;obtain⟨a0,a1,a2,a3,a4,a5,a6⟩:=C0.out w2 B2.out;have IC:=hid (I0.out w2 B2.out);obtain rfl:r=v0:=by rw[RR.out];simp
  go_wp2_with fail
  go_at_call 109
  refine IC.out.mono ?_;rintro e w3 ⟨rfl,h3⟩;have B3:=hid (B2.out.trans (h3.mono B2.out.size));clear h3 IC a0 a1 a2 a3 a4 a5 a6 c6;go_wp2_with fail
  go_ret;exact⟨rfl,B3.out⟩
theorem qYV (d:Dp)(TA:Option Addr)(tc:Nat)(l:List RV)(IH:∀a∈l,qD1 Q I L a) : qD1 Q I L (.node 5 d TA tc l) := by
 intro A c S w hok hT hP hS hSn hLn;have HT:=hid (fun W (hb:Below w.heap.size w W)=>(hT.keeps hb).more hb.size);have AT:=hid (fun W (hb:Below w.heap.size w W) (i:Nat) (hi:i<l.length)=>(show RRow W.heap.size W TA tc l from ((hT.keeps hb).more hb.size).rrow).at_ hi);have hn:=hT.row.len;have hln:l.length<=9223372036854775807:=hn;clear hn;have PQ:=hid (fun W (hb:Below w.heap.size w W)=>hP.then hb);have IHC:=hid (fun (i:Nat) (hi:i<l.length) W (hb:Below w.heap.size w W)=>IH l[i] (List.getElem_mem hi) A c S W (qHI hok (show (5:Int)≠1 by decide) _ (List.getElem_mem hi)) (((hT.keeps hb).more hb.size).sub _ (List.getElem_mem hi)) (hP.then hb) ((hS.below hb).more hb.size) hSn hLn);have XB:=hid (RBx.new (.node 5 d TA tc l) w);unfold RV.val at IHC;dsimp only[RV.kind,RV.dep,RV.addr,RV.args,RV.cap]at XB;have B1:=hid ((Below.refl w.heap.size w).alloc lR (.cells #[.int .u8 5,.string (bs d.name),.int .u8 d.op,.int .i64 d.evr.epoch,.string (bs d.evr.ver),.string (bs d.evr.rel),.slice TA l.length tc] 39));obtain⟨m,hm⟩:∃m,S.length=m:=⟨_,rfl⟩;rw[hm]at IHC |-;obtain⟨n,hn⟩:∃n,n=l.length:=⟨_,rfl⟩;have HN:=hid hn;obtain⟨hn2,hn3⟩:=qHX hok (show (5:Int)≠1 by decide);have hn2:2<=l.length:=hn2;have hn3:l.length<=3:=hn3;rw[<- hn]at hn2 hn3;obtain⟨r,hr⟩:∃r,r=Tr.sat L.length (pvL L) (RV.tree (.node 5 d TA tc l)) (St.inS S):=⟨_,rfl⟩;rw[<- hr];have l0:0<l.length:=by omega
 have l1:1<l.length:=by omega
 obtain⟨v0,hv0⟩:∃v,Tr.sat L.length (pvL L) l[0].tree (St.inS S)=v:=⟨_,rfl⟩;obtain⟨v1,hv1⟩:∃v,Tr.sat L.length (pvL L) l[1].tree (St.inS S)=v:=⟨_,rfl⟩;have RR:=hid (show r=(if v1 then (decide (l.length=3) && (Tr.satL L.length (pvL L) (qA1 l) (St.inS S)).getD 2 false) else v0) by
  rw[hr,qKC,<- hv0,<- hv1,<- qBE l0,<- qBE l1,show l.length=(Tr.satL L.length (pvL L) (qA1 l) (St.inS S)).length by rw[Tr.satL_len,qA5]];rfl)
 have RG:=hid (fun (h:2<l.length)=>show (Tr.satL L.length (pvL L) (qA1 l) (St.inS S)).getD 2 false=Tr.sat L.length (pvL L) l[2].tree (St.inS S) from qBE h _);have I0:=hid (fun W hb=>hv0 ▸ IHC.out 0 l0 W hb);have I1:=hid (fun W hb=>hv1 ▸ IHC.out 1 l1 W hb);obtain⟨b,o,hA,_⟩:=AT.out w bR 0 l0;subst hA;have CX:=hid (fun (i:Nat) (hi:i<l.length) W (hb:Below w.heap.size w W)=>show W.cell? ⟨b,o+i * 7,none⟩=some (.int .u8 l[i].kind)/\W.cell? ⟨b,o+i * 7+1,none⟩=some (.string (bs l[i].dep.name))/\W.cell? ⟨b,o+i * 7+2,none⟩=some (.int .u8 l[i].dep.op)/\W.cell? ⟨b,o+i * 7+3,none⟩=some (.int .i64 l[i].dep.evr.epoch)/\W.cell? ⟨b,o+i * 7+4,none⟩=some (.string (bs l[i].dep.evr.ver))/\W.cell? ⟨b,o+i * 7+5,none⟩=some (.string (bs l[i].dep.evr.rel))/\W.cell? ⟨b,o+i * 7+6,none⟩=some (.slice l[i].addr l[i].args.length l[i].cap) from by
  obtain⟨b',o',e,_,q⟩:=AT.out W hb i hi;cases e
  exact q)
 have C0:=hid (fun W hb=>CX.out 0 l0 W hb);have C1:=hid (fun W hb=>CX.out 1 l1 W hb);simp only[Nat.zero_mul,Nat.one_mul,Nat.add_zero]at C0 C1;clear hok hT hP hS hr IH hv0 hv1;generalize l[0]=y0 at *;generalize l[1]=y1 at *;unfold RV.val;dsimp only[RV.kind,RV.dep,RV.addr,RV.args,RV.cap];have hi0:(0:Int)<(n:Int):=by omega
 have hi1:(1:Int)<(n:Int):=by omega
 go_enter Tryz.func109,Tryz.ntmps109
 go_upto_region 28 with fail
 obtain⟨V,hV⟩:∃V,V=w.alloc (.cells #[.int .u8 5,.string (bs d.name),.int .u8 d.op,.int .i64 d.evr.epoch,.string (bs d.evr.ver),.string (bs d.evr.rel),.slice (some ⟨b,o,none⟩) l.length tc] 39):=⟨_,rfl⟩;rw[<- hV]at B1 XB |-;clear hV;rw[<- hn]at hln |-;clear hn;obtain⟨_,c0,c1,c2,c3,c4,c5,c6⟩:=XB.out;clear c0 c1 c2 c3 c4 c5;dsimp only[RV.addr,RV.args,RV.cap]at c6;rw[<- HN.out]at c6;obtain⟨a0,a1,a2,a3,a4,a5,a6⟩:=C1.out V B1.out;have IC:=hid (I1.out V B1.out);go_wp2_with fail
 go_at_call 109
 refine IC.out.mono ?_;rintro e w2 ⟨rfl,h2⟩;have B2:=hid (B1.out.trans (h2.mono B1.out.size));have X2:=hid (XB.out.then h2);clear h2 IC XB B1 a0 a1 a2 a3 a4 a5 a6 c6 C1 I1;cases v1
 ·obtain⟨_,c0,c1,c2,c3,c4,c5,c6⟩:=X2.out;clear c0 c1 c2 c3 c4 c5;dsimp only[RV.addr,RV.args,RV.cap]at c6;rw[<- HN.out]at c6;obtain⟨a0,a1,a2,a3,a4,a5,a6⟩:=C0.out w2 B2.out;have IC:=hid (I0.out w2 B2.out);obtain rfl:r=v0:=by rw[RR.out];simp
  go_wp2_with fail
  go_at_call 109
  refine IC.out.mono ?_;rintro e w3 ⟨rfl,h3⟩;have B3:=hid (B2.out.trans (h3.mono B2.out.size));clear h3 IC a0 a1 a2 a3 a4 a5 a6 c6;go_wp2_with fail
  go_ret;exact⟨rfl,B3.out⟩
 ·by_cases hn9:n=2
  ·have HN2:=hid (show l.length=2 by have:=HN.out;omega);obtain⟨_,c0,c1,c2,c3,c4,c5,c6⟩:=X2.out;clear c0 c1 c2 c3 c4 c5;dsimp only[RV.addr,RV.args,RV.cap]at c6;rw[<- HN.out]at c6;obtain rfl:r=false:=by rw[RR.out,HN2.out];simp
   have hq:(n:Int)=2:=by omega
   go_wp2_with fail
   go_ret;exact⟨rfl,B2.out⟩
  ·obtain⟨_,c0,c1,c2,c3,c4,c5,c6⟩:=X2.out;clear c0 c1 c2 c3 c4 c5;dsimp only[RV.addr,RV.args,RV.cap]at c6;rw[<- HN.out]at c6;have l2:2<l.length:=by have:=HN.out;omega
   have IC:=hid (IHC.out 2 l2 w2 B2.out);have C2:=CX.out 2 l2 w2 B2.out;have hv2:=RG.out l2;obtain⟨v2,hv9⟩:∃v,Tr.sat L.length (pvL L) l[2].tree (St.inS S)=v:=⟨_,rfl⟩;rw[hv9]at IC hv2;generalize l[2]=y2 at *;simp only[Nat.reduceMul]at C2;obtain⟨a0,a1,a2,a3,a4,a5,a6⟩:=C2;have HN3:=hid (show l.length=3 by have:=HN.out;omega);obtain rfl:r=v2:=by rw[RR.out,hv2,HN3.out];simp
   have hq:(n:Int)=3:=by omega
   have hq2:(2:Int)<(n:Int):=by omega
   clear hv2 hv9;go_wp2_with fail
   go_at_call 109
   refine IC.out.mono ?_;rintro e w3 ⟨rfl,h3⟩;have B3:=hid (B2.out.trans (h3.mono B2.out.size));clear h3 IC a0 a1 a2 a3 a4 a5 a6 c6;go_wp2_with fail
   go_ret;exact⟨rfl,B3.out⟩
theorem qV3 (d:Dp)(TA:Option Addr)(tc:Nat)(l:List RV)(IH:∀a∈l,qD1 Q I L a) : qD1 Q I L (.node 1 d TA tc l) := by
 intro A c S w hok hT hP hS hSn hLn;have PQ:=hid (fun W (hb:Below w.heap.size w W)=>hP.then hb);have RS:=hid (fun W (hb:Below w.heap.size w W)=>(hS.below hb).more hb.size);have DOK:=hid (show d.evr.ok by
  have h:=hok;rw[qHH,if_pos (show (RV.node 1 d TA tc l).kind=1 from rfl),Bool.and_eq_true]at h;exact qFP (qE1 h.2))
 have XB:=hid (RBx.new (.node 1 d TA tc l) w);dsimp only[RV.kind,RV.dep,RV.addr,RV.args,RV.cap]at XB;have B1:=hid ((Below.refl w.heap.size w).alloc lR (.cells #[.int .u8 1,.string (bs d.name),.int .u8 d.op,.int .i64 d.evr.epoch,.string (bs d.evr.ver),.string (bs d.evr.rel),.slice TA l.length tc] 39));obtain⟨m,hm⟩:∃m,S.length=m:=⟨_,rfl⟩;rw[hm];have HM:=hid hm;obtain⟨r,hr⟩:∃r,r=Tr.sat L.length (pvL L) (RV.tree (.node 1 d TA tc l)) (St.inS S):=⟨_,rfl⟩;rw[<- hr];have RR:=hid (show r=S.any (Tr.inN L.length fun n=>pvL L n d) by rw[hr];exact Tr.sat_atomS);have hm1:m<=1000000:=by omega
 clear hok hT hP hS hr IH hm;unfold RV.val;dsimp only[RV.kind,RV.dep,RV.addr,RV.args,RV.cap]
 go_enter Tryz.func109,Tryz.ntmps109
 go_wp2_with fail
 obtain⟨V,hV⟩:∃V,V=w.alloc (.cells #[.int .u8 1,.string (bs d.name),.int .u8 d.op,.int .i64 d.evr.epoch,.string (bs d.evr.ver),.string (bs d.evr.rel),.slice TA l.length tc] 39):=⟨_,rfl⟩;rw[<- hV]at B1 XB |-;clear hV
 go_loopw[7] (fun iv wr => ∃k:Nat,k<=m/\iv=.int .i64 (k:Int)/\Hid (∀j (hj:j<S.length),j<k->Tr.inN L.length (fun n=>pvL L n d) S[j]=false)/\Below w.heap.size w wr/\Below V.heap.size V wr) (fun iv _=>m - (intOf iv).toNat)
 case atStart=>exact⟨0,Nat.zero_le _,rfl,hid (by intro j hj h;omega),B1.out,Below.refl _ _⟩
 case round =>
  obtain⟨k,hk,rfl,HS,hB,hV⟩:=hrel;rename World=>wr
  have HB:=hid hB;have HV:=hid hV;clear hB hV;by_cases hlt:k<m
  ·have hkl:k<S.length:=by have:=HM.out;omega
   obtain⟨sb,so,hA,hb,e0⟩:=(RS.out wr HB.out).int_at hkl;have E0:=hid e0;have EL:=hid (World.block_lt_of_cell? wr _ e0);have HYS:=hid (fun (h:Tr.inN L.length (fun n=>pvL L n d) S[k]=true)=>show r=true by rw[RR.out];exact List.any_eq_true.2 ⟨_,List.getElem_mem hkl,h⟩);have HNX:=hid (fun (h:Tr.inN L.length (fun n=>pvL L n d) S[k]=false)=>show ∀j (hj:j<S.length),j<k+1->Tr.inN L.length (fun n=>pvL L n d) S[j]=false from fun j hj hjk=>by
    by_cases e:j=k
    ·subst e;exact h
    ·exact HS.out j hj (by omega))
   generalize S[k]=z at *;have IK:=hid (show (0:Int)<=(k:Int)/\(k:Int)<(m:Int) by omega);have i1:=IK.out.2;subst hA;have ISA:=hid (fun W (h:RPool Q I L W)=>qIL z W h hLn);clear hb hkl e0;by_cases hz:0<=z/\z<(L.length:Int)
   ·obtain⟨n,rfl⟩:∃n:Nat,z=(n:Int):=⟨z.toNat,by omega⟩;have hn9:n<L.length:=by omega
    rw[Tr.inN_in hz,Int.toNat_natCast]at HYS HNX;rw[decide_eq_true hz]at ISA;have ISZ:=hid ISA.out;clear ISA;obtain⟨LA,lc,cQ,hR⟩:=(PQ.out wr HB.out).at_.c0;obtain⟨lb,lo,hLA,_,hcc⟩:=hR.cells hn9;subst hLA;have CQ:=hid cQ;have PRV:=hid (fun W (hb:Below wr.heap.size wr W)=>qLW L[n] d W (((PQ.out wr HB.out).at_.laid _ (List.getElem_mem hn9)).calls hb) (qCC ((PQ.out wr HB.out).may _ (List.getElem_mem hn9))) (qO2 ((PQ.out wr HB.out).may _ (List.getElem_mem hn9))) DOK.out);have hpl:pvL L n d=qC7 L[n] d:=by unfold pvL;rw[List.getElem?_eq_getElem hn9];rfl
    obtain⟨pv,hpv⟩:∃v,qC7 L[n] d=v:=⟨_,rfl⟩;rw[hpv]at PRV;have HPV:=hid (hpl.trans hpv);have QC:=hid (fun W (hb:Below wr.heap.size wr W)=>show W.cell? ⟨lb,lo+n * 15,none⟩=some (.string L[n].name)/\W.cell? ⟨lb,lo+n * 15+1,none⟩=some (.int .i64 L[n].epoch)/\W.cell? ⟨lb,lo+n * 15+2,none⟩=some (.string L[n].ver)/\W.cell? ⟨lb,lo+n * 15+3,none⟩=some (.string L[n].rel)/\W.cell? ⟨lb,lo+n * 15+4,none⟩=some (.int .u8 L[n].arch)/\W.cell? ⟨lb,lo+n * 15+5,none⟩=some (.string L[n].vendor)/\W.cell? ⟨lb,lo+n * 15+6,none⟩=some (.slice L[n].provA L[n].prov.length L[n].provC)/\W.cell? ⟨lb,lo+n * 15+7,none⟩=some (.slice L[n].reqA L[n].req.length L[n].reqC)/\W.cell? ⟨lb,lo+n * 15+8,none⟩=some (.slice L[n].conA L[n].con.length L[n].conC)/\W.cell? ⟨lb,lo+n * 15+9,none⟩=some (.slice L[n].obsA L[n].obs.length L[n].obsC)/\W.cell? ⟨lb,lo+n * 15+10,none⟩=some (.slice L[n].rcmA L[n].rcm.length L[n].rcmC)/\W.cell? ⟨lb,lo+n * 15+11,none⟩=some (.slice L[n].supA L[n].sup.length L[n].supC)/\W.cell? ⟨lb,lo+n * 15+12,none⟩=some (.slice L[n].sugA L[n].sug.length L[n].sugC)/\W.cell? ⟨lb,lo+n * 15+13,none⟩=some (.slice L[n].enhA L[n].enh.length L[n].enhC)/\W.cell? ⟨lb,lo+n * 15+14,none⟩=some (.slice L[n].filesA L[n].files.length L[n].filesC) from⟨(hb.cell (World.block_lt_of_cell? wr _ (hcc 0 _ rfl))).trans (hcc 0 _ rfl),(hb.cell (World.block_lt_of_cell? wr _ (hcc 1 _ rfl))).trans (hcc 1 _ rfl),(hb.cell (World.block_lt_of_cell? wr _ (hcc 2 _ rfl))).trans (hcc 2 _ rfl),(hb.cell (World.block_lt_of_cell? wr _ (hcc 3 _ rfl))).trans (hcc 3 _ rfl),(hb.cell (World.block_lt_of_cell? wr _ (hcc 4 _ rfl))).trans (hcc 4 _ rfl),(hb.cell (World.block_lt_of_cell? wr _ (hcc 5 _ rfl))).trans (hcc 5 _ rfl),(hb.cell (World.block_lt_of_cell? wr _ (hcc 6 _ rfl))).trans (hcc 6 _ rfl),(hb.cell (World.block_lt_of_cell? wr _ (hcc 7 _ rfl))).trans (hcc 7 _ rfl),(hb.cell (World.block_lt_of_cell? wr _ (hcc 8 _ rfl))).trans (hcc 8 _ rfl),(hb.cell (World.block_lt_of_cell? wr _ (hcc 9 _ rfl))).trans (hcc 9 _ rfl),(hb.cell (World.block_lt_of_cell? wr _ (hcc 10 _ rfl))).trans (hcc 10 _ rfl),(hb.cell (World.block_lt_of_cell? wr _ (hcc 11 _ rfl))).trans (hcc 11 _ rfl),(hb.cell (World.block_lt_of_cell? wr _ (hcc 12 _ rfl))).trans (hcc 12 _ rfl),(hb.cell (World.block_lt_of_cell? wr _ (hcc 13 _ rfl))).trans (hcc 13 _ rfl),(hb.cell (World.block_lt_of_cell? wr _ (hcc 14 _ rfl))).trans (hcc 14 _ rfl)⟩);have NK:=hid (show (0:Int)<=(n:Int)/\(n:Int)<(L.length:Int) from hz);clear hcc hR cQ hpl hpv;generalize L[n]=q at *;unfold Pk.val Dp.val at PRV;clear hz hn9;go_wp2_with fail
    clear i1;refine qA6 (PP:=qE8 Q sb so m c k lb lo L.length lc n w.heap.size (n:Int) q d pv) 21 rfl (by kernel_rfl) (by kernel_rfl) (by decide) (by decide) (qOY Q sb so m c k lb lo L.length lc n w.heap.size (n:Int) q d pv) (fun ii=>match ii with|0=>u21|1=>u22|2=>u23|3=>u24|4=>u25|5=>u26|6=>u27|7=>u28|8=>u29|9=>u30|10=>u31|11=>u32|12=>u33|13=>u34|14=>u35|15=>u36|16=>u37|17=>u38|18=>u39|19=>u40|20=>u41|_=>undef) (by simp[qA4,gQ]) ?_ ?_
    ·intro i o vs W hi ho he hBW K hK;simp only[gT,qA4,gQ]at hK |-;have E0W:=hid ((hBW.cell (p:=⟨sb,so+k,none⟩) EL.out).trans E0.out);have PQW:=hid (PQ.out W (HB.out.trans (hBW.mono HB.out.size)));have BWR:=hid hBW;have CQW:=hid ((hBW.cell (p:=⟨Q,0,none⟩) (World.block_lt_of_cell? wr _ CQ.out)).trans CQ.out);have QCW:=hid (QC.out W hBW);have XW:=hid (XB.out.then (HV.out.trans (hBW.mono HV.out.size)));obtain rfl|rfl|rfl|rfl|rfl|rfl|rfl|rfl|rfl|rfl|rfl|rfl|rfl|rfl|rfl|rfl|rfl|rfl|rfl|rfl|rfl:=c21_ hi<;>simp only[gE]at ho<;>subst ho
     iterate 3 ·rw[if_pos (by rfl)];simp only[gQ]at hK;have HK:=hid hK;clear hK he hi hBW;go_simp;exact HK.out _ _ (by first|rfl|simp[qE8]) bR
     ·have e1:vs 1=_:=dq he 1;rw[e1]at hK |-;have e2:vs 2=_:=dq he 2;rw[e2]at hK |-;rw[if_pos (by rfl)];simp only[gQ]at hK;have HK:=hid hK;clear hK he hi hBW;have i0:=IK.out.1;have i1:=IK.out.2;go_simp;exact HK.out _ _ (by simp[qE8]) bR
     ·have e3:vs 3=_:=dq he 3;rw[e3]at hK |-;rw[if_pos (by rfl)];simp only[gQ]at hK;have HK:=hid hK;clear hK he hi hBW;have cc:=E0W.out;go_simp;exact HK.out _ _ rfl bR
     ·have e0:vs 0=_:=dq he 0;rw[e0]at hK |-;have e4:vs 4=_:=dq he 4;rw[e4]at hK |-;rw[if_pos (by rfl)];simp only[gQ]at hK;have HK:=hid hK;clear hK he hi hBW;go_simp;go_at_call 88
      refine (ISZ.out W (PQW.out)).mono ?_;rintro en w9 ⟨rfl,rfl⟩;go_simp;exact HK.out _ _ rfl bR
     ·have e5:vs 5=_:=dq he 5;rw[e5]at hK |-;rw[if_pos (by rfl)];simp only[gQ]at hK;have HK:=hid hK;clear hK he hi hBW;go_simp;exact HK.out _ _ (by first|rfl|simp[qE8]) bR
     ·have e6:vs 6=_:=gd he 6;rw[e6]at hK |-;rw[if_pos (by rfl)];simp only[gQ]at hK;have HK:=hid hK;clear hK he hi hBW;go_simp;exact HK.out _ _ (by first|rfl|simp[qE8]) bR
     ·have e7:vs 7=_:=dq he 7;rw[e7]at hK |-;have e6:vs 6=_:=gd he 6;rw[e6]at hK |-;rw[if_pos (by rfl)];simp only[gQ]at hK;have HK:=hid hK;clear hK he hi hBW;go_simp;exact HK.out _ _ (by simp[qE8]) bR
     ·have e8:vs 8=_:=dq he 8;rw[e8]at hK |-;have e6:vs 6=_:=gd he 6;rw[e6]at hK |-;rw[if_pos (by rfl)];simp only[gQ]at hK;have HK:=hid hK;clear hK he hi hBW;go_simp;exact HK.out _ _ (by simp[qE8]) bR
     ·have e9:vs 9=_:=dq he 9;rw[e9]at hK |-;have e6:vs 6=_:=gd he 6;rw[e6]at hK |-;rw[if_pos (by rfl)];simp only[gQ]at hK;have HK:=hid hK;clear hK he hi hBW;have cc:=CQW.out;go_simp;exact HK.out _ _ rfl bR
     iterate 2 ·have e6:vs 6=_:=gd he 6;rw[e6]at hK |-;rw[if_pos (by rfl)];simp only[gQ]at hK;have HK:=hid hK;clear hK he hi hBW;go_simp;exact HK.out _ _ (by first|rfl|simp[qE8]) bR
     ·have e11:vs 11=_:=dq he 11;rw[e11]at hK |-;have e12:vs 12=_:=dq he 12;rw[e12]at hK |-;have e6:vs 6=_:=gd he 6;rw[e6]at hK |-;rw[if_pos (by rfl)];simp only[gQ]at hK;have HK:=hid hK;clear hK he hi hBW;have i0:=IK.out.1;have i1:=IK.out.2;go_simp;exact HK.out _ _ (by simp[qE8]) bR
     ·have e13:vs 13=_:=dq he 13;rw[e13]at hK |-;have e6:vs 6=_:=gd he 6;rw[e6]at hK |-;rw[if_pos (by rfl)];simp only[gQ]at hK;have HK:=hid hK;clear hK he hi hBW;have cc:=E0W.out;go_simp;exact HK.out _ _ rfl bR
     ·have e10:vs 10=_:=dq he 10;rw[e10]at hK |-;have e14:vs 14=_:=dq he 14;rw[e14]at hK |-;have e6:vs 6=_:=gd he 6;rw[e6]at hK |-;rw[if_pos (by rfl)];simp only[gQ]at hK;have HK:=hid hK;clear hK he hi hBW;have i0:=NK.out.1;have i1:=NK.out.2;go_simp;exact HK.out _ _ (by simp[qE8]) bR
     ·have e15:vs 15=_:=dq he 15;rw[e15]at hK |-;have e6:vs 6=_:=gd he 6;rw[e6]at hK |-;rw[if_pos (by rfl)];simp only[gQ]at hK;have HK:=hid hK;clear hK he hi hBW;obtain⟨c0,c1,c2,c3,c4,c5,c6,c7,c8,c9,c10,c11,c12,c13,c14⟩:=QCW.out;go_simp;exact HK.out _ _ rfl bR
     ·have e6:vs 6=_:=gd he 6;rw[e6]at hK |-;rw[if_pos (by rfl)];simp only[gQ]at hK;have HK:=hid hK;clear hK he hi hBW;go_simp;exact HK.out _ _ (by simp[qE8]) bR
     ·have e17:vs 17=_:=dq he 17;rw[e17]at hK |-;have e6:vs 6=_:=gd he 6;rw[e6]at hK |-;rw[if_pos (by rfl)];simp only[gQ]at hK;have HK:=hid hK;clear hK he hi hBW;obtain⟨_,f0,f1,f2,f3,f4,f5,f6⟩:=XW.out;dsimp only[RV.dep]at f1 f2 f3 f4 f5;go_simp;exact HK.out _ _ rfl bR
     ·have e16:vs 16=_:=dq he 16;rw[e16]at hK |-;have e18:vs 18=_:=dq he 18;rw[e18]at hK |-;have e6:vs 6=_:=gd he 6;rw[e6]at hK |-;rw[if_pos (by rfl)];simp only[gQ]at hK;have HK:=hid hK;clear hK he hi hBW;have CW:=PRV.out W BWR.out;go_simp;go_at_call 154
      refine CW.mono ?_;rintro en w9 ⟨rfl,h⟩;go_simp;exact HK.out _ _ rfl h
     ·have e6:vs 6=_:=dq he 6;rw[e6]at hK |-;have e19:vs 19=_:=dq he 19;rw[e19]at hK |-;rw[if_pos (by rfl)];simp only[gQ]at hK;have HK:=hid hK;clear hK he hi hBW;go_simp;exact HK.out _ _ (by simp[qE8]) bR
    ·intro vs W2 hall hBW;have eo:vs 20=.bool pv:=hall 20 (by decide);simp only[gT,qA4,qAB,qAA,gP];rw[eo];generalize vs 0=y0,vs 1=y1,vs 2=y2,vs 3=y3,vs 4=y4,vs 5=y5,vs 6=y6,vs 7=y7,vs 8=y8,vs 9=y9,vs 10=y10,vs 11=y11,vs 12=y12,vs 13=y13,vs 14=y14,vs 15=y15,vs 16=y16,vs 17=y17,vs 18=y18,vs 19=y19;have B2:=hid (HB.out.trans (hBW.mono HB.out.size));have V2:=hid (HV.out.trans (hBW.mono HV.out.size));clear hall hBW eo;cases pv
     ·go_wp2_with fail
      go_roundw
      case rel=>exact⟨k+1,by omega,by go_num,hid (HNX.out HPV.out),B2.out,V2.out⟩
      case measure=>simp[intOf];omega
     ·obtain rfl:r=true:=HYS.out HPV.out;go_wp2_with fail
      go_ret;exact⟨rfl,B2.out⟩
   ·have HNX:=hid (HNX.out (Tr.inN_out hz));rw[decide_eq_false hz]at ISA;have ISZ:=hid ISA.out;clear ISA HYS;clear hz;go_wp2_with fail
    clear i1;refine qA6 (PP:=qLY Q sb so m c k z) 21 rfl (by kernel_rfl) (by kernel_rfl) (by decide) (by decide) (qOX Q sb so m c k z) (fun ii=>match ii with|0=>u21|1=>u22|2=>u23|3=>u24|4=>u25|5=>u26|6=>u27|7=>u28|8=>u29|9=>u30|10=>u31|11=>u32|12=>u33|13=>u34|14=>u35|15=>u36|16=>u37|17=>u38|18=>u39|19=>u40|20=>u41|_=>undef) (by simp[qA4,gQ]) ?_ ?_
    ·intro i o vs W hi ho he hBW K hK;simp only[gT,qA4,gQ]at hK |-;have E0W:=hid ((hBW.cell (p:=⟨sb,so+k,none⟩) EL.out).trans E0.out);have PQW:=hid (PQ.out W (HB.out.trans (hBW.mono HB.out.size)));obtain rfl|rfl|rfl|rfl|rfl|rfl|rfl|rfl|rfl|rfl|rfl|rfl|rfl|rfl|rfl|rfl|rfl|rfl|rfl|rfl|rfl:=c21_ hi<;>simp only[gE]at ho<;>subst ho
     iterate 3 ·rw[if_pos (by rfl)];simp only[gQ]at hK;have HK:=hid hK;clear hK he hi hBW;go_simp;exact HK.out _ _ (by first|rfl|simp[qLY]) bR
     ·have e1:vs 1=_:=dq he 1;rw[e1]at hK |-;have e2:vs 2=_:=dq he 2;rw[e2]at hK |-;rw[if_pos (by rfl)];simp only[gQ]at hK;have HK:=hid hK;clear hK he hi hBW;have i0:=IK.out.1;have i1:=IK.out.2;go_simp;exact HK.out _ _ (by simp[qLY]) bR
     ·have e3:vs 3=_:=dq he 3;rw[e3]at hK |-;rw[if_pos (by rfl)];simp only[gQ]at hK;have HK:=hid hK;clear hK he hi hBW;have cc:=E0W.out;go_simp;exact HK.out _ _ rfl bR
     ·have e0:vs 0=_:=dq he 0;rw[e0]at hK |-;have e4:vs 4=_:=dq he 4;rw[e4]at hK |-;rw[if_pos (by rfl)];simp only[gQ]at hK;have HK:=hid hK;clear hK he hi hBW;go_simp;go_at_call 88
      refine (ISZ.out W (PQW.out)).mono ?_;rintro en w9 ⟨rfl,rfl⟩;go_simp;exact HK.out _ _ rfl bR
     ·have e5:vs 5=_:=dq he 5;rw[e5]at hK |-;rw[if_pos (by rfl)];simp only[gQ]at hK;have HK:=hid hK;clear hK he hi hBW;go_simp;exact HK.out _ _ (by first|rfl|simp[qLY]) bR
     ·have e6:vs 6=_:=gd he 6;rw[e6]at hK |-;refine wN bF ?_;exact hK _ _ rfl bR
     ·have e7:vs 7=_:=dq he 7;rw[e7]at hK |-;have e6:vs 6=_:=gd he 6;rw[e6]at hK |-;refine wN bF ?_;exact hK _ _ rfl bR
     ·have e8:vs 8=_:=dq he 8;rw[e8]at hK |-;have e6:vs 6=_:=gd he 6;rw[e6]at hK |-;refine wN bF ?_;exact hK _ _ rfl bR
     ·have e9:vs 9=_:=dq he 9;rw[e9]at hK |-;have e6:vs 6=_:=gd he 6;rw[e6]at hK |-;refine wN bF ?_;exact hK _ _ rfl bR
     iterate 2 ·have e6:vs 6=_:=gd he 6;rw[e6]at hK |-;refine wN bF ?_;exact hK _ _ rfl bR
     ·have e11:vs 11=_:=dq he 11;rw[e11]at hK |-;have e12:vs 12=_:=dq he 12;rw[e12]at hK |-;have e6:vs 6=_:=gd he 6;rw[e6]at hK |-;refine wN bF ?_;exact hK _ _ rfl bR
     ·have e13:vs 13=_:=dq he 13;rw[e13]at hK |-;have e6:vs 6=_:=gd he 6;rw[e6]at hK |-;refine wN bF ?_;exact hK _ _ rfl bR
     ·have e10:vs 10=_:=dq he 10;rw[e10]at hK |-;have e14:vs 14=_:=dq he 14;rw[e14]at hK |-;have e6:vs 6=_:=gd he 6;rw[e6]at hK |-;refine wN bF ?_;exact hK _ _ rfl bR
     ·have e15:vs 15=_:=dq he 15;rw[e15]at hK |-;have e6:vs 6=_:=gd he 6;rw[e6]at hK |-;refine wN bF ?_;exact hK _ _ rfl bR
     ·have e6:vs 6=_:=gd he 6;rw[e6]at hK |-;refine wN bF ?_;exact hK _ _ rfl bR
     ·have e17:vs 17=_:=dq he 17;rw[e17]at hK |-;have e6:vs 6=_:=gd he 6;rw[e6]at hK |-;refine wN bF ?_;exact hK _ _ rfl bR
     ·have e16:vs 16=_:=dq he 16;rw[e16]at hK |-;have e18:vs 18=_:=dq he 18;rw[e18]at hK |-;have e6:vs 6=_:=gd he 6;rw[e6]at hK |-;refine wN bF ?_;exact hK _ _ rfl bR
     ·have e6:vs 6=_:=dq he 6;rw[e6]at hK |-;have e19:vs 19=_:=dq he 19;rw[e19]at hK |-;rw[if_pos (by rfl)];simp only[gQ]at hK;have HK:=hid hK;clear hK he hi hBW;go_simp;exact HK.out _ _ (by simp[qLY]) bR
    ·intro vs W2 hall hBW;have eo:vs 20=.bool false:=hall 20 (by decide);simp only[gT,qA4,qAB,qAA,gP];rw[eo];generalize vs 0=y0,vs 1=y1,vs 2=y2,vs 3=y3,vs 4=y4,vs 5=y5,vs 6=y6,vs 7=y7,vs 8=y8,vs 9=y9,vs 10=y10,vs 11=y11,vs 12=y12,vs 13=y13,vs 14=y14,vs 15=y15,vs 16=y16,vs 17=y17,vs 18=y18,vs 19=y19;have B2:=hid (HB.out.trans (hBW.mono HB.out.size));have V2:=hid (HV.out.trans (hBW.mono HV.out.size));clear hall hBW eo;go_wp2_with fail
     go_roundw
     case rel=>exact⟨k+1,by omega,by go_num,hid (HNX.out),B2.out,V2.out⟩
     case measure=>simp[intOf];omega
  ·obtain rfl:k=m:=by omega
   have i1:¬(k:Int)<(k:Int):=by omega
   obtain rfl:r=false:=by rw[RR.out];exact Tr.any_no fun j hj=>HS.out j hj (by have:=HM.out;omega)
   go_wp2_with fail
   go_ret;exact⟨rfl,HB.out⟩
theorem qXH (d:Dp)(TA:Option Addr)(tc:Nat)(l:List RV)(IH:∀a∈l,qD1 Q I L a)(z:Nat)(w:World)(hok:(RV.node 6 d TA tc l).tree.okB=true)(hT:RTree w.heap.size w (.node 6 d TA tc l))(hP:RPool Q I L w)(hLn:L.length<=1000000) : Calls Tryz.prog 155 #[.pointer (some ⟨Q,0,none⟩),.int .i64 (z:Int),(RV.node 6 d TA tc l).val] w fun e w'=>e=.returned (.bool (Tr.oneB L.length (pvL L) 6 (qA1 l) z))/\Below w.heap.size w w' := by
 have HT:=hid (fun W (hb:Below w.heap.size w W)=>(hT.keeps hb).more hb.size);have AT:=hid (fun W (hb:Below w.heap.size w W) (i:Nat) (hi:i<l.length)=>(show RRow W.heap.size W TA tc l from ((hT.keeps hb).more hb.size).rrow).at_ hi);have hn:=hT.row.len;have hln:l.length<=9223372036854775807:=hn;clear hn;have PQ:=hid (fun W (hb:Below w.heap.size w W)=>hP.then hb);have IHC:=hid (fun (i:Nat) (hi:i<l.length) (A:Option Addr) W (hb:Below w.heap.size w W) (hS:Rd encI 1 W.heap.size A 1 [(z:Int)] W)=>IH l[i] (List.getElem_mem hi) A 1 [(z:Int)] W (qHI hok (show (6:Int)≠1 by decide) _ (List.getElem_mem hi)) (((hT.keeps hb).more hb.size).sub _ (List.getElem_mem hi)) (hP.then hb) hS (by simp) hLn);have XB:=hid (RBx.new (.node 6 d TA tc l) w);unfold RV.val at IHC;dsimp only[RV.kind,RV.dep,RV.addr,RV.args,RV.cap]at XB;have B1:=hid ((Below.refl w.heap.size w).alloc lR (.cells #[.int .u8 6,.string (bs d.name),.int .u8 d.op,.int .i64 d.evr.epoch,.string (bs d.evr.ver),.string (bs d.evr.rel),.slice TA l.length tc] 39));have LN:=hid (qHX hok (show (6:Int)≠1 by decide)).1;obtain⟨n,hn⟩:∃n,n=l.length:=⟨_,rfl⟩;have HN:=hid hn;obtain⟨r,hr⟩:∃r,r=Tr.oneB L.length (pvL L) 6 (qA1 l) z:=⟨_,rfl⟩;rw[<- hr];have RR:=hid (show r=l.all fun a=>Tr.sat L.length (pvL L) a.tree (St.inS [(z:Int)]) by rw[hr,Tr.inS_one,<- qIO];rfl);clear hok hT hP hr IH;unfold RV.val;dsimp only[RV.kind,RV.dep,RV.addr,RV.args,RV.cap]
 go_enter Tryz.func155,Tryz.ntmps155
 go_upto_region 1 with fail
 obtain⟨V,hV⟩:∃V,V=w.alloc (.cells #[.int .u8 6,.string (bs d.name),.int .u8 d.op,.int .i64 d.evr.epoch,.string (bs d.evr.ver),.string (bs d.evr.rel),.slice TA l.length tc] 39):=⟨_,rfl⟩;rw[<- hV]at B1 XB |-;clear hV;rw[<- hn]at hln |-;clear hn
 go_upto_region 2 with fail
 have hv2:Below w.heap.size w (V.alloc (.cells #[.int .i64 (z:Int)] 3)):=B1.out.trans (((Below.refl _ V).alloc lR _).mono B1.out.size);have X2:=hid (XB.out.then ((Below.refl _ V).alloc lR (.cells #[.int .i64 (z:Int)] 3)));have R2:=hid (show Rd encI 1 (V.alloc (.cells #[.int .i64 (z:Int)] 3)).heap.size (some ⟨V.heap.size,0,none⟩) 1 [(z:Int)] (V.alloc (.cells #[.int .i64 (z:Int)] 3)) from qCP (by simp) ((World.cell?_alloc_at _ _ _ _ rfl).trans rfl));have B2:=hid hv2;obtain⟨gz,hgz⟩:∃g,V.heap.size=g:=⟨_,rfl⟩;rw[hgz]at R2 |-;generalize V.alloc (.cells #[.int .i64 (z:Int)] 3)=V2 at *;clear hv2 hgz B1 XB;obtain⟨_,c0,c1,c2,c3,c4,c5,c6⟩:=X2.out;dsimp only[RV.addr,RV.args,RV.cap,RV.kind]at c0 c6;clear c1 c2 c3 c4 c5;rw[<- HN.out]at c6;go_wp2_with fail
 clear c0 c6
 go_loopw[8] (fun iv wr => ∃i9:Nat,i9<=n/\iv=.int .i64 (i9:Int)/\Hid (∀j (hj:j<l.length),j<i9->Tr.sat L.length (pvL L) l[j].tree (St.inS [(z:Int)])=true)/\Below w.heap.size w wr/\Below V2.heap.size V2 wr) (fun iv _=>n - (intOf iv).toNat)
 case atStart=>exact⟨0,Nat.zero_le _,rfl,hid (by intro j hj h;omega),B2.out,Below.refl _ _⟩
 case round =>
  obtain⟨i9,hi9,rfl,HS,hB,hV⟩:=hrel;rename World=>wr
  have HB:=hid hB;have HV:=hid hV;obtain⟨_,c0,c1,c2,c3,c4,c5,c6⟩:=X2.out.then hV;dsimp only[RV.addr,RV.args,RV.cap,RV.kind]at c0 c6;clear c1 c2 c3 c4 c5;rw[<- HN.out]at c6;clear c0 hB hV;by_cases hlt:i9<n
  ·have hkl:i9<l.length:=by have:=HN.out;omega
   obtain⟨b,o,hA,hb,a0,a1,a2,a3,a4,a5,a6⟩:=AT.out wr HB.out i9 hkl;have IC:=hid (IHC.out i9 hkl (some ⟨gz,0,none⟩) wr HB.out ((R2.out.below HV.out).more HV.out.size));have HYS:=hid (fun (h:Tr.sat L.length (pvL L) l[i9].tree (St.inS [(z:Int)])=false)=>show r=false by rw[RR.out];rw[List.all_eq_false];exact⟨_,List.getElem_mem hkl,by rw[h];exact Bool.false_ne_true⟩);have HNX:=hid (fun (h:Tr.sat L.length (pvL L) l[i9].tree (St.inS [(z:Int)])=true)=>show ∀j (hj:j<l.length),j<i9+1->Tr.sat L.length (pvL L) l[j].tree (St.inS [(z:Int)])=true from fun j hj hjk=>by
    by_cases e:j=i9
    ·subst e;exact h
    ·exact HS.out j hj (by omega))
   obtain⟨v9,hv9⟩:∃v,Tr.sat L.length (pvL L) l[i9].tree (St.inS [(z:Int)])=v:=⟨_,rfl⟩;rw[hv9]at IC HYS HNX;clear hv9;generalize l[i9]=y at *;have i0:(0:Int)<=(i9:Int):=by omega
   have i1:(i9:Int)<(n:Int):=by omega
   subst hA;clear hb hkl IHC;go_wp2_with fail
   go_at_call 109
   refine IC.out.mono ?_;rintro e w9 ⟨rfl,h9⟩;have B9:=hid (HB.out.trans (h9.mono HB.out.size));have V9:=hid (HV.out.trans (h9.mono HV.out.size));clear h9 IC a0 a1 a2 a3 a4 a5 a6 c6;cases v9
   ·obtain rfl:r=false:=HYS.out (by simp);go_wp2_with fail
    go_ret;exact⟨rfl,B9.out⟩
   ·go_wp2_with fail
    go_roundw
    case rel=>exact⟨i9+1,by omega,by go_num,hid (HNX.out (by simp)),B9.out,V9.out⟩
    case measure=>simp[intOf];omega
  ·obtain rfl:i9=n:=by omega
   have i1:¬(i9:Int)<(i9:Int):=by omega
   obtain rfl:r=true:=by
    rw[RR.out,List.all_eq_true];intro x hx;obtain⟨j,hj,rfl⟩:=List.getElem_of_mem hx;exact HS.out j hj (by have:=HN.out;omega)
   go_wp2_with fail
   go_ret;exact⟨rfl,HB.out⟩
theorem qYW (d:Dp)(TA:Option Addr)(tc:Nat)(l:List RV)(IH:∀a∈l,qD1 Q I L a) : qD1 Q I L (.node 6 d TA tc l) := by
 intro A c S w hok hT hP hS hSn hLn;have PQ:=hid (fun W (hb:Below w.heap.size w W)=>hP.then hb);have RS:=hid (fun W (hb:Below w.heap.size w W)=>(hS.below hb).more hb.size);have HT:=hid (fun W (hb:Below w.heap.size w W)=>(hT.keeps hb).more hb.size);have IHH:=hid IH;have OKH:=hid hok;have XB:=hid (RBx.new (.node 6 d TA tc l) w);dsimp only[RV.kind,RV.dep,RV.addr,RV.args,RV.cap]at XB;have B1:=hid ((Below.refl w.heap.size w).alloc lR (.cells #[.int .u8 6,.string (bs d.name),.int .u8 d.op,.int .i64 d.evr.epoch,.string (bs d.evr.ver),.string (bs d.evr.rel),.slice TA l.length tc] 39));obtain⟨m,hm⟩:∃m,S.length=m:=⟨_,rfl⟩;rw[hm];have HM:=hid hm;obtain⟨r,hr⟩:∃r,r=Tr.sat L.length (pvL L) (RV.tree (.node 6 d TA tc l)) (St.inS S):=⟨_,rfl⟩;rw[<- hr];have RR:=hid (show r=S.any (Tr.inN L.length (Tr.oneB L.length (pvL L) 6 (qA1 l))) by rw[hr];exact Tr.sat_withS (by decide));have hm1:m<=1000000:=by omega
 clear hok hT hP hS hr IH hm;unfold RV.val;dsimp only[RV.kind,RV.dep,RV.addr,RV.args,RV.cap]
 go_enter Tryz.func109,Tryz.ntmps109
 go_wp2_with fail
 obtain⟨V,hV⟩:∃V,V=w.alloc (.cells #[.int .u8 6,.string (bs d.name),.int .u8 d.op,.int .i64 d.evr.epoch,.string (bs d.evr.ver),.string (bs d.evr.rel),.slice TA l.length tc] 39):=⟨_,rfl⟩;rw[<- hV]at B1 XB |-;clear hV
 go_loopw[10] (fun iv wr => ∃k:Nat,k<=m/\iv=.int .i64 (k:Int)/\Hid (∀j (hj:j<S.length),j<k->Tr.inN L.length (Tr.oneB L.length (pvL L) 6 (qA1 l)) S[j]=false)/\Below w.heap.size w wr/\Below V.heap.size V wr) (fun iv _=>m - (intOf iv).toNat)
 case atStart=>exact⟨0,Nat.zero_le _,rfl,hid (by intro j hj h;omega),B1.out,Below.refl _ _⟩
 case round =>
  obtain⟨k,hk,rfl,HS,hB,hV⟩:=hrel;rename World=>wr
  have HB:=hid hB;have HV:=hid hV;clear hB hV;by_cases hlt:k<m
  ·have hkl:k<S.length:=by have:=HM.out;omega
   obtain⟨sb,so,hA,hb,e0⟩:=(RS.out wr HB.out).int_at hkl;have E0:=hid e0;have EL:=hid (World.block_lt_of_cell? wr _ e0);have HYS:=hid (fun (h:Tr.inN L.length (Tr.oneB L.length (pvL L) 6 (qA1 l)) S[k]=true)=>show r=true by rw[RR.out];exact List.any_eq_true.2 ⟨_,List.getElem_mem hkl,h⟩);have HNX:=hid (fun (h:Tr.inN L.length (Tr.oneB L.length (pvL L) 6 (qA1 l)) S[k]=false)=>show ∀j (hj:j<S.length),j<k+1->Tr.inN L.length (Tr.oneB L.length (pvL L) 6 (qA1 l)) S[j]=false from fun j hj hjk=>by
    by_cases e:j=k
    ·subst e;exact h
    ·exact HS.out j hj (by omega))
   generalize S[k]=z at *;have IK:=hid (show (0:Int)<=(k:Int)/\(k:Int)<(m:Int) by omega);have i1:=IK.out.2;subst hA;have ISA:=hid (fun W (h:RPool Q I L W)=>qIL z W h hLn);clear hb hkl e0;by_cases hz:0<=z/\z<(L.length:Int)
   ·obtain⟨n,rfl⟩:∃n:Nat,z=(n:Int):=⟨z.toNat,by omega⟩;have hn9:n<L.length:=by omega
    rw[Tr.inN_in hz,Int.toNat_natCast]at HYS HNX;rw[decide_eq_true hz]at ISA;have ISZ:=hid ISA.out;clear ISA;have PRV:=hid (fun W (hb:Below wr.heap.size wr W)=>qXH d TA tc l IHH.out n W OKH.out (HT.out W (HB.out.trans (hb.mono HB.out.size))) (PQ.out W (HB.out.trans (hb.mono HB.out.size))) hLn);obtain⟨pv,hpv⟩:∃v,Tr.oneB L.length (pvL L) 6 (qA1 l) n=v:=⟨_,rfl⟩;rw[hpv]at PRV;have HPV:=hid hpv;unfold RV.val at PRV;dsimp only[RV.kind,RV.dep,RV.addr,RV.args,RV.cap]at PRV;clear hz hn9 hpv;go_wp2_with fail
    clear i1;refine qA6 (PP:=qE9 Q sb so m c k (n:Int) d TA tc l pv) 15 rfl (by kernel_rfl) (by kernel_rfl) (by decide) (by decide) (qM0 Q sb so m c k (n:Int) d TA tc l pv) (fun ii=>match ii with|0=>u141|1=>u142|2=>u143|3=>u144|4=>u145|5=>u146|6=>u147|7=>u148|8=>u149|9=>u150|10=>u151|11=>u152|12=>u153|13=>u154|14=>u155|_=>undef) (by simp[qA4,gQ]) ?_ ?_
    ·intro i o vs W hi ho he hBW K hK;simp only[gT,qA4,gQ]at hK |-;have E0W:=hid ((hBW.cell (p:=⟨sb,so+k,none⟩) EL.out).trans E0.out);have PQW:=hid (PQ.out W (HB.out.trans (hBW.mono HB.out.size)));have BWR:=hid hBW;have XW:=hid (XB.out.then (HV.out.trans (hBW.mono HV.out.size)));obtain rfl|rfl|rfl|rfl|rfl|rfl|rfl|rfl|rfl|rfl|rfl|rfl|rfl|rfl|rfl:=c15_ hi<;>simp only[gE]at ho<;>subst ho
     iterate 3 ·rw[if_pos (by rfl)];simp only[gQ]at hK;have HK:=hid hK;clear hK he hi hBW;go_simp;exact HK.out _ _ (by first|rfl|simp[qE9]) bR
     ·have e1:vs 1=_:=dq he 1;rw[e1]at hK |-;have e2:vs 2=_:=dq he 2;rw[e2]at hK |-;rw[if_pos (by rfl)];simp only[gQ]at hK;have HK:=hid hK;clear hK he hi hBW;have i0:=IK.out.1;have i1:=IK.out.2;go_simp;exact HK.out _ _ (by simp[qE9]) bR
     ·have e3:vs 3=_:=dq he 3;rw[e3]at hK |-;rw[if_pos (by rfl)];simp only[gQ]at hK;have HK:=hid hK;clear hK he hi hBW;have cc:=E0W.out;go_simp;exact HK.out _ _ rfl bR
     ·have e0:vs 0=_:=dq he 0;rw[e0]at hK |-;have e4:vs 4=_:=dq he 4;rw[e4]at hK |-;rw[if_pos (by rfl)];simp only[gQ]at hK;have HK:=hid hK;clear hK he hi hBW;go_simp;go_at_call 88
      refine (ISZ.out W (PQW.out)).mono ?_;rintro en w9 ⟨rfl,rfl⟩;go_simp;exact HK.out _ _ rfl bR
     ·have e5:vs 5=_:=dq he 5;rw[e5]at hK |-;rw[if_pos (by rfl)];simp only[gQ]at hK;have HK:=hid hK;clear hK he hi hBW;go_simp;exact HK.out _ _ (by first|rfl|simp[qE9]) bR
     iterate 3 ·have e6:vs 6=_:=gd he 6;rw[e6]at hK |-;rw[if_pos (by rfl)];simp only[gQ]at hK;have HK:=hid hK;clear hK he hi hBW;go_simp;exact HK.out _ _ (by first|rfl|simp[qE9]) bR
     ·have e8:vs 8=_:=dq he 8;rw[e8]at hK |-;have e9:vs 9=_:=dq he 9;rw[e9]at hK |-;have e6:vs 6=_:=gd he 6;rw[e6]at hK |-;rw[if_pos (by rfl)];simp only[gQ]at hK;have HK:=hid hK;clear hK he hi hBW;have i0:=IK.out.1;have i1:=IK.out.2;go_simp;exact HK.out _ _ (by simp[qE9]) bR
     ·have e10:vs 10=_:=dq he 10;rw[e10]at hK |-;have e6:vs 6=_:=gd he 6;rw[e6]at hK |-;rw[if_pos (by rfl)];simp only[gQ]at hK;have HK:=hid hK;clear hK he hi hBW;have cc:=E0W.out;go_simp;exact HK.out _ _ rfl bR
     ·have e6:vs 6=_:=gd he 6;rw[e6]at hK |-;rw[if_pos (by rfl)];simp only[gQ]at hK;have HK:=hid hK;clear hK he hi hBW;obtain⟨_,f0,f1,f2,f3,f4,f5,f6⟩:=XW.out;dsimp only[RV.kind,RV.dep,RV.addr,RV.args,RV.cap]at f0 f1 f2 f3 f4 f5 f6;go_simp;exact HK.out _ _ rfl bR
     ·have e7:vs 7=_:=dq he 7;rw[e7]at hK |-;have e11:vs 11=_:=dq he 11;rw[e11]at hK |-;have e12:vs 12=_:=dq he 12;rw[e12]at hK |-;have e6:vs 6=_:=gd he 6;rw[e6]at hK |-;rw[if_pos (by rfl)];simp only[gQ]at hK;have HK:=hid hK;clear hK he hi hBW;have CW:=PRV.out W BWR.out;go_simp;go_at_call 155
      refine CW.mono ?_;rintro en w9 ⟨rfl,h⟩;go_simp;exact HK.out _ _ rfl h
     ·have e6:vs 6=_:=dq he 6;rw[e6]at hK |-;have e13:vs 13=_:=dq he 13;rw[e13]at hK |-;rw[if_pos (by rfl)];simp only[gQ]at hK;have HK:=hid hK;clear hK he hi hBW;go_simp;exact HK.out _ _ (by simp[qE9]) bR
    ·intro vs W2 hall hBW;have eo:vs 14=.bool pv:=hall 14 (by decide);simp only[gT,qA4,qAB,qAA,gP];rw[eo];generalize vs 0=y0,vs 1=y1,vs 2=y2,vs 3=y3,vs 4=y4,vs 5=y5,vs 6=y6,vs 7=y7,vs 8=y8,vs 9=y9,vs 10=y10,vs 11=y11,vs 12=y12,vs 13=y13;have B2:=hid (HB.out.trans (hBW.mono HB.out.size));have V2:=hid (HV.out.trans (hBW.mono HV.out.size));clear hall hBW eo;cases pv
     ·go_wp2_with fail
      go_roundw
      case rel=>exact⟨k+1,by omega,by go_num,hid (HNX.out HPV.out),B2.out,V2.out⟩
      case measure=>simp[intOf];omega
     ·obtain rfl:r=true:=HYS.out HPV.out;go_wp2_with fail
      go_ret;exact⟨rfl,B2.out⟩
   ·have HNX:=hid (HNX.out (Tr.inN_out hz));rw[decide_eq_false hz]at ISA;have ISZ:=hid ISA.out;clear ISA HYS;clear hz;go_wp2_with fail
    clear i1;refine qA6 (PP:=qGC Q sb so m c k z) 15 rfl (by kernel_rfl) (by kernel_rfl) (by decide) (by decide) (qLZ Q sb so m c k z) (fun ii=>match ii with|0=>u141|1=>u142|2=>u143|3=>u144|4=>u145|5=>u146|6=>u147|7=>u148|8=>u149|9=>u150|10=>u151|11=>u152|12=>u153|13=>u154|14=>u155|_=>undef) (by simp[qA4,gQ]) ?_ ?_
    ·intro i o vs W hi ho he hBW K hK;simp only[gT,qA4,gQ]at hK |-;have E0W:=hid ((hBW.cell (p:=⟨sb,so+k,none⟩) EL.out).trans E0.out);have PQW:=hid (PQ.out W (HB.out.trans (hBW.mono HB.out.size)));obtain rfl|rfl|rfl|rfl|rfl|rfl|rfl|rfl|rfl|rfl|rfl|rfl|rfl|rfl|rfl:=c15_ hi<;>simp only[gE]at ho<;>subst ho
     iterate 3 ·rw[if_pos (by rfl)];simp only[gQ]at hK;have HK:=hid hK;clear hK he hi hBW;go_simp;exact HK.out _ _ (by first|rfl|simp[qGC]) bR
     ·have e1:vs 1=_:=dq he 1;rw[e1]at hK |-;have e2:vs 2=_:=dq he 2;rw[e2]at hK |-;rw[if_pos (by rfl)];simp only[gQ]at hK;have HK:=hid hK;clear hK he hi hBW;have i0:=IK.out.1;have i1:=IK.out.2;go_simp;exact HK.out _ _ (by simp[qGC]) bR
     ·have e3:vs 3=_:=dq he 3;rw[e3]at hK |-;rw[if_pos (by rfl)];simp only[gQ]at hK;have HK:=hid hK;clear hK he hi hBW;have cc:=E0W.out;go_simp;exact HK.out _ _ rfl bR
     ·have e0:vs 0=_:=dq he 0;rw[e0]at hK |-;have e4:vs 4=_:=dq he 4;rw[e4]at hK |-;rw[if_pos (by rfl)];simp only[gQ]at hK;have HK:=hid hK;clear hK he hi hBW;go_simp;go_at_call 88
      refine (ISZ.out W (PQW.out)).mono ?_;rintro en w9 ⟨rfl,rfl⟩;go_simp;exact HK.out _ _ rfl bR
     ·have e5:vs 5=_:=dq he 5;rw[e5]at hK |-;rw[if_pos (by rfl)];simp only[gQ]at hK;have HK:=hid hK;clear hK he hi hBW;go_simp;exact HK.out _ _ (by first|rfl|simp[qGC]) bR
     iterate 3 ·have e6:vs 6=_:=gd he 6;rw[e6]at hK |-;refine wN bF ?_;exact hK _ _ rfl bR
     ·have e8:vs 8=_:=dq he 8;rw[e8]at hK |-;have e9:vs 9=_:=dq he 9;rw[e9]at hK |-;have e6:vs 6=_:=gd he 6;rw[e6]at hK |-;refine wN bF ?_;exact hK _ _ rfl bR
     ·have e10:vs 10=_:=dq he 10;rw[e10]at hK |-;have e6:vs 6=_:=gd he 6;rw[e6]at hK |-;refine wN bF ?_;exact hK _ _ rfl bR
     ·have e6:vs 6=_:=gd he 6;rw[e6]at hK |-;refine wN bF ?_;exact hK _ _ rfl bR
     ·have e7:vs 7=_:=dq he 7;rw[e7]at hK |-;have e11:vs 11=_:=dq he 11;rw[e11]at hK |-;have e12:vs 12=_:=dq he 12;rw[e12]at hK |-;have e6:vs 6=_:=gd he 6;rw[e6]at hK |-;refine wN bF ?_;exact hK _ _ rfl bR
     ·have e6:vs 6=_:=dq he 6;rw[e6]at hK |-;have e13:vs 13=_:=dq he 13;rw[e13]at hK |-;rw[if_pos (by rfl)];simp only[gQ]at hK;have HK:=hid hK;clear hK he hi hBW;go_simp;exact HK.out _ _ (by simp[qGC]) bR
    ·intro vs W2 hall hBW;have eo:vs 14=.bool false:=hall 14 (by decide);simp only[gT,qA4,qAB,qAA,gP];rw[eo];generalize vs 0=y0,vs 1=y1,vs 2=y2,vs 3=y3,vs 4=y4,vs 5=y5,vs 6=y6,vs 7=y7,vs 8=y8,vs 9=y9,vs 10=y10,vs 11=y11,vs 12=y12,vs 13=y13;have B2:=hid (HB.out.trans (hBW.mono HB.out.size));have V2:=hid (HV.out.trans (hBW.mono HV.out.size));clear hall hBW eo;go_wp2_with fail
     go_roundw
     case rel=>exact⟨k+1,by omega,by go_num,hid (HNX.out),B2.out,V2.out⟩
     case measure=>simp[intOf];omega
  ·obtain rfl:k=m:=by omega
   have i1:¬(k:Int)<(k:Int):=by omega
   obtain rfl:r=false:=by rw[RR.out];exact Tr.any_no fun j hj=>HS.out j hj (by have:=HM.out;omega)
   go_wp2_with fail
   go_ret;exact⟨rfl,HB.out⟩
theorem qXI (d:Dp)(TA:Option Addr)(tc:Nat)(l:List RV)(IH:∀a∈l,qD1 Q I L a)(z:Nat)(w:World)(hok:(RV.node 7 d TA tc l).tree.okB=true)(hT:RTree w.heap.size w (.node 7 d TA tc l))(hP:RPool Q I L w)(hLn:L.length<=1000000) : Calls Tryz.prog 155 #[.pointer (some ⟨Q,0,none⟩),.int .i64 (z:Int),(RV.node 7 d TA tc l).val] w fun e w'=>e=.returned (.bool (Tr.oneB L.length (pvL L) 7 (qA1 l) z))/\Below w.heap.size w w' := by
 have HT:=hid (fun W (hb:Below w.heap.size w W)=>(hT.keeps hb).more hb.size);have AT:=hid (fun W (hb:Below w.heap.size w W) (i:Nat) (hi:i<l.length)=>(show RRow W.heap.size W TA tc l from ((hT.keeps hb).more hb.size).rrow).at_ hi);have hn:=hT.row.len;have hln:l.length<=9223372036854775807:=hn;clear hn;have PQ:=hid (fun W (hb:Below w.heap.size w W)=>hP.then hb);have IHC:=hid (fun (i:Nat) (hi:i<l.length) (A:Option Addr) W (hb:Below w.heap.size w W) (hS:Rd encI 1 W.heap.size A 1 [(z:Int)] W)=>IH l[i] (List.getElem_mem hi) A 1 [(z:Int)] W (qHI hok (show (7:Int)≠1 by decide) _ (List.getElem_mem hi)) (((hT.keeps hb).more hb.size).sub _ (List.getElem_mem hi)) (hP.then hb) hS (by simp) hLn);have XB:=hid (RBx.new (.node 7 d TA tc l) w);unfold RV.val at IHC;dsimp only[RV.kind,RV.dep,RV.addr,RV.args,RV.cap]at XB;have B1:=hid ((Below.refl w.heap.size w).alloc lR (.cells #[.int .u8 7,.string (bs d.name),.int .u8 d.op,.int .i64 d.evr.epoch,.string (bs d.evr.ver),.string (bs d.evr.rel),.slice TA l.length tc] 39));have LN:=hid (qHX hok (show (7:Int)≠1 by decide)).1;obtain⟨n,hn⟩:∃n,n=l.length:=⟨_,rfl⟩;have HN:=hid hn;have hn2:=LN.out;have hn2:2<=l.length:=hn2;have l0:0<l.length:=by omega
 have l1:1<l.length:=by omega
 obtain⟨v0,hv0⟩:∃v,Tr.sat L.length (pvL L) l[0].tree (St.inS [(z:Int)])=v:=⟨_,rfl⟩;obtain⟨v1,hv1⟩:∃v,Tr.sat L.length (pvL L) l[1].tree (St.inS [(z:Int)])=v:=⟨_,rfl⟩;obtain⟨r,hr⟩:∃r,r=Tr.oneB L.length (pvL L) 7 (qA1 l) z:=⟨_,rfl⟩;rw[<- hr];have RR:=hid (show r=(v0 && !v1) by rw[hr,<- hv0,<- hv1,Tr.inS_one,<- qBE l0,<- qBE l1];rfl);obtain⟨b,o,hA,_⟩:=AT.out w bR 0 l0;subst hA;have CX:=hid (fun (i:Nat) (hi:i<l.length) W (hb:Below w.heap.size w W)=>show W.cell? ⟨b,o+i * 7,none⟩=some (.int .u8 l[i].kind)/\W.cell? ⟨b,o+i * 7+1,none⟩=some (.string (bs l[i].dep.name))/\W.cell? ⟨b,o+i * 7+2,none⟩=some (.int .u8 l[i].dep.op)/\W.cell? ⟨b,o+i * 7+3,none⟩=some (.int .i64 l[i].dep.evr.epoch)/\W.cell? ⟨b,o+i * 7+4,none⟩=some (.string (bs l[i].dep.evr.ver))/\W.cell? ⟨b,o+i * 7+5,none⟩=some (.string (bs l[i].dep.evr.rel))/\W.cell? ⟨b,o+i * 7+6,none⟩=some (.slice l[i].addr l[i].args.length l[i].cap) from by
  obtain⟨b',o',e,_,q⟩:=AT.out W hb i hi;cases e
  exact q)
 have I0:=hid (fun A W hb hS=>hv0 ▸ IHC.out 0 l0 A W hb hS);have I1:=hid (fun A W hb hS=>hv1 ▸ IHC.out 1 l1 A W hb hS);have C0:=hid (fun W hb=>CX.out 0 l0 W hb);have C1:=hid (fun W hb=>CX.out 1 l1 W hb);simp only[Nat.zero_mul,Nat.one_mul,Nat.add_zero]at C0 C1;clear hok hT hP hr IH hv0 hv1 CX AT IHC;generalize l[0]=y0 at *;generalize l[1]=y1 at *;unfold RV.val;dsimp only[RV.kind,RV.dep,RV.addr,RV.args,RV.cap];have hi0:(0:Int)<(n:Int):=by omega
 have hi1:(1:Int)<(n:Int):=by omega
 go_enter Tryz.func155,Tryz.ntmps155
 go_upto_region 1 with fail
 obtain⟨V,hV⟩:∃V,V=w.alloc (.cells #[.int .u8 7,.string (bs d.name),.int .u8 d.op,.int .i64 d.evr.epoch,.string (bs d.evr.ver),.string (bs d.evr.rel),.slice (some ⟨b,o,none⟩) l.length tc] 39):=⟨_,rfl⟩;rw[<- hV]at B1 XB |-;clear hV;rw[<- hn]at hln |-;clear hn
 go_upto_region 2 with fail
 have hv2:Below w.heap.size w (V.alloc (.cells #[.int .i64 (z:Int)] 3)):=B1.out.trans (((Below.refl _ V).alloc lR _).mono B1.out.size);have X2:=hid (XB.out.then ((Below.refl _ V).alloc lR (.cells #[.int .i64 (z:Int)] 3)));have R2:=hid (show Rd encI 1 (V.alloc (.cells #[.int .i64 (z:Int)] 3)).heap.size (some ⟨V.heap.size,0,none⟩) 1 [(z:Int)] (V.alloc (.cells #[.int .i64 (z:Int)] 3)) from qCP (by simp) ((World.cell?_alloc_at _ _ _ _ rfl).trans rfl));have B2:=hid hv2;obtain⟨gz,hgz⟩:∃g,V.heap.size=g:=⟨_,rfl⟩;rw[hgz]at R2 |-;generalize V.alloc (.cells #[.int .i64 (z:Int)] 3)=V2 at *;clear hv2 hgz B1 XB;obtain⟨_,c0,c1,c2,c3,c4,c5,c6⟩:=X2.out;dsimp only[RV.addr,RV.args,RV.cap,RV.kind]at c0 c6;clear c1 c2 c3 c4 c5;rw[<- HN.out]at c6;obtain⟨a0,a1,a2,a3,a4,a5,a6⟩:=C0.out V2 B2.out;have IC:=hid (I0.out (some ⟨gz,0,none⟩) V2 B2.out R2.out);go_wp2_with fail
 go_at_call 109
 refine IC.out.mono ?_;rintro e w3 ⟨rfl,h3⟩;have B3:=hid (B2.out.trans (h3.mono B2.out.size));have X3:=hid (X2.out.then h3);have R3:=hid ((R2.out.below h3).more h3.size);clear h3 IC X2 B2 R2 a0 a1 a2 a3 a4 a5 a6 c0 c6 C0 I0;cases v0
 ·obtain rfl:r=false:=by rw[RR.out];simp
  go_wp2_with fail
  go_ret;exact⟨rfl,B3.out⟩
 ·obtain⟨_,c0,c1,c2,c3,c4,c5,c6⟩:=X3.out;dsimp only[RV.addr,RV.args,RV.cap,RV.kind]at c0 c6;clear c1 c2 c3 c4 c5;rw[<- HN.out]at c6;obtain⟨a0,a1,a2,a3,a4,a5,a6⟩:=C1.out w3 B3.out;have IC:=hid (I1.out (some ⟨gz,0,none⟩) w3 B3.out R3.out);obtain rfl:r = !v1:=by rw[RR.out];simp
  go_wp2_with fail
  go_at_call 109
  refine IC.out.mono ?_;rintro e w4 ⟨rfl,h4⟩;have B4:=hid (B3.out.trans (h4.mono B3.out.size));clear h4 IC a0 a1 a2 a3 a4 a5 a6 c0 c6;go_wp2_with fail
  go_ret;exact⟨rfl,B4.out⟩
theorem qYX (d:Dp)(TA:Option Addr)(tc:Nat)(l:List RV)(IH:∀a∈l,qD1 Q I L a) : qD1 Q I L (.node 7 d TA tc l) := by
 intro A c S w hok hT hP hS hSn hLn;have PQ:=hid (fun W (hb:Below w.heap.size w W)=>hP.then hb);have RS:=hid (fun W (hb:Below w.heap.size w W)=>(hS.below hb).more hb.size);have HT:=hid (fun W (hb:Below w.heap.size w W)=>(hT.keeps hb).more hb.size);have IHH:=hid IH;have OKH:=hid hok;have XB:=hid (RBx.new (.node 7 d TA tc l) w);dsimp only[RV.kind,RV.dep,RV.addr,RV.args,RV.cap]at XB;have B1:=hid ((Below.refl w.heap.size w).alloc lR (.cells #[.int .u8 7,.string (bs d.name),.int .u8 d.op,.int .i64 d.evr.epoch,.string (bs d.evr.ver),.string (bs d.evr.rel),.slice TA l.length tc] 39));obtain⟨m,hm⟩:∃m,S.length=m:=⟨_,rfl⟩;rw[hm];have HM:=hid hm;obtain⟨r,hr⟩:∃r,r=Tr.sat L.length (pvL L) (RV.tree (.node 7 d TA tc l)) (St.inS S):=⟨_,rfl⟩;rw[<- hr];have RR:=hid (show r=S.any (Tr.inN L.length (Tr.oneB L.length (pvL L) 7 (qA1 l))) by rw[hr];exact Tr.sat_withS (by decide));have hm1:m<=1000000:=by omega
 clear hok hT hP hS hr IH hm;unfold RV.val;dsimp only[RV.kind,RV.dep,RV.addr,RV.args,RV.cap]
 go_enter Tryz.func109,Tryz.ntmps109
 go_wp2_with fail
 obtain⟨V,hV⟩:∃V,V=w.alloc (.cells #[.int .u8 7,.string (bs d.name),.int .u8 d.op,.int .i64 d.evr.epoch,.string (bs d.evr.ver),.string (bs d.evr.rel),.slice TA l.length tc] 39):=⟨_,rfl⟩;rw[<- hV]at B1 XB |-;clear hV
 go_loopw[10] (fun iv wr => ∃k:Nat,k<=m/\iv=.int .i64 (k:Int)/\Hid (∀j (hj:j<S.length),j<k->Tr.inN L.length (Tr.oneB L.length (pvL L) 7 (qA1 l)) S[j]=false)/\Below w.heap.size w wr/\Below V.heap.size V wr) (fun iv _=>m - (intOf iv).toNat)
 case atStart=>exact⟨0,Nat.zero_le _,rfl,hid (by intro j hj h;omega),B1.out,Below.refl _ _⟩
 case round =>
  obtain⟨k,hk,rfl,HS,hB,hV⟩:=hrel;rename World=>wr
  have HB:=hid hB;have HV:=hid hV;clear hB hV;by_cases hlt:k<m
  ·have hkl:k<S.length:=by have:=HM.out;omega
   obtain⟨sb,so,hA,hb,e0⟩:=(RS.out wr HB.out).int_at hkl;have E0:=hid e0;have EL:=hid (World.block_lt_of_cell? wr _ e0);have HYS:=hid (fun (h:Tr.inN L.length (Tr.oneB L.length (pvL L) 7 (qA1 l)) S[k]=true)=>show r=true by rw[RR.out];exact List.any_eq_true.2 ⟨_,List.getElem_mem hkl,h⟩);have HNX:=hid (fun (h:Tr.inN L.length (Tr.oneB L.length (pvL L) 7 (qA1 l)) S[k]=false)=>show ∀j (hj:j<S.length),j<k+1->Tr.inN L.length (Tr.oneB L.length (pvL L) 7 (qA1 l)) S[j]=false from fun j hj hjk=>by
    by_cases e:j=k
    ·subst e;exact h
    ·exact HS.out j hj (by omega))
   generalize S[k]=z at *;have IK:=hid (show (0:Int)<=(k:Int)/\(k:Int)<(m:Int) by omega);have i1:=IK.out.2;subst hA;have ISA:=hid (fun W (h:RPool Q I L W)=>qIL z W h hLn);clear hb hkl e0;by_cases hz:0<=z/\z<(L.length:Int)
   ·obtain⟨n,rfl⟩:∃n:Nat,z=(n:Int):=⟨z.toNat,by omega⟩;have hn9:n<L.length:=by omega
    rw[Tr.inN_in hz,Int.toNat_natCast]at HYS HNX;rw[decide_eq_true hz]at ISA;have ISZ:=hid ISA.out;clear ISA;have PRV:=hid (fun W (hb:Below wr.heap.size wr W)=>qXI d TA tc l IHH.out n W OKH.out (HT.out W (HB.out.trans (hb.mono HB.out.size))) (PQ.out W (HB.out.trans (hb.mono HB.out.size))) hLn);obtain⟨pv,hpv⟩:∃v,Tr.oneB L.length (pvL L) 7 (qA1 l) n=v:=⟨_,rfl⟩;rw[hpv]at PRV;have HPV:=hid hpv;unfold RV.val at PRV;dsimp only[RV.kind,RV.dep,RV.addr,RV.args,RV.cap]at PRV;clear hz hn9 hpv;go_wp2_with fail
    clear i1;refine qA6 (PP:=qEA Q sb so m c k (n:Int) d TA tc l pv) 15 rfl (by kernel_rfl) (by kernel_rfl) (by decide) (by decide) (qM2 Q sb so m c k (n:Int) d TA tc l pv) (fun ii=>match ii with|0=>u141|1=>u142|2=>u143|3=>u144|4=>u145|5=>u146|6=>u147|7=>u148|8=>u149|9=>u150|10=>u151|11=>u152|12=>u153|13=>u154|14=>u155|_=>undef) (by simp[qA4,gQ]) ?_ ?_
    ·intro i o vs W hi ho he hBW K hK;simp only[gT,qA4,gQ]at hK |-;have E0W:=hid ((hBW.cell (p:=⟨sb,so+k,none⟩) EL.out).trans E0.out);have PQW:=hid (PQ.out W (HB.out.trans (hBW.mono HB.out.size)));have BWR:=hid hBW;have XW:=hid (XB.out.then (HV.out.trans (hBW.mono HV.out.size)));obtain rfl|rfl|rfl|rfl|rfl|rfl|rfl|rfl|rfl|rfl|rfl|rfl|rfl|rfl|rfl:=c15_ hi<;>simp only[gE]at ho<;>subst ho
     iterate 3 ·rw[if_pos (by rfl)];simp only[gQ]at hK;have HK:=hid hK;clear hK he hi hBW;go_simp;exact HK.out _ _ (by first|rfl|simp[qEA]) bR
     ·have e1:vs 1=_:=dq he 1;rw[e1]at hK |-;have e2:vs 2=_:=dq he 2;rw[e2]at hK |-;rw[if_pos (by rfl)];simp only[gQ]at hK;have HK:=hid hK;clear hK he hi hBW;have i0:=IK.out.1;have i1:=IK.out.2;go_simp;exact HK.out _ _ (by simp[qEA]) bR
     ·have e3:vs 3=_:=dq he 3;rw[e3]at hK |-;rw[if_pos (by rfl)];simp only[gQ]at hK;have HK:=hid hK;clear hK he hi hBW;have cc:=E0W.out;go_simp;exact HK.out _ _ rfl bR
     ·have e0:vs 0=_:=dq he 0;rw[e0]at hK |-;have e4:vs 4=_:=dq he 4;rw[e4]at hK |-;rw[if_pos (by rfl)];simp only[gQ]at hK;have HK:=hid hK;clear hK he hi hBW;go_simp;go_at_call 88
      refine (ISZ.out W (PQW.out)).mono ?_;rintro en w9 ⟨rfl,rfl⟩;go_simp;exact HK.out _ _ rfl bR
     ·have e5:vs 5=_:=dq he 5;rw[e5]at hK |-;rw[if_pos (by rfl)];simp only[gQ]at hK;have HK:=hid hK;clear hK he hi hBW;go_simp;exact HK.out _ _ (by first|rfl|simp[qEA]) bR
     iterate 3 ·have e6:vs 6=_:=gd he 6;rw[e6]at hK |-;rw[if_pos (by rfl)];simp only[gQ]at hK;have HK:=hid hK;clear hK he hi hBW;go_simp;exact HK.out _ _ (by first|rfl|simp[qEA]) bR
     ·have e8:vs 8=_:=dq he 8;rw[e8]at hK |-;have e9:vs 9=_:=dq he 9;rw[e9]at hK |-;have e6:vs 6=_:=gd he 6;rw[e6]at hK |-;rw[if_pos (by rfl)];simp only[gQ]at hK;have HK:=hid hK;clear hK he hi hBW;have i0:=IK.out.1;have i1:=IK.out.2;go_simp;exact HK.out _ _ (by simp[qEA]) bR
     ·have e10:vs 10=_:=dq he 10;rw[e10]at hK |-;have e6:vs 6=_:=gd he 6;rw[e6]at hK |-;rw[if_pos (by rfl)];simp only[gQ]at hK;have HK:=hid hK;clear hK he hi hBW;have cc:=E0W.out;go_simp;exact HK.out _ _ rfl bR
     ·have e6:vs 6=_:=gd he 6;rw[e6]at hK |-;rw[if_pos (by rfl)];simp only[gQ]at hK;have HK:=hid hK;clear hK he hi hBW;obtain⟨_,f0,f1,f2,f3,f4,f5,f6⟩:=XW.out;dsimp only[RV.kind,RV.dep,RV.addr,RV.args,RV.cap]at f0 f1 f2 f3 f4 f5 f6;go_simp;exact HK.out _ _ rfl bR
     ·have e7:vs 7=_:=dq he 7;rw[e7]at hK |-;have e11:vs 11=_:=dq he 11;rw[e11]at hK |-;have e12:vs 12=_:=dq he 12;rw[e12]at hK |-;have e6:vs 6=_:=gd he 6;rw[e6]at hK |-;rw[if_pos (by rfl)];simp only[gQ]at hK;have HK:=hid hK;clear hK he hi hBW;have CW:=PRV.out W BWR.out;go_simp;go_at_call 155
      refine CW.mono ?_;rintro en w9 ⟨rfl,h⟩;go_simp;exact HK.out _ _ rfl h
     ·have e6:vs 6=_:=dq he 6;rw[e6]at hK |-;have e13:vs 13=_:=dq he 13;rw[e13]at hK |-;rw[if_pos (by rfl)];simp only[gQ]at hK;have HK:=hid hK;clear hK he hi hBW;go_simp;exact HK.out _ _ (by simp[qEA]) bR
    ·intro vs W2 hall hBW;have eo:vs 14=.bool pv:=hall 14 (by decide);simp only[gT,qA4,qAB,qAA,gP];rw[eo];generalize vs 0=y0,vs 1=y1,vs 2=y2,vs 3=y3,vs 4=y4,vs 5=y5,vs 6=y6,vs 7=y7,vs 8=y8,vs 9=y9,vs 10=y10,vs 11=y11,vs 12=y12,vs 13=y13;have B2:=hid (HB.out.trans (hBW.mono HB.out.size));have V2:=hid (HV.out.trans (hBW.mono HV.out.size));clear hall hBW eo;cases pv
     ·go_wp2_with fail
      go_roundw
      case rel=>exact⟨k+1,by omega,by go_num,hid (HNX.out HPV.out),B2.out,V2.out⟩
      case measure=>simp[intOf];omega
     ·obtain rfl:r=true:=HYS.out HPV.out;go_wp2_with fail
      go_ret;exact⟨rfl,B2.out⟩
   ·have HNX:=hid (HNX.out (Tr.inN_out hz));rw[decide_eq_false hz]at ISA;have ISZ:=hid ISA.out;clear ISA HYS;clear hz;go_wp2_with fail
    clear i1;refine qA6 (PP:=qGD Q sb so m c k z) 15 rfl (by kernel_rfl) (by kernel_rfl) (by decide) (by decide) (qM1 Q sb so m c k z) (fun ii=>match ii with|0=>u141|1=>u142|2=>u143|3=>u144|4=>u145|5=>u146|6=>u147|7=>u148|8=>u149|9=>u150|10=>u151|11=>u152|12=>u153|13=>u154|14=>u155|_=>undef) (by simp[qA4,gQ]) ?_ ?_
    ·intro i o vs W hi ho he hBW K hK;simp only[gT,qA4,gQ]at hK |-;have E0W:=hid ((hBW.cell (p:=⟨sb,so+k,none⟩) EL.out).trans E0.out);have PQW:=hid (PQ.out W (HB.out.trans (hBW.mono HB.out.size)));obtain rfl|rfl|rfl|rfl|rfl|rfl|rfl|rfl|rfl|rfl|rfl|rfl|rfl|rfl|rfl:=c15_ hi<;>simp only[gE]at ho<;>subst ho
     iterate 3 ·rw[if_pos (by rfl)];simp only[gQ]at hK;have HK:=hid hK;clear hK he hi hBW;go_simp;exact HK.out _ _ (by first|rfl|simp[qGD]) bR
     ·have e1:vs 1=_:=dq he 1;rw[e1]at hK |-;have e2:vs 2=_:=dq he 2;rw[e2]at hK |-;rw[if_pos (by rfl)];simp only[gQ]at hK;have HK:=hid hK;clear hK he hi hBW;have i0:=IK.out.1;have i1:=IK.out.2;go_simp;exact HK.out _ _ (by simp[qGD]) bR
     ·have e3:vs 3=_:=dq he 3;rw[e3]at hK |-;rw[if_pos (by rfl)];simp only[gQ]at hK;have HK:=hid hK;clear hK he hi hBW;have cc:=E0W.out;go_simp;exact HK.out _ _ rfl bR
     ·have e0:vs 0=_:=dq he 0;rw[e0]at hK |-;have e4:vs 4=_:=dq he 4;rw[e4]at hK |-;rw[if_pos (by rfl)];simp only[gQ]at hK;have HK:=hid hK;clear hK he hi hBW;go_simp;go_at_call 88
      refine (ISZ.out W (PQW.out)).mono ?_;rintro en w9 ⟨rfl,rfl⟩;go_simp;exact HK.out _ _ rfl bR
     ·have e5:vs 5=_:=dq he 5;rw[e5]at hK |-;rw[if_pos (by rfl)];simp only[gQ]at hK;have HK:=hid hK;clear hK he hi hBW;go_simp;exact HK.out _ _ (by first|rfl|simp[qGD]) bR
     iterate 3 ·have e6:vs 6=_:=gd he 6;rw[e6]at hK |-;refine wN bF ?_;exact hK _ _ rfl bR
     ·have e8:vs 8=_:=dq he 8;rw[e8]at hK |-;have e9:vs 9=_:=dq he 9;rw[e9]at hK |-;have e6:vs 6=_:=gd he 6;rw[e6]at hK |-;refine wN bF ?_;exact hK _ _ rfl bR
     ·have e10:vs 10=_:=dq he 10;rw[e10]at hK |-;have e6:vs 6=_:=gd he 6;rw[e6]at hK |-;refine wN bF ?_;exact hK _ _ rfl bR
     ·have e6:vs 6=_:=gd he 6;rw[e6]at hK |-;refine wN bF ?_;exact hK _ _ rfl bR
     ·have e7:vs 7=_:=dq he 7;rw[e7]at hK |-;have e11:vs 11=_:=dq he 11;rw[e11]at hK |-;have e12:vs 12=_:=dq he 12;rw[e12]at hK |-;have e6:vs 6=_:=gd he 6;rw[e6]at hK |-;refine wN bF ?_;exact hK _ _ rfl bR
     ·have e6:vs 6=_:=dq he 6;rw[e6]at hK |-;have e13:vs 13=_:=dq he 13;rw[e13]at hK |-;rw[if_pos (by rfl)];simp only[gQ]at hK;have HK:=hid hK;clear hK he hi hBW;go_simp;exact HK.out _ _ (by simp[qGD]) bR
    ·intro vs W2 hall hBW;have eo:vs 14=.bool false:=hall 14 (by decide);simp only[gT,qA4,qAB,qAA,gP];rw[eo];generalize vs 0=y0,vs 1=y1,vs 2=y2,vs 3=y3,vs 4=y4,vs 5=y5,vs 6=y6,vs 7=y7,vs 8=y8,vs 9=y9,vs 10=y10,vs 11=y11,vs 12=y12,vs 13=y13;have B2:=hid (HB.out.trans (hBW.mono HB.out.size));have V2:=hid (HV.out.trans (hBW.mono HV.out.size));clear hall hBW eo;go_wp2_with fail
     go_roundw
     case rel=>exact⟨k+1,by omega,by go_num,hid (HNX.out),B2.out,V2.out⟩
     case measure=>simp[intOf];omega
  ·obtain rfl:k=m:=by omega
   have i1:¬(k:Int)<(k:Int):=by omega
   obtain rfl:r=false:=by rw[RR.out];exact Tr.any_no fun j hj=>HS.out j hj (by have:=HM.out;omega)
   go_wp2_with fail
   go_ret;exact⟨rfl,HB.out⟩
