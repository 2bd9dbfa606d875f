/- TrIs3, TrIs4, TrIs5 -/
import Derived.Test.YteobmfpbgnmffaaGreatDoorT27
set_option linter.unusedVariables false
set_option maxHeartbeats 16000000
set_option maxRecDepth 100000
open Go.Lib (hid)
set_option linter.unusedSimpArgs false
namespace Go.Proofs.YteobmfpbgnmffaaGreatDoor
open Go.RowKit Go.Shelf
section
theorem qLB (g:FuncId)(eg:∀args w,(callFunc g args).run Tryz.prog w=.ok (.enter g args) w)(cp:Value)(p:RV->Bool)(l:List RV)(A:Option Addr)(c:Nat)(w:World)(hl:RRow w.heap.size w A c l)(hn:l.length<=1000000)(hp:qY2 w g #[cp] p l) :
  Calls Tryz.prog 195 #[.slice A l.length c,.func (.func g) #[cp] #[]] w fun e w' => ∃i:Int,e=.returned (.int .i64 i)/\(decide (0<=i)=l.any p)/\Below w.heap.size w w':=by
 have HL:=hid hl;have HP:=hid hp;obtain⟨n,hnn⟩:∃n,n=l.length:=⟨_,rfl⟩;rw[<- hnn]at hn |-;have HN:=hid hnn;clear hl hp hnn
 go_enter Tryz.func195,Tryz.ntmps195
 go_wp2_with fail
 go_loopw[8] (fun i wr => ∃k:Nat,k<=n/\i=.int .i64 (k:Int)/\Hid (∀j (hj:j<l.length),j<k->p l[j]=false)/\Below w.heap.size w wr) (fun i _=>n - (intOf i).toNat)
 case atStart=>exact⟨0,by omega,rfl,hid (by intro j hj h;omega),Below.refl _ _⟩
 case round =>
  obtain⟨k,hk,rfl,hS,hB⟩:=hrel;rename World=>wr
  by_cases hlt:k<n
  ·have hkl:k<l.length:=by have:=HN.out;omega
   obtain⟨b,o,rfl,hb,c0,c1,c2,c3,c4,c5,c6⟩:=(HL.out.below hB).at_ hkl
   have CP:=hid (HP.out _ (List.getElem_mem hkl) wr hB);have HT:=hid (fun (h:p l[k]=true)=>show l.any p=true from List.any_eq_true.2 ⟨_,List.getElem_mem hkl,h⟩);have HF:=hid (fun (h:p l[k]=false)=>show ∀j (hj:j<l.length),j<k+1->p l[j]=false from fun j hj hjk=>by
    by_cases e:j=k
    ·subst e;exact h
    ·exact hS.out j hj (by omega))
   have i0:(0:Int)<=(k:Int):=by omega
   have i1:(k:Int)<(n:Int):=by omega
   generalize l[k]=d at *;generalize p d=r at *;unfold RV.val at CP;clear hS;go_wp2_with fail
   go_at_fn g
   refine CP.out.mono ?_;rintro e w2 ⟨rfl,h⟩;have hB2:=hB.trans (h.mono hB.size);cases r
   ·go_wp2_with fail
    go_roundw
    case rel=>exact⟨k+1,by omega,by go_num,hid (HF.out (by trivial)),hB2⟩
    case measure=>simp[intOf];omega
   ·have HA:=hid (show l.any p=true from HT.out (by trivial));go_wp2_with fail
    go_ret;exact⟨(k:Int),rfl,by rw[HA.out];simp,hB2⟩
  ·have i1:¬(k:Int)<(n:Int):=by omega
   have HA:l.any p=false:=List.any_eq_false.2 fun d hd=>by obtain⟨j,hj,rfl⟩:=List.getElem_of_mem hd;rw[hS.out j hj (by have:=HN.out;omega)];decide
   go_wp2_with fail
   go_ret;exact⟨-1,rfl,by decide,hB⟩
theorem qL7 (g:FuncId)(eg:∀args w,(callFunc g args).run Tryz.prog w=.ok (.enter g args) w)(cp:Value)(p:RV->Bool)(l:List RV)(A:Option Addr)(c:Nat)(w:World)(hl:RRow w.heap.size w A c l)(hn:l.length<=1000000)(hp:qY2 w g #[cp] p l) :
  Calls Tryz.prog 165 #[.slice A l.length c,.func (.func g) #[cp] #[]] w fun e w'=>e=.returned (.bool (l.any p))/\Below w.heap.size w w':=by
 have ID:=hid (qLB g eg cp p l A c w hl hn hp);clear hl hp;generalize l.any p=r at *;generalize l.length=n at *
 go_enter Tryz.func165,Tryz.ntmps165
 go_wp2_with fail
 go_at_call 195
 refine ID.out.mono ?_;rintro e w2 ⟨i,rfl,hi,h⟩;have HI:=hid hi;clear hi;go_wp2
 go_ret;exact⟨qA8 HI.out,h⟩
section
variable {T X N:Nat}{L:List Pk}
theorem qXR (R:RV)(hn:R.args.length<=1000000)(hR:∀a∈R.args,IsOk T X N L a)(rb:Nat)(f:Nat->Bool)(W:World)(hA:AskT T X N rb L f W)(hT:RTree W.heap.size W R) :
  Calls Tryz.prog 138 #[askW T rb N,R.val] W fun e w'=>e=.returned (.bool (R.args.any fun a=>Tr.sat N (pvL L) a.tree f))/\Below W.heap.size W w':=by
 have b1:=(Below.refl W.heap.size W).alloc lR (.cells #[.pointer (some ⟨T,0,none⟩),.slice (some ⟨rb,0,none⟩) N N] 145);have b2:=b1.alloc (by simp) (.cells #[.int .u8 R.kind,.string (bs R.dep.name),.int .u8 R.dep.op,.int .i64 R.dep.evr.epoch,.string (bs R.dep.evr.ver),.string (bs R.dep.evr.rel),.slice R.addr R.args.length R.cap] 39)
 have HC:=hid (qL7 95 (fun _ _=>rfl) (askW T rb N) (fun a=>Tr.sat N (pvL L) a.tree f) R.args R.addr R.cap _ (RRow.more (RRow.below ⟨hT.row,hT.sub⟩ b2) b2.size) hn
  (fun d hd W' hB=>hR d hd rb f W' (hA.then (b2.trans (hB.mono b2.size))) (((hT.sub d hd).keeps (b2.trans (hB.mono b2.size))).more (b2.trans (hB.mono b2.size)).size)))
 unfold askW at *;unfold RV.val;have B2:=hid b2;clear hA hT hR b1 b2 hn;generalize (R.args.any fun a=>Tr.sat N (pvL L) a.tree f)=r at *;generalize R.args.length=n at *
 go_enter Tryz.func138,Tryz.ntmps138
 go_wp2_with fail
 go_at_call 165
 refine HC.out.mono ?_;rintro e w2 ⟨rfl,h⟩;have hB:=B2.out.trans (h.mono B2.out.size);clear h;go_wp2_with fail
 go_ret;exact⟨rfl,hB⟩
theorem qRH (g:FuncId)(eg:∀args w,(callFunc g args).run Tryz.prog w=.ok (.enter g args) w)(cp:Array Value)(p:Nat->Bool)(rb:Nat)(f:Nat->Bool)(W:World)(hA:AskT T X N rb L f W)
  (hp:∀n,n<N -> ∀(rb':Nat) (W':World),Below W.heap.size W W'->AskT T X N rb' L (Tr.one n) W'->Calls Tryz.prog g (#[askW T rb' N]++cp) W' fun e w'=>e=.returned (.bool (p n))/\Below W'.heap.size W' w') :
  Calls Tryz.prog 185 #[askW T rb N,.func (.func g) #[] cp] W fun e w'=>e=.returned (.bool (Tr.anyN N fun n=>f n && p n))/\Below W.heap.size W w':=by
 have b1:=(Below.refl W.heap.size W).alloc lR (.cells #[.pointer (some ⟨T,0,none⟩),.slice (some ⟨rb,0,none⟩) N N] 145);have AX:=hid (ABox.new T rb N W 145);have HA:=hid (fun W' (hb:Below W.heap.size W W')=>hA.then hb);have HP:=hid hp;have ST:=hid (fun (k:Nat) (W':World) (b:Nat) (hb:Below W.heap.size W W') (hr:Rd encI 1 W'.heap.size (some ⟨b,0,none⟩) 1 [(k:Int)] W')=>qGQ (hA.then hb).tr (some ⟨b,0,none⟩) 1 [(k:Int)] hr);have hN:=hA.tr.hN;have B1:=hid b1;unfold askW at *;clear hA hp b1
 go_enter Tryz.func185,Tryz.ntmps185
 obtain⟨_,a0,a1⟩:=AX.out;go_wp2_with fail
 clear a0 a1
 go_loopw[10] (fun iv wr => ∃k:Nat,k<=N/\iv=.int .i64 (k:Int)/\Hid (∀j,j<k->(f j && p j)=false)/\Below W.heap.size W wr/\ABox W.heap.size T rb N wr) (fun iv _=>N - (intOf iv).toNat)
 case atStart=>exact⟨0,Nat.zero_le _,rfl,hid (fun j hj=>absurd hj (Nat.not_lt_zero _)),B1.out,AX.out⟩
 case round =>
  obtain⟨k,hk,rfl,hS,hB,hX⟩:=hrel;rename World=>wr
  have HS:=hid hS.out;have HB:=hid hB;have HX:=hid hX;clear hS hB hX AX B1;by_cases hlt:k<N
  ·have r0:=((HA.out wr HB.out).row k hlt).1;have CP:=hid (HP.out k hlt);have HF:=hid (fun (h:(f k && p k)=false)=>show ∀j,j<k+1->(f j && p j)=false from fun j hj=>by
    by_cases e:j=k
    ·subst e;exact h
    ·exact HS.out j (by omega))
   have HT:=hid (fun (h:(f k && p k)=true)=>show Tr.anyN N (fun n=>f n && p n)=true from Tr.anyN_iff.2 ⟨k,hlt,h⟩);have i0:(0:Int)<=(k:Int):=by omega
   have i1:(k:Int)<(N:Int):=by omega
   generalize f k=fk at *;generalize p k=pk at *;cases fk
   ·have HF2:=hid (HF.out rfl);clear HF HT CP;go_wp2_with fail
    go_roundw
    case rel=>exact⟨k+1,by omega,by go_num,HF2,HB.out,HX.out⟩
    case measure=>simp[intOf];omega
   ·obtain⟨_,a0,a1⟩:=HX.out;have BA:=(Below.refl wr.heap.size wr).alloc lR (.cells #[.int .i64 (k:Int)] 3);have SA:=hid (ST.out k _ wr.heap.size (HB.out.trans (BA.mono HB.out.size)) (qCP (by simp) ((World.cell?_alloc_at _ _ _ _ rfl).trans rfl)));rw[Tr.inS_one,show [(k:Int)].length=1 from rfl]at SA;have BR:=hid (HB.out.trans (BA.mono HB.out.size));have XR:=hid (HX.out.then BA);clear BA HX HB;go_wp2_with fail
    go_at_call 94
    refine SA.out.mono ?_;rintro en w2 ⟨rb2,rfl,hask,_,h⟩;have B2:=hid (BR.out.trans (h.mono BR.out.size));have X2:=hid (XR.out.then h);have CC:=hid (CP.out rb2 w2 B2.out hask);clear hask h SA BR XR CP a0 a1 r0;go_wp2_with fail
    go_at_fn g
    refine CC.out.mono ?_;rintro en w3 ⟨rfl,h⟩;have B3:=hid (B2.out.trans (h.mono B2.out.size));have X3:=hid (X2.out.then h);clear h CC B2 X2;cases pk
    ·have HF2:=hid (HF.out rfl);go_wp2_with fail
     go_roundw
     case rel=>exact⟨k+1,by omega,by go_num,HF2,B3.out,X3.out⟩
     case measure=>simp[intOf];omega
    ·have HT2:=hid (HT.out rfl);go_wp2_with fail
     go_ret;exact⟨by rw[HT2.out];rfl,B3.out⟩
  ·obtain rfl:k=N:=by omega
   have i1:¬(k:Int)<(k:Int):=by omega
   have HE:=hid (show Tr.anyN k (fun n=>f n && p n)=false from by
    rw[Bool.eq_false_iff];intro h;obtain⟨j,hj,e⟩:=Tr.anyN_iff.1 h;rw[HS.out j hj]at e
    cases e)
   go_wp2_with fail
   go_ret;exact⟨by rw[HE.out];rfl,HB.out⟩
end
end
section
section
variable {T X N:Nat}{L:List Pk}
def RBx (b:Nat)(R:RV)(W:World) : Prop := b<W.heap.size/\W.cell? ⟨b,0,none⟩=some (.int .u8 R.kind)/\W.cell? ⟨b,1,none⟩=some (.string (bs R.dep.name))/\W.cell? ⟨b,2,none⟩=some (.int .u8 R.dep.op)/\W.cell? ⟨b,3,none⟩=some (.int .i64 R.dep.evr.epoch)/\W.cell? ⟨b,4,none⟩=some (.string (bs R.dep.evr.ver))/\W.cell? ⟨b,5,none⟩=some (.string (bs R.dep.evr.rel))/\W.cell? ⟨b,6,none⟩=some (.slice R.addr R.args.length R.cap)
theorem RBx.then {b:Nat}{R:RV}{W W':World}(h:RBx b R W)(hb:Below W.heap.size W W') : RBx b R W' := by
 obtain⟨hl,c0,c1,c2,c3,c4,c5,c6⟩:=h;exact⟨Nat.lt_of_lt_of_le hl hb.size,(hb.cell (p:=⟨b,0,none⟩) hl).trans c0,(hb.cell (p:=⟨b,1,none⟩) hl).trans c1,(hb.cell (p:=⟨b,2,none⟩) hl).trans c2,(hb.cell (p:=⟨b,3,none⟩) hl).trans c3,(hb.cell (p:=⟨b,4,none⟩) hl).trans c4,(hb.cell (p:=⟨b,5,none⟩) hl).trans c5,(hb.cell (p:=⟨b,6,none⟩) hl).trans c6⟩
theorem RBx.new (R:RV)(W:World) : RBx W.heap.size R (W.alloc (.cells #[.int .u8 R.kind,.string (bs R.dep.name),.int .u8 R.dep.op,.int .i64 R.dep.evr.epoch,.string (bs R.dep.evr.ver),.string (bs R.dep.evr.rel),.slice R.addr R.args.length R.cap] 39)) := ⟨by simp,by simp[go_sem],by simp[go_sem],by simp[go_sem],by simp[go_sem],by simp[go_sem],by simp[go_sem],by simp[go_sem]⟩
theorem qTB (R:RV)(hn:R.args.length<=1000000)(hR:∀a∈R.args,IsOk T X N L a)(b rb:Nat)(f:Nat->Bool)(W:World)(hA:AskT T X N rb L f W)(hT:RTree W.heap.size W R)(hb:RBx b R W) :
  Calls Tryz.prog 186 #[askW T rb N,.pointer (some ⟨b,0,none⟩)] W fun e w'=>e=.returned (.bool (R.args.all fun a=>Tr.sat N (pvL L) a.tree f))/\Below W.heap.size W w':=by
 have b1:=(Below.refl W.heap.size W).alloc lR (.cells #[.pointer (some ⟨T,0,none⟩),.slice (some ⟨rb,0,none⟩) N N] 145);have AN:=hid (qPS R hn hR rb f _ (hA.then b1) ((hT.keeps b1).more b1.size));obtain⟨_,a0,a1⟩:=ABox.new T rb N W 145;obtain⟨_,c0,c1,c2,c3,c4,c5,c6⟩:=hb.then b1;unfold askW at *;unfold RV.val at AN;have B1:=hid b1;clear hA hT hR hb b1 hn;generalize (R.args.all fun a=>Tr.sat N (pvL L) a.tree f)=r at *
 go_enter Tryz.func186,Tryz.ntmps186
 go_wp2_with fail
 go_at_call 137
 refine AN.out.mono ?_;rintro e w2 ⟨rfl,h⟩;have hB:=B1.out.trans (h.mono (by simp));clear h;go_wp2_with fail
 go_ret;exact⟨rfl,hB⟩
theorem qVQ (R:RV)(hn:R.args.length<=1000000)(hR:∀a∈R.args,IsOk T X N L a)(rb:Nat)(f:Nat->Bool)(W:World)(hA:AskT T X N rb L f W)(hT:RTree W.heap.size W R) :
  Calls Tryz.prog 141 #[askW T rb N,R.val] W fun e w'=>e=.returned (.bool (Tr.anyN N fun n=>f n && R.args.all fun a=>Tr.sat N (pvL L) a.tree (Tr.one n)))/\Below W.heap.size W w':=by
 have b1:=(Below.refl W.heap.size W).alloc lR (.cells #[.pointer (some ⟨T,0,none⟩),.slice (some ⟨rb,0,none⟩) N N] 145);have b2:=b1.alloc (by simp) (.cells #[.int .u8 R.kind,.string (bs R.dep.name),.int .u8 R.dep.op,.int .i64 R.dep.evr.epoch,.string (bs R.dep.evr.ver),.string (bs R.dep.evr.rel),.slice R.addr R.args.length R.cap] 39);have bb:=(Below.refl _ (W.alloc (.cells #[.pointer (some ⟨T,0,none⟩),.slice (some ⟨rb,0,none⟩) N N] 145))).alloc lR (.cells #[.int .u8 R.kind,.string (bs R.dep.name),.int .u8 R.dep.op,.int .i64 R.dep.evr.epoch,.string (bs R.dep.evr.ver),.string (bs R.dep.evr.rel),.slice R.addr R.args.length R.cap] 39);have RB:=RBx.new R (W.alloc (.cells #[.pointer (some ⟨T,0,none⟩),.slice (some ⟨rb,0,none⟩) N N] 145));rw[World.size_alloc]at RB;obtain⟨_,a0,a1⟩:=(ABox.new T rb N W 145).then bb;have ON:=hid (qRH (T:=T) (X:=X) (L:=L) 186 (fun _ _=>rfl) #[.pointer (some ⟨W.heap.size+1,0,none⟩)] (fun n=>R.args.all fun a=>Tr.sat N (pvL L) a.tree (Tr.one n)) rb f _ (hA.then b2) (fun n _ rb' W' hB hA' =>
  qTB R hn hR (W.heap.size+1) rb' (Tr.one n) W' hA' ((hT.keeps (b2.trans (hB.mono b2.size))).more (b2.trans (hB.mono b2.size)).size) (RB.then hB)))
 unfold askW at *;unfold RV.val;have B2:=hid b2;clear hA hT hR b1 b2 bb RB hn;generalize (Tr.anyN N fun n=>f n && R.args.all fun a=>Tr.sat N (pvL L) a.tree (Tr.one n))=r at *
 go_enter Tryz.func141,Tryz.ntmps141
 go_wp2_with fail
 go_at_call 185
 refine ON.out.mono ?_;rintro e w2 ⟨rfl,h⟩;have hB:=B2.out.trans (h.mono B2.out.size);clear h;go_wp2_with fail
 go_ret;exact⟨rfl,hB⟩
end
end
section
def qPG (T rb N rx b o c o0:Nat)(S0:RV)(r0:Bool)(i:Nat)(v:Value)(W:World) : Prop := match i with
 |0=>v=.agg #[.pointer (some ⟨T,0,none⟩),.slice (some ⟨rb,0,none⟩) N N]
 |1=>v=.pointer (some ⟨rx,6,none⟩)
 |2=>v=.slice (some ⟨b,o,none⟩) 2 c
 |3=>v=.pointer (some ⟨b,o0,none⟩)
 |4=>v=.agg #[.int .u8 S0.kind,.string (bs S0.dep.name),.int .u8 S0.dep.op,.int .i64 S0.dep.evr.epoch,.string (bs S0.dep.evr.ver),.string (bs S0.dep.evr.rel),.slice S0.addr S0.args.length S0.cap]
 | 5|6=>v=.bool false
 | 7|8|9|10|11|12|13=>v=undef
 |14=>v=.bool false
 | _=>False
theorem qPH (T rb N rx b o c o0:Nat)(S0:RV)(r0:Bool):∀i v w w',qPG T rb N rx b o c o0 S0 r0 i v w->Below w.heap.size w w'->qPG T rb N rx b o c o0 S0 r0 i v w' := by
 intro i v w w' h hb
 match i,h with
 |0,h|1,h|2,h|3,h|4,h|5,h|6,h|7,h|8,h|9,h|10,h|11,h|12,h|13,h|14,h=>exact h
 | (k+15),h=>exact h.elim
def qKL (T rb N rx b o c o0 o1:Nat)(S0 S1:RV)(r0 r1:Bool)(i:Nat)(v:Value)(W:World) : Prop := match i with
 |0=>v=.agg #[.pointer (some ⟨T,0,none⟩),.slice (some ⟨rb,0,none⟩) N N]
 |1=>v=.pointer (some ⟨rx,6,none⟩)
 |2=>v=.slice (some ⟨b,o,none⟩) 2 c
 |3=>v=.pointer (some ⟨b,o0,none⟩)
 |4=>v=.agg #[.int .u8 S0.kind,.string (bs S0.dep.name),.int .u8 S0.dep.op,.int .i64 S0.dep.evr.epoch,.string (bs S0.dep.evr.ver),.string (bs S0.dep.evr.rel),.slice S0.addr S0.args.length S0.cap]
 | 5|6=>v=.bool true
 |7=>v=.agg #[.pointer (some ⟨T,0,none⟩),.slice (some ⟨rb,0,none⟩) N N]
 |8=>v=.pointer (some ⟨rx,6,none⟩)
 |9=>v=.slice (some ⟨b,o,none⟩) 2 c
 |10=>v=.pointer (some ⟨b,o1,none⟩)
 |11=>v=.agg #[.int .u8 S1.kind,.string (bs S1.dep.name),.int .u8 S1.dep.op,.int .i64 S1.dep.evr.epoch,.string (bs S1.dep.evr.ver),.string (bs S1.dep.evr.rel),.slice S1.addr S1.args.length S1.cap]
 |12=>v=.bool r1
 |13=>v=.bool (!r1)
 |14=>v=.bool (!r1)
 | _=>False
theorem qPI (T rb N rx b o c o0 o1:Nat)(S0 S1:RV)(r0 r1:Bool):∀i v w w',qKL T rb N rx b o c o0 o1 S0 S1 r0 r1 i v w->Below w.heap.size w w'->qKL T rb N rx b o c o0 o1 S0 S1 r0 r1 i v w' := by
 intro i v w w' h hb
 match i,h with
 |0,h|1,h|2,h|3,h|4,h|5,h|6,h|7,h|8,h|9,h|10,h|11,h|12,h|13,h|14,h=>exact h
 | (k+15),h=>exact h.elim
section
variable {T X N:Nat}{L:List Pk}
theorem qKQ (R:RV)(hn:R.args.length=2)(hR:∀a∈R.args,IsOk T X N L a)(rx9 rb:Nat)(f:Nat->Bool)(U:World)(hA:AskT T X N rb L f U)(hT:RTree U.heap.size U R)(hb:RBx rx9 R U) :
  Calls Tryz.prog 187 #[askW T rb N,.pointer (some ⟨rx9,0,none⟩)] U fun e w'=>e=.returned (.bool (Tr.sat N (pvL L) (R.args[0]'(by omega)).tree f && !Tr.sat N (pvL L) (R.args[1]'(by omega)).tree f))/\Below U.heap.size U w':=by
 have b1:=(Below.refl U.heap.size U).alloc lR (.cells #[.pointer (some ⟨T,0,none⟩),.slice (some ⟨rb,0,none⟩) N N] 145);have a1:=ABox.new T rb N U 145;obtain⟨b,o,hA0,_⟩:=(show RRow U.heap.size U R.addr R.cap R.args from⟨hT.row,hT.sub⟩).at_ (k:=0) (by omega)
 have IS0:=hid (fun W' (hb:Below U.heap.size U W')=>hR (R.args[0]'(by omega)) (List.getElem_mem _) rb f W' (hA.then hb) (((hT.sub _ (List.getElem_mem _)).keeps hb).more hb.size));have RC0:=hid (fun W' (hb:Below U.heap.size U W')=>qAV (((show RRow U.heap.size U R.addr R.cap R.args from⟨hT.row,hT.sub⟩).below hb)) hA0 (k:=0) (by omega));obtain⟨o0,ho0⟩:∃o0,o0=o+0 * 7:=⟨_,rfl⟩;rw[<- ho0]at RC0;have HO0:=hid ho0;have IS1:=hid (fun W' (hb:Below U.heap.size U W')=>hR (R.args[1]'(by omega)) (List.getElem_mem _) rb f W' (hA.then hb) (((hT.sub _ (List.getElem_mem _)).keeps hb).more hb.size));have RC1:=hid (fun W' (hb:Below U.heap.size U W')=>qAV (((show RRow U.heap.size U R.addr R.cap R.args from⟨hT.row,hT.sub⟩).below hb)) hA0 (k:=1) (by omega));obtain⟨o1,ho1⟩:∃o1,o1=o+1 * 7:=⟨_,rfl⟩;rw[<- ho1]at RC1;have HO1:=hid ho1;unfold askW RV.val at IS0 IS1;unfold askW;have x6:=hb.2.2.2.2.2.2.2;have xl:=hb.1;clear hA hT hR hb;generalize (R.args[0]'(by omega))=S0 at *;generalize Tr.sat N (pvL L) S0.tree f=r0 at *;generalize (R.args[1]'(by omega))=S1 at *;generalize Tr.sat N (pvL L) S1.tree f=r1 at *;clear ho0 ho1;rw[hA0,hn]at x6;clear hn;generalize R.cap=c at *
 go_enter Tryz.func187,Tryz.ntmps187
 go_wp2_with fail
 obtain⟨V,hV⟩:∃V,V=U.alloc (.cells #[.pointer (some ⟨T,0,none⟩),.slice (some ⟨rb,0,none⟩) N N] 145):=⟨_,rfl⟩;rw[<- hV]at a1 b1 |-;have AX:=hid a1;have BZ:=hid b1;have RXL:=hid (show rx9<V.heap.size from Nat.lt_of_lt_of_le xl b1.size);have RX6:=hid ((b1.cell (p:=⟨rx9,6,none⟩) xl).trans x6);clear hV a1 b1 x6 xl;have BV:=hid (Below.refl V.heap.size V);have IS0:=hid (fun W' (hb:Below V.heap.size V W')=>IS0.out W' (BZ.out.trans (hb.mono BZ.out.size)));have RC0:=hid (fun W' (hb:Below V.heap.size V W')=>RC0.out W' (BZ.out.trans (hb.mono BZ.out.size)));have IS1:=hid (fun W' (hb:Below V.heap.size V W')=>IS1.out W' (BZ.out.trans (hb.mono BZ.out.size)));have RC1:=hid (fun W' (hb:Below V.heap.size V W')=>RC1.out W' (BZ.out.trans (hb.mono BZ.out.size)));cases r0
 ·refine qA6 (PP:=qPG T rb N (rx9) b o c o0 S0 false) 15 rfl (by kernel_rfl) (by kernel_rfl) (by decide) (by decide) (qPH T rb N (rx9) b o c o0 S0 false) (fun _=>undef) (by simp[qA4,gQ]) ?_ ?_
  ·intro i o vs W hi ho he hBW K hK;simp only[gT,qA4,gQ]at hK |-;have BW:=hid (BV.out.trans (hBW.mono BV.out.size));have AXW:=hid (AX.out.then BW.out);have R6W:=hid ((BW.out.cell (p:=⟨rx9,6,none⟩) RXL.out).trans RX6.out);obtain rfl|rfl|rfl|rfl|rfl|rfl|rfl|rfl|rfl|rfl|rfl|rfl|rfl|rfl|rfl:=c15_ hi<;>simp only[gE]at ho<;>subst ho
   ·rw[if_pos (by rfl)];simp only[gQ]at hK;have HK:=hid hK;clear hK he hi hBW;have a0:=AXW.out.2.1;have a1:=AXW.out.2.2;go_simp;exact HK.out _ _ rfl bR
   ·rw[if_pos (by rfl)];simp only[gQ]at hK;have HK:=hid hK;clear hK he hi hBW;go_simp;exact HK.out _ _ (by first|rfl|simp[qPG]) bR
   ·have e1:vs 1=_:=dq he 1;rw[e1]at hK |-;rw[if_pos (by rfl)];simp only[gQ]at hK;have HK:=hid hK;clear hK he hi hBW;have cx:=R6W.out;go_simp;exact HK.out _ _ rfl bR
   ·have e2:vs 2=_:=dq he 2;rw[e2]at hK |-;rw[if_pos (by rfl)];simp only[gQ]at hK;have HK:=hid hK;clear hK he hi hBW;go_simp;exact HK.out _ _ (by rw[HO0.out];rfl) bR
   ·have e3:vs 3=_:=dq he 3;rw[e3]at hK |-;rw[if_pos (by rfl)];simp only[gQ]at hK;have HK:=hid hK;clear hK he hi hBW;obtain⟨d0,d1,d2,d3,d4,d5,d6⟩:=RC0.out W BW.out;go_simp;exact HK.out _ _ rfl bR
   ·have e0:vs 0=_:=dq he 0;rw[e0]at hK |-;have e4:vs 4=_:=dq he 4;rw[e4]at hK |-;rw[if_pos (by rfl)];simp only[gQ]at hK;have HK:=hid hK;clear hK he hi hBW;have ISW:=IS0.out W BW.out;go_simp;go_at_call 95
    refine ISW.mono ?_;rintro en w9 ⟨rfl,h⟩;go_simp;exact HK.out _ _ rfl h
   ·have e5:vs 5=_:=dq he 5;rw[e5]at hK |-;rw[if_pos (by rfl)];simp only[gQ]at hK;have HK:=hid hK;clear hK he hi hBW;go_simp;exact HK.out _ _ (by first|rfl|simp[qPG]) bR
   iterate 2 ·have e6:vs 6=_:=gd he 6;rw[e6]at hK |-;refine wN bF ?_;exact hK _ _ rfl bR
   ·have e8:vs 8=_:=dq he 8;rw[e8]at hK |-;have e6:vs 6=_:=gd he 6;rw[e6]at hK |-;refine wN bF ?_;exact hK _ _ rfl bR
   ·have e9:vs 9=_:=dq he 9;rw[e9]at hK |-;have e6:vs 6=_:=gd he 6;rw[e6]at hK |-;refine wN bF ?_;exact hK _ _ rfl bR
   ·have e10:vs 10=_:=dq he 10;rw[e10]at hK |-;have e6:vs 6=_:=gd he 6;rw[e6]at hK |-;refine wN bF ?_;exact hK _ _ rfl bR
   ·have e7:vs 7=_:=dq he 7;rw[e7]at hK |-;have e11:vs 11=_:=dq he 11;rw[e11]at hK |-;have e6:vs 6=_:=gd he 6;rw[e6]at hK |-;refine wN bF ?_;exact hK _ _ rfl bR
   ·have e12:vs 12=_:=dq he 12;rw[e12]at hK |-;have e6:vs 6=_:=gd he 6;rw[e6]at hK |-;refine wN bF ?_;exact hK _ _ rfl bR
   ·have e6:vs 6=_:=dq he 6;rw[e6]at hK |-;have e13:vs 13=_:=dq he 13;rw[e13]at hK |-;rw[if_pos (by rfl)];simp only[gQ]at hK;have HK:=hid hK;clear hK he hi hBW;go_simp;exact HK.out _ _ (by first|rfl|simp[qPG]) bR
  ·intro vs W hall hBW;have eo:vs 14=.bool false:=hall 14 (by decide);simp only[gT,qA4,qAB,qAA,gP];rw[eo];generalize vs 0=y0,vs 1=y1,vs 2=y2,vs 3=y3,vs 4=y4,vs 5=y5,vs 6=y6,vs 7=y7,vs 8=y8,vs 9=y9,vs 10=y10,vs 11=y11,vs 12=y12,vs 13=y13;have BX:=hid (BV.out.trans (hBW.mono BV.out.size));clear hall hBW eo;go_wp2_with fail
   go_ret;exact⟨by simp,BZ.out.trans (BX.out.mono BZ.out.size)⟩
 ·refine qA6 (PP:=qKL T rb N (rx9) b o c o0 o1 S0 S1 true r1) 15 rfl (by kernel_rfl) (by kernel_rfl) (by decide) (by decide) (qPI T rb N (rx9) b o c o0 o1 S0 S1 true r1) (fun _=>undef) (by simp[qA4,gQ]) ?_ ?_
  ·intro i o vs W hi ho he hBW K hK;simp only[gT,qA4,gQ]at hK |-;have BW:=hid (BV.out.trans (hBW.mono BV.out.size));have AXW:=hid (AX.out.then BW.out);have R6W:=hid ((BW.out.cell (p:=⟨rx9,6,none⟩) RXL.out).trans RX6.out);obtain rfl|rfl|rfl|rfl|rfl|rfl|rfl|rfl|rfl|rfl|rfl|rfl|rfl|rfl|rfl:=c15_ hi<;>simp only[gE]at ho<;>subst ho
   ·rw[if_pos (by rfl)];simp only[gQ]at hK;have HK:=hid hK;clear hK he hi hBW;have a0:=AXW.out.2.1;have a1:=AXW.out.2.2;go_simp;exact HK.out _ _ rfl bR
   ·rw[if_pos (by rfl)];simp only[gQ]at hK;have HK:=hid hK;clear hK he hi hBW;go_simp;exact HK.out _ _ (by first|rfl|simp[qKL]) bR
   ·have e1:vs 1=_:=dq he 1;rw[e1]at hK |-;rw[if_pos (by rfl)];simp only[gQ]at hK;have HK:=hid hK;clear hK he hi hBW;have cx:=R6W.out;go_simp;exact HK.out _ _ rfl bR
   ·have e2:vs 2=_:=dq he 2;rw[e2]at hK |-;rw[if_pos (by rfl)];simp only[gQ]at hK;have HK:=hid hK;clear hK he hi hBW;go_simp;exact HK.out _ _ (by rw[HO0.out];rfl) bR
   ·have e3:vs 3=_:=dq he 3;rw[e3]at hK |-;rw[if_pos (by rfl)];simp only[gQ]at hK;have HK:=hid hK;clear hK he hi hBW;obtain⟨d0,d1,d2,d3,d4,d5,d6⟩:=RC0.out W BW.out;go_simp;exact HK.out _ _ rfl bR
   ·have e0:vs 0=_:=dq he 0;rw[e0]at hK |-;have e4:vs 4=_:=dq he 4;rw[e4]at hK |-;rw[if_pos (by rfl)];simp only[gQ]at hK;have HK:=hid hK;clear hK he hi hBW;have ISW:=IS0.out W BW.out;go_simp;go_at_call 95
    refine ISW.mono ?_;rintro en w9 ⟨rfl,h⟩;go_simp;exact HK.out _ _ rfl h
   ·have e5:vs 5=_:=dq he 5;rw[e5]at hK |-;rw[if_pos (by rfl)];simp only[gQ]at hK;have HK:=hid hK;clear hK he hi hBW;go_simp;exact HK.out _ _ (by first|rfl|simp[qKL]) bR
   ·have e6:vs 6=_:=gd he 6;rw[e6]at hK |-;rw[if_pos (by rfl)];simp only[gQ]at hK;have HK:=hid hK;clear hK he hi hBW;have a0:=AXW.out.2.1;have a1:=AXW.out.2.2;go_simp;exact HK.out _ _ rfl bR
   ·have e6:vs 6=_:=gd he 6;rw[e6]at hK |-;rw[if_pos (by rfl)];simp only[gQ]at hK;have HK:=hid hK;clear hK he hi hBW;go_simp;exact HK.out _ _ (by first|rfl|simp[qKL]) bR
   ·have e8:vs 8=_:=dq he 8;rw[e8]at hK |-;have e6:vs 6=_:=gd he 6;rw[e6]at hK |-;rw[if_pos (by rfl)];simp only[gQ]at hK;have HK:=hid hK;clear hK he hi hBW;have cx:=R6W.out;go_simp;exact HK.out _ _ rfl bR
   ·have e9:vs 9=_:=dq he 9;rw[e9]at hK |-;have e6:vs 6=_:=gd he 6;rw[e6]at hK |-;rw[if_pos (by rfl)];simp only[gQ]at hK;have HK:=hid hK;clear hK he hi hBW;go_simp;exact HK.out _ _ (by rw[HO1.out];rfl) bR
   ·have e10:vs 10=_:=dq he 10;rw[e10]at hK |-;have e6:vs 6=_:=gd he 6;rw[e6]at hK |-;rw[if_pos (by rfl)];simp only[gQ]at hK;have HK:=hid hK;clear hK he hi hBW;obtain⟨d0,d1,d2,d3,d4,d5,d6⟩:=RC1.out W BW.out;go_simp;exact HK.out _ _ rfl bR
   ·have e7:vs 7=_:=dq he 7;rw[e7]at hK |-;have e11:vs 11=_:=dq he 11;rw[e11]at hK |-;have e6:vs 6=_:=gd he 6;rw[e6]at hK |-;rw[if_pos (by rfl)];simp only[gQ]at hK;have HK:=hid hK;clear hK he hi hBW;have ISW:=IS1.out W BW.out;go_simp;go_at_call 95
    refine ISW.mono ?_;rintro en w9 ⟨rfl,h⟩;go_simp;exact HK.out _ _ rfl h
   ·have e12:vs 12=_:=dq he 12;rw[e12]at hK |-;have e6:vs 6=_:=gd he 6;rw[e6]at hK |-;rw[if_pos (by rfl)];simp only[gQ]at hK;have HK:=hid hK;clear hK he hi hBW;go_simp;exact HK.out _ _ (by first|rfl|simp[qKL]) bR
   ·have e6:vs 6=_:=dq he 6;rw[e6]at hK |-;have e13:vs 13=_:=dq he 13;rw[e13]at hK |-;rw[if_pos (by rfl)];simp only[gQ]at hK;have HK:=hid hK;clear hK he hi hBW;go_simp;exact HK.out _ _ (by first|rfl|simp[qKL]) bR
  ·intro vs W hall hBW;have eo:vs 14=.bool (!r1):=hall 14 (by decide);simp only[gT,qA4,qAB,qAA,gP];rw[eo];generalize vs 0=y0,vs 1=y1,vs 2=y2,vs 3=y3,vs 4=y4,vs 5=y5,vs 6=y6,vs 7=y7,vs 8=y8,vs 9=y9,vs 10=y10,vs 11=y11,vs 12=y12,vs 13=y13;have BX:=hid (BV.out.trans (hBW.mono BV.out.size));clear hall hBW eo;go_wp2_with fail
   go_ret;exact⟨by simp,BZ.out.trans (BX.out.mono BZ.out.size)⟩
theorem qME (R:RV)(hn:R.args.length=2)(hR:∀a∈R.args,IsOk T X N L a)(rb:Nat)(f:Nat->Bool)(W:World)(hA:AskT T X N rb L f W)(hT:RTree W.heap.size W R) :
  Calls Tryz.prog 142 #[askW T rb N,R.val] W fun e w'=>e=.returned (.bool (Tr.anyN N fun n=>f n && (Tr.sat N (pvL L) (R.args[0]'(by omega)).tree (Tr.one n) && !Tr.sat N (pvL L) (R.args[1]'(by omega)).tree (Tr.one n))))/\Below W.heap.size W w':=by
 have b1:=(Below.refl W.heap.size W).alloc lR (.cells #[.pointer (some ⟨T,0,none⟩),.slice (some ⟨rb,0,none⟩) N N] 145);have b2:=b1.alloc (by simp) (.cells #[.int .u8 R.kind,.string (bs R.dep.name),.int .u8 R.dep.op,.int .i64 R.dep.evr.epoch,.string (bs R.dep.evr.ver),.string (bs R.dep.evr.rel),.slice R.addr R.args.length R.cap] 39);have bb:=(Below.refl _ (W.alloc (.cells #[.pointer (some ⟨T,0,none⟩),.slice (some ⟨rb,0,none⟩) N N] 145))).alloc lR (.cells #[.int .u8 R.kind,.string (bs R.dep.name),.int .u8 R.dep.op,.int .i64 R.dep.evr.epoch,.string (bs R.dep.evr.ver),.string (bs R.dep.evr.rel),.slice R.addr R.args.length R.cap] 39);have RB:=RBx.new R (W.alloc (.cells #[.pointer (some ⟨T,0,none⟩),.slice (some ⟨rb,0,none⟩) N N] 145));rw[World.size_alloc]at RB;obtain⟨_,a0,a1⟩:=(ABox.new T rb N W 145).then bb;have ON:=hid (qRH (T:=T) (X:=X) (L:=L) 187 (fun _ _=>rfl) #[.pointer (some ⟨W.heap.size+1,0,none⟩)] (fun n=>(Tr.sat N (pvL L) (R.args[0]'(by omega)).tree (Tr.one n) && !Tr.sat N (pvL L) (R.args[1]'(by omega)).tree (Tr.one n))) rb f _ (hA.then b2) (fun n _ rb' W' hB hA' =>
  qKQ R hn hR (W.heap.size+1) rb' (Tr.one n) W' hA' ((hT.keeps (b2.trans (hB.mono b2.size))).more (b2.trans (hB.mono b2.size)).size) (RB.then hB)))
 unfold askW at *;unfold RV.val;have B2:=hid b2;clear hA hT hR b1 b2 bb RB;generalize (Tr.anyN N fun n=>f n && (Tr.sat N (pvL L) (R.args[0]'(by omega)).tree (Tr.one n) && !Tr.sat N (pvL L) (R.args[1]'(by omega)).tree (Tr.one n)))=r at *;clear hn
 go_enter Tryz.func142,Tryz.ntmps142
 go_wp2_with fail
 go_at_call 185
 refine ON.out.mono ?_;rintro e w2 ⟨rfl,h⟩;have hB:=B2.out.trans (h.mono B2.out.size);clear h;go_wp2_with fail
 go_ret;exact⟨rfl,hB⟩
theorem qPZ (b rb:Nat)(f:Nat->Bool)(W:World)(n:Nat)(hn:n<N)(hA:AskT T X N rb L f W)(hb:ABox b T rb N W) :
  Calls Tryz.prog 183 #[.int .i64 (n:Int),.pointer (some ⟨b,0,none⟩)] W fun e w'=>e=.returned (.bool (f n))/\Below W.heap.size W w':=by
 have r0:=(hA.row n hn).1;obtain⟨_,a0,a1⟩:=hb;have i0:(0:Int)<=(n:Int):=by omega
 have i1:(n:Int)<(N:Int):=by omega
 generalize f n=fn at *;clear hA hn
 go_enter Tryz.func183,Tryz.ntmps183
 go_wp2_with fail
 go_ret;exact⟨rfl,Below.refl _ _⟩
end
