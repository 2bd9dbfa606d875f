/- BRows, TrMem, TrNew, TrLit, TrTwo, TrIs -/
import Derived.Test.YteobmfpbgnmffaaGreatDoorT25
set_option linter.unusedVariables false
set_option maxHeartbeats 16000000
set_option maxRecDepth 100000
open Go.Lib (hid)
set_option linter.unusedSimpArgs false
namespace Go.Proofs.YteobmfpbgnmffaaGreatDoor
open Go.RowKit Go.Shelf
section
theorem qIM {P:Program}(t e:TypeId)(i:TypeInfo)(z:Value)(ht:P.underlying t=some (.slice e))(hi:P.info? e=some i)(hz:i.zero=some z)
  (kl kc:IntKind) (n:Nat) (hbytes:i.bytes * n<=281474976710656) (h63:n<=9223372036854775807) (w:World) :
  (Instr.makeSlice t (.int kl (n:Int)) (.int kc (n:Int))).run P w=.ok (.slice (some ⟨w.heap.size,0,none⟩) n n) (w.alloc (.cells (madeCells z.cells (n * i.size)) e)):=by
 have hb:(i.bytes:Int) * (n:Int)<=281474976710656:=by
  have h:((i.bytes * n:Nat):Int)<=281474976710656:=by omega
  rwa [Int.natCast_mul]at h
 have hr:=run_make (P:=P) w t e i z ht hi hz kl kc n n (by omega) (by omega) hb (by omega);simp only[Int.toNat_natCast]at hr;exact hr
theorem qU9 : (Tryz.prog.info? 4).map (fun i=>(i.zero,i.size,i.bytes))=some (some (.bool false),1,1) := by kernel_rfl
theorem qOI (n:Nat)(hn:n<=1000000)(w:World) : (Instr.makeSlice 131 (.int .i64 (n:Int)) (.int .i64 (n:Int))).run Tryz.prog w=.ok (.slice (some ⟨w.heap.size,0,none⟩) n n) (w.alloc (.cells (madeCells #[.bool false] n) 4)) := by
 obtain⟨i0,hi,hz0,hz1,hz2⟩:=info_parts qU9;have h:=qIM (P:=Tryz.prog) 131 4 i0 (.bool false) Tryz.underlying131 hi hz0 .i64 .i64 n (by rw[hz2];omega) (by omega) w;rw[hz1,Nat.mul_one]at h;exact h
def BRow (rb n:Nat)(f:Nat->Bool)(W:World) : Prop := ∀i,i<n->W.cell? ⟨rb,i,none⟩=some (.bool (f i))/\W.frozen? ⟨rb,i,none⟩=false
theorem BRow.then {rb n:Nat}{f:Nat->Bool}{W W':World}(h:BRow rb n f W)(hb:Below W.heap.size W W') : BRow rb n f W' := fun i hi=>by
 obtain⟨h1,h2⟩:=h i hi;have hl:=World.block_lt_of_cell? W _ h1;exact⟨(hb.cell hl).trans h1,(hb.frozen hl).trans h2⟩
theorem BRow.made (n:Nat)(W:World)(t:TypeId) : BRow W.heap.size n (fun _=>false) (W.alloc (.cells (madeCells #[.bool false] n) t)) := fun i hi =>
 ⟨(World.cell?_alloc_at _ _ _ _ rfl).trans (by simp[madeCells,hi,Nat.mod_one]),by simp[go_sem]⟩
theorem BRow.set {rb n:Nat}{f:Nat->Bool}{W:World}(h:BRow rb n f W){k:Nat}(hk:k<n)(b:Bool) : BRow rb n (fun i=>if i=k then b else f i) (W.setCell ⟨rb,k,none⟩ (.bool b)) := fun i hi=>by
 refine⟨?_,(World.frozen?_setCell _ _ _ _).trans (h i hi).2⟩;show _=some (Value.bool (if i=k then b else f i));by_cases e:i=k
 ·subst e;rw[if_pos rfl];exact qAY (h i hi).1
 ·rw[if_neg e];exact (qA0 (fun h2=>e (by simp only[Addr.mk.injEq]at h2;exact h2.2.1.symm))).trans (h i hi).1
theorem BRow.congr {rb n:Nat}{f f':Nat->Bool}{W:World}(h:BRow rb n f W)(hf:∀i,i<n->f i=f' i) : BRow rb n f' W := fun i hi=>by rw[<- hf i hi];exact h i hi
end
section
structure TruthAt (T X N:Nat)(L:List Pk)(W:World) : Prop where
 lt:T<W.heap.size
 c0:W.cell? ⟨T,0,none⟩=some (.pointer (some ⟨X,0,none⟩))
 c1:W.cell? ⟨T,1,none⟩=some (.int .i64 (N:Int))
 ix:IndexAt X L (idxF L) W
 len:L.length=N
 may:∀q∈L,mayP q=true
 hN:N<=1000
theorem TruthAt.then {T X N:Nat}{L:List Pk}{W W':World}(h:TruthAt T X N L W)(hb:Below W.heap.size W W') : TruthAt T X N L W' :=
 { h with lt:=Nat.lt_of_lt_of_le h.lt hb.size,c0:=(hb.cell (p:=⟨T,0,none⟩) h.lt).trans h.c0,c1:=(hb.cell (p:=⟨T,1,none⟩) h.lt).trans h.c1,ix:=h.ix.then hb }
def askW (T rb N:Nat) : Value := .agg #[.pointer (some ⟨T,0,none⟩),.slice (some ⟨rb,0,none⟩) N N]
structure AskT (T X N rb:Nat)(L:List Pk)(f:Nat->Bool)(W:World) : Prop where
 tr:TruthAt T X N L W
 hr:rb<W.heap.size
 row:BRow rb N f W
theorem AskT.then {T X N rb:Nat}{L:List Pk}{f:Nat->Bool}{W W':World}(h:AskT T X N rb L f W)(hb:Below W.heap.size W W') : AskT T X N rb L f W' := ⟨h.tr.then hb,Nat.lt_of_lt_of_le h.hr hb.size,h.row.then hb⟩
structure StA (w:World)(T N:Nat)(f:Nat->Bool)(W:World) : Prop where
 old:Below w.heap.size w W
 r0:W.cell? ⟨w.heap.size,0,none⟩=some (.pointer none)
 r1:W.cell? ⟨w.heap.size,1,none⟩=some (.slice none 0 0)
 q0:W.frozen? ⟨w.heap.size,0,none⟩=false
 q1:W.frozen? ⟨w.heap.size,1,none⟩=false
 b0:W.cell? ⟨w.heap.size+1+1,0,none⟩=some (.pointer (some ⟨T,0,none⟩))
 b1:W.cell? ⟨w.heap.size+1+1,1,none⟩=some (.slice (some ⟨w.heap.size+1,0,none⟩) N N)
 row:BRow (w.heap.size+1) N f W
 sz:w.heap.size+1+1<W.heap.size
section
variable {w W:World}{T N:Nat}{f f':Nat->Bool}
theorem StA.set (h:StA w T N f W){k:Nat}(hk:k<N) : StA w T N (fun i=>if i=k then true else f i) (W.setCell ⟨w.heap.size+1,k,none⟩ (.bool true)) :=
 ⟨h.old.setCell (p:=⟨w.heap.size+1,k,none⟩) (by simp) _,(qA0 (by simp)).trans h.r0,(qA0 (by simp)).trans h.r1,(World.frozen?_setCell _ _ _ _).trans h.q0,(World.frozen?_setCell _ _ _ _).trans h.q1,(qA0 (by simp)).trans h.b0,(qA0 (by simp)).trans h.b1,h.row.set hk true,by simp[World.setCell];exact h.sz⟩
theorem StA.congr (h:StA w T N f W)(hf:∀i,i<N->f i=f' i) : StA w T N f' W := { h with row := h.row.congr hf }
end
theorem StA.start (w:World)(T N:Nat) : StA w T N (fun _=>false) (((w.alloc (.cells #[.pointer none,.slice none 0 0] 145)).alloc (.cells (madeCells #[.bool false] N) 4)).alloc (.cells #[.pointer (some ⟨T,0,none⟩),.slice (some ⟨w.heap.size+1,0,none⟩) N N] 145)) := by
 have b:=BRow.made N (w.alloc (.cells #[.pointer none,.slice none 0 0] 145)) 4;rw[World.size_alloc]at b;exact⟨((Below.refl _ w).alloc lR _).alloc (by simp) _ |>.alloc (by simp;omega) _,by simp[go_sem],by simp[go_sem],by simp[go_sem],by simp[go_sem],by simp[go_sem],by simp[go_sem],b.then (bR.alloc lR _),by simp⟩
theorem qQ5 {rb n:Nat}{f:Nat->Bool}{W:World}(h:BRow rb n f W){b:Nat}(hb:rb≠b)(u v:Value) : BRow rb n f ((W.setCell ⟨b,0,none⟩ u).setCell ⟨b,1,none⟩ v) := fun i hi =>
 ⟨(qA0 (by intro e;simp only[Addr.mk.injEq]at e;omega)).trans ((qA0 (by intro e;simp only[Addr.mk.injEq]at e;omega)).trans (h i hi).1),((World.frozen?_setCell _ _ _ _).trans (World.frozen?_setCell _ _ _ _)).trans (h i hi).2⟩
theorem qU8 {S:List Int}{j:Nat}(h:j<S.length)(k:Nat) : St.inS (S.take (j+1)) k=(St.inS (S.take j) k || (S[j] == (k:Int))) := by
 rw[List.take_succ_eq_append_getElem h];unfold St.inS;rw[List.any_append];simp
theorem qGQ {T X N:Nat}{L:List Pk}{w:World}(hT:TruthAt T X N L w)(A:Option Addr)(c:Nat)(S:List Int)(hS:Rd encI 1 w.heap.size A c S w) : Calls Tryz.prog 94 #[.pointer (some ⟨T,0,none⟩),.slice A S.length c] w fun e w' => ∃rb,e=.returned (askW T rb N)/\AskT T X N rb L (St.inS S) w'/\w.heap.size<=rb/\Below w.heap.size w w' := by
 have HT:=hid (fun W (hb:Below w.heap.size w W)=>hT.then hb);have HS:=hid hS;have hml:=hS.len;have hN:=hT.hN;have c1:=hT.c1;have hlt:=hT.lt;have HIS:=hid (fun (j:Nat) (h:j<S.length)=>qU8 h);have HTK:=hid (show S.take S.length=S from List.take_length);obtain⟨m,hm⟩:∃m,m=S.length:=⟨_,rfl⟩;rw[<- hm]at hml HTK |-;have HM:=hid hm;have mk:=qOI N (by omega);clear hT hS hm
 go_enter Tryz.func94,Tryz.ntmps94
 go_wp2_with fail
 have SA:=hid (StA.start w T N);have HLT:=hid hlt;clear hlt c1 mk
 go_loopw[17] (fun iv wr => ∃j:Nat,j<=m/\iv=.int .i64 (j:Int)/\StA w T N (St.inS (S.take j)) wr) (fun iv _=>m - (intOf iv).toNat)
 case atStart=>exact⟨0,Nat.zero_le _,rfl,SA.out.congr fun i _=>rfl⟩
 case round =>
  obtain⟨j,hj,rfl,hA⟩:=hrel;rename World=>wr
  have SR:=hid hA;clear SA hA;have c1:=(HT.out wr SR.out.old).c1;by_cases hlt:j<m
  ·have hjl:j<S.length:=by have:=HM.out;omega
   obtain⟨b,o,hA,hb,e0⟩:=((HS.out.below SR.out.old).more SR.out.old.size).int_at hjl;have HI:=hid (HIS.out j hjl);generalize S[j]=z at *;have i0':(0:Int)<=(j:Int):=by omega
   have i1:(j:Int)<(m:Int):=by omega
   rw[hA];clear hA hjl;by_cases hz0:0<=z
   ·by_cases hzn:z<(N:Int)
    ·obtain⟨k,rfl⟩:∃k:Nat,z=(k:Int):=⟨z.toNat,by omega⟩;have hk:k<N:=by omega
     have b0:=SR.out.b0;have b1:=SR.out.b1;obtain⟨r0,rf⟩:=SR.out.row k hk;have S2:=hid ((SR.out.set hk).congr (f':=St.inS (S.take (j+1))) fun i _=>by
      rw[HI.out];by_cases e:i=k
      ·subst e;simp
      ·rw[if_neg e,show ((k:Int) == (i:Int))=false from beq_eq_false_iff_ne.2 (by omega),Bool.or_false])
     go_wp2_with fail
     go_roundw
     case rel=>exact⟨j+1,by omega,by go_num,S2.out⟩
     case measure=>simp[intOf];omega
    ·have S2:=hid (SR.out.congr (f':=St.inS (S.take (j+1))) fun i hi=>by
      rw[HI.out,show (z == (i:Int))=false from beq_eq_false_iff_ne.2 (by omega),Bool.or_false])
     go_wp2_with fail
     go_roundw
     case rel=>exact⟨j+1,by omega,by go_num,S2.out⟩
     case measure=>simp[intOf];omega
   ·have S2:=hid (SR.out.congr (f':=St.inS (S.take (j+1))) fun i hi=>by
     rw[HI.out,show (z == (i:Int))=false from beq_eq_false_iff_ne.2 (by omega),Bool.or_false])
    go_wp2_with fail
    go_roundw
    case rel=>exact⟨j+1,by omega,by go_num,S2.out⟩
    case measure=>simp[intOf];omega
  ·obtain rfl:j=m:=by omega
   have i1:¬(j:Int)<(j:Int):=by omega
   have OK:=hid (show StA w T N (St.inS S) wr from HTK.out ▸ SR.out);have TR:=hid (HT.out _ OK.out.old);clear SR HTK;obtain⟨hold,r0,r1,q0,q1,b0,b1,hrow,hsz⟩:=OK.out;have E:=hid ((hold.setCell (p:=⟨w.heap.size,0,none⟩) lR (.pointer (some ⟨T,0,none⟩))).setCell (p:=⟨w.heap.size,1,none⟩) lR (.slice (some ⟨w.heap.size+1,0,none⟩) N N));have TE:=hid (HT.out _ E.out);have RE:=hid (qQ5 hrow (b:=w.heap.size) (by omega) (.pointer (some ⟨T,0,none⟩)) (.slice (some ⟨w.heap.size+1,0,none⟩) N N));clear hold hrow;go_wp2_with fail
   refine bodyPost_ret (v:=askW T (w.heap.size+1) N) (by simp[askW,results,Tryz.results94,go_sem,r0,r1,q0,q1,b0,b1]) rfl ?_;exact⟨w.heap.size+1,rfl,⟨TE.out,by simp[World.setCell];omega,RE.out⟩,by omega,E.out⟩
end
section
theorem qF7 {P:Nat}{I:Int}{L:List Pr}{w:World}(hp:Pool P I L w)(hn:L.length<=1000) : Calls Tryz.prog 50 #[.pointer (some ⟨P,0,none⟩)] w fun e w' => ∃(T X:Nat) (L2:List Pk),e=.returned (.tuple #[.pointer (some ⟨T,0,none⟩),.int .i64 0])/\TruthAt T X L.length L2 w'/\qAQ (L.map Pr.pk) L2/\Below w.heap.size w w' := by
 have MN:=hid (qJO hp hn);have CNT:=hid (fun W (hb:Below w.heap.size w W)=>qE6 (hp.then hb).at_);have HN:=hid hn;have MY:=hid (fun x (hx:x∈L)=>(hp.may x hx).1);obtain⟨n,hn9⟩:∃n,n=L.length:=⟨_,rfl⟩;rw[<- hn9]at CNT HN |-;have HN9:=hid hn9;clear hp hn hn9
 go_enter Tryz.func50,Tryz.ntmps50
 go_wp2_with fail
 go_at_call 107
 refine MN.out.mono ?_;rintro en W1 ⟨X,L2,rfl,hix,hal,hXl,h⟩;have B1:=hid h;have IX:=hid hix;have AL:=hid hal;have CN:=hid (CNT.out W1 h);clear h hix hal hXl MN CNT;go_wp2_with fail
 go_at_call 61
 refine CN.out.mono ?_;rintro en W2 ⟨rfl,h⟩;have B2:=hid (B1.out.trans (h.mono B1.out.size));have IX2:=hid (IX.out.then h);clear h B1 IX CN;have BA:=hid ((Below.refl W2.heap.size W2).alloc lR (.cells #[.pointer (some ⟨X,0,none⟩),.int .i64 (n:Int)] 149));go_wp2_with fail
 refine bodyPost_ret (v:=.tuple #[.pointer (some ⟨W2.heap.size,0,none⟩),.int .i64 0]) (by simp[results,Tryz.results50,go_sem]) rfl ?_;have hlen:L2.length=n:=by rw[AL.out.1,List.length_map];exact HN9.out.symm
 exact⟨W2.heap.size,X,L2,rfl,⟨by simp,by simp[go_sem],by simp[go_sem],IX2.out.then BA.out,hlen,fun q hq=>by
  obtain⟨i,hi,rfl⟩:=List.getElem_of_mem hq;have hi2:i<(L.map Pr.pk).length:=by rw[<- AL.out.1];exact hi
  rw[(AL.out.2 i hi2 hi).may,List.getElem_map];exact MY.out _ (List.getElem_mem (by rw[List.length_map]at hi2;exact hi2)),HN.out⟩,AL.out,B2.out.trans (BA.out.mono B2.out.size)⟩
end
section
theorem qEX {α:Type}{enc:α->List Value}{size:Nat}(he:∀x,(enc x).length=size)(l:List α)(W:World)(t:TypeId)(hl:l.length<=1000) : Rd enc size (W.alloc (.cells (l.flatMap enc).toArray t)).heap.size (some ⟨W.heap.size,0,none⟩) l.length l (W.alloc (.cells (l.flatMap enc).toArray t)) := by
 refine⟨Nat.le_refl _,by unfold maxLen;omega,fun k hk=>⟨W.heap.size,0,rfl,by simp,fun j u hu => ?_⟩⟩;have hj:j<size:=by
  have:=(List.getElem?_eq_some_iff.1 hu).1;rw[he]at this;exact this
 rw[World.cell?_alloc_at _ _ _ _ rfl];have h3:=qBP enc size he l k hk j hj;rw[hu]at h3
 simpa using h3
theorem qK0 (l:List Pk)(W:World)(t:TypeId)(hl:l.length<=1000)(hL:∀p∈l,p.Laid W.heap.size W) : PRow (W.alloc (.cells (l.flatMap Pk.cells).toArray t)).heap.size (W.alloc (.cells (l.flatMap Pk.cells).toArray t)) (some ⟨W.heap.size,0,none⟩) l.length l :=
 ⟨qEX qQ7 l W t hl,fun p hp=>((hL p hp).below ((Below.refl _ W).alloc lR _)).more (by simp)⟩
theorem qP3 (r:Rp)(W:World)(t:TypeId)(h:PRow W.heap.size W r.A r.c r.pk)(hw:(Lit.int .i64 r.prio).wf=true)(hc:r.pk.length<=1000000000000000) : RpRow (W.alloc (.cells r.cells.toArray t)).heap.size (W.alloc (.cells r.cells.toArray t)) (some ⟨W.heap.size,0,none⟩) 1 [r] := by
 have hrd:=qEX (enc:=Rp.cells) qP1 [r] W t (by simp);rw[show ([r].flatMap Rp.cells).toArray=r.cells.toArray by simp]at hrd;refine⟨hrd,fun x hx => ?_,fun x hx => ?_,fun x hx => ?_⟩<;>obtain rfl:=List.mem_singleton.1 hx
 ·exact (h.below ((Below.refl _ W).alloc lR _)).more (by simp)
 ·exact hw
 ·exact hc
theorem qCO (B:Nat)(W:World) : RRow B W none 0 [] := ⟨Rd.nil_ (Nat.zero_le _),fun t ht=>by cases ht⟩
def dpT (b:UInt8) : Dp := ⟨[b],0,⟨0,[],[]⟩⟩
def pkT (n:ByteArray)(A:Option Addr)(l:List Dp) : Pk := { name := n,epoch := 0,ver := ⟨#[49]⟩,rel := ⟨#[49]⟩,arch := 1,vendor := ⟨#[]⟩,provA := A,provC := l.length,prov := l,reqA := none,reqC := 0,req := [],conA := none,conC := 0,con := [],obsA := none,obsC := 0,obs := [],rcmA := none,rcmC := 0,rcm := [],supA := none,supC := 0,sup := [],sugA := none,sugC := 0,sug := [],enhA := none,enhC := 0,enh := [],filesA := none,filesC := 0,files := [] }
theorem qW3 (b:UInt8) : (dpT b).wf := ⟨by show 1<=maxLen;decide,rfl,rfl,Nat.zero_le _,Nat.zero_le _⟩
theorem qN4 {n:ByteArray}{A:Option Addr}{l:List Dp}{W:World}(hn:n.size<=maxLen)(h:Rd encD 5 W.heap.size A l.length l W)(hw:∀d∈l,d.wf) : (pkT n A l).Laid W.heap.size W :=
 { ar:=rfl,ep:=rfl,n0:=hn,n1:=by show (⟨#[49]⟩:ByteArray).size<=maxLen;decide,n2:=by show (⟨#[49]⟩:ByteArray).size<=maxLen;decide,n3:=by show (⟨#[]⟩:ByteArray).size<=maxLen;decide,prov:=h,provW:=hw,obs:=Rd.nil_ (Nat.zero_le _),obsW:=(fun d hd=>by cases hd),files:=Rd.nil_ (Nat.zero_le _),filesW:=(fun d hd=>by cases hd),req:=qCO _ _,con:=qCO _ _,rcm:=qCO _ _,sup:=qCO _ _,sug:=qCO _ _,enh:=qCO _ _ }
theorem qUW {n:ByteArray}{A:Option Addr}{l:List Dp}(hl:l.length<=10) : (pkT n A l).deepOk/\(pkT n A l).few := by
 refine⟨fun x hx t ht => ?_,?_⟩
 ·simp only[LS,pkT,List.mem_cons,List.not_mem_nil,or_false]at hx;rcases hx with rfl|rfl|rfl|rfl|rfl|rfl<;>cases ht
 ·exact⟨by simp only[pkT];omega,by simp[pkT],by simp[pkT],by simp[pkT,qA9,qA1],by simp[pkT,qA9,qA1],by simp[pkT,qA9,qA1],by simp[pkT,qA9,qA1],by simp[pkT,qA9,qA1],by simp[pkT,qA9,qA1]⟩
def twoP (A B:Option Addr) : List Pk := [pkT ⟨#[97]⟩ A [dpT 120],pkT ⟨#[98]⟩ B [dpT 121,dpT 122]]
theorem qXU (A B:Option Addr):∀x∈twoP A B,mayP x=true := by
 intro x hx;simp only[twoP,List.mem_cons,List.not_mem_nil,or_false]at hx;rcases hx with rfl|rfl
 ·rw[show mayP (pkT ⟨#[97]⟩ A [dpT 120])=mayP (pkT ⟨#[97]⟩ none [dpT 120]) from Alike.may (p:=pkT ⟨#[97]⟩ none [dpT 120]) (q:=pkT ⟨#[97]⟩ A [dpT 120]) ⟨rfl,rfl,rfl,rfl,rfl,rfl,rfl,rfl,rfl,rfl,rfl,rfl,rfl,rfl,rfl⟩];decide +kernel
 ·rw[show mayP (pkT ⟨#[98]⟩ B [dpT 121,dpT 122])=mayP (pkT ⟨#[98]⟩ none [dpT 121,dpT 122]) from Alike.may (p:=pkT ⟨#[98]⟩ none [dpT 121,dpT 122]) (q:=pkT ⟨#[98]⟩ B [dpT 121,dpT 122]) ⟨rfl,rfl,rfl,rfl,rfl,rfl,rfl,rfl,rfl,rfl,rfl,rfl,rfl,rfl,rfl⟩];decide +kernel
def repT (RA B:Option Addr) : Rp := ⟨0,RA,1,[pkT ⟨#[98]⟩ B [dpT 121,dpT 122]]⟩
theorem qXS (A B RA:Option Addr) : allP [repT RA B] [pkT ⟨#[97]⟩ A [dpT 120]]=twoP A B := rfl
theorem qT7 (A B RA:Option Addr) : qB4 [repT RA B] [pkT ⟨#[97]⟩ A [dpT 120]]=0 := by
 rw[qDS (by simp[qBD,repT])];rw[if_pos];have h:=qXU A B;rw[Bool.and_eq_true];refine⟨List.all_eq_true.2 fun x hx=>h x ?_,List.all_eq_true.2 fun r hr => ?_⟩
 ·obtain rfl:=List.mem_singleton.1 hx;exact List.mem_cons_self ..
 ·obtain rfl:=List.mem_singleton.1 hr;have h2:=h _ (List.mem_cons_of_mem _ (List.mem_cons_self ..));unfold rpOk;simp[repT,h2]
theorem qNK (A B RA:Option Addr):∀x∈allP [repT RA B] [pkT ⟨#[97]⟩ A [dpT 120]],x.deepOk/\x.few := by
 intro x hx;rw[qXS]at hx;simp only[twoP,List.mem_cons,List.not_mem_nil,or_false]at hx;rcases hx with rfl|rfl
 iterate 2 ·exact qUW (by simp)
theorem qVP {A B:Option Addr}{L2:List Pk}(h:qAQ (twoP A B) L2)(n:Nat)(d:Dp) : pvL L2 n d=pvL (twoP none none) n d := by
 have hl:L2.length=2:=h.1;unfold pvL;by_cases hn:n<2
 ·have h1:n<(twoP A B).length:=hn;have h2:n<L2.length:=by omega
  have h3:n<(twoP none none).length:=hn;have ha:=h.2 n h1 h2;rw[List.getElem?_eq_getElem h2,List.getElem?_eq_getElem h3,Option.any_some,Option.any_some];obtain rfl|rfl:n=0 \/ n=1:=by omega
  iterate 2 ·unfold qC7 Pk.ownD;rw[ha.name,ha.evr,ha.prov,ha.files];rfl
 ·rw[List.getElem?_eq_none (by omega),List.getElem?_eq_none (by show 2<=n;omega)]
end
section
theorem qF2 {a b c:List Pk}(h:qAQ a b)(k:qAQ b c) : qAQ a c :=
 ⟨k.1.trans h.1,fun i h1 h2=>by
  have hb:i<b.length:=by rw[h.1];exact h1
  have p:=h.2 i h1 hb;have q:=k.2 i hb h2;exact⟨q.name.trans p.name,q.epoch.trans p.epoch,q.ver.trans p.ver,q.rel.trans p.rel,q.arch.trans p.arch,q.vendor.trans p.vendor,q.prov.trans p.prov,q.obs.trans p.obs,q.files.trans p.files,q.req.trans p.req,q.con.trans p.con,q.rcm.trans p.rcm,q.sup.trans p.sup,q.sug.trans p.sug,q.enh.trans p.enh⟩⟩
theorem qXT (w:World)(hI:PkIn w) : Calls Tryz.prog 59 #[] w fun e w' => ∃(T X:Nat) (L2:List Pk),e=.returned (.tuple #[.pointer (some ⟨T,0,none⟩),.bool true])/\TruthAt T X 2 L2 w'/\(∀n d,pvL L2 n d=pvL (twoP none none) n d)/\Below w.heap.size w w' := by
 have HI:=hid hI;clear hI
 go_enter Tryz.func59,Tryz.ntmps59
 go_wp2_with fail
 obtain⟨W0,e0⟩:∃W,W=w.alloc (.cells #[.string ⟨#[120]⟩,.int .u8 0,.int .i64 0,.string ⟨#[]⟩,.string ⟨#[]⟩] 37):=⟨_,rfl⟩;rw[<- e0];have b0:Below w.heap.size w W0:=by rw[e0];exact bR.alloc lR _
 have s0:W0.heap.size=w.heap.size+1:=by rw[e0,World.size_alloc]
 obtain⟨W1,e1⟩:∃W,W=W0.alloc (.cells #[.string ⟨#[97]⟩,.int .i64 0,.string ⟨#[49]⟩,.string ⟨#[49]⟩,.int .u8 1,.string ⟨#[]⟩,.slice (some ⟨w.heap.size,0,none⟩) 1 1,.slice none 0 0,.slice none 0 0,.slice none 0 0,.slice none 0 0,.slice none 0 0,.slice none 0 0,.slice none 0 0,.slice none 0 0] 28):=⟨_,rfl⟩;rw[<- e1];have b1:Below W0.heap.size W0 W1:=by rw[e1];exact bR.alloc lR _
 have s1:W1.heap.size=w.heap.size+1+1:=by rw[e1,World.size_alloc,s0]
 obtain⟨W2,e2⟩:∃W,W=W1.alloc (.cells #[.string ⟨#[121]⟩,.int .u8 0,.int .i64 0,.string ⟨#[]⟩,.string ⟨#[]⟩,.string ⟨#[122]⟩,.int .u8 0,.int .i64 0,.string ⟨#[]⟩,.string ⟨#[]⟩] 37):=⟨_,rfl⟩;rw[<- e2];have b2:Below W1.heap.size W1 W2:=by rw[e2];exact bR.alloc lR _
 have s2:W2.heap.size=w.heap.size+1+1+1:=by rw[e2,World.size_alloc,s1]
 obtain⟨W3,e3⟩:∃W,W=W2.alloc (.cells #[.string ⟨#[98]⟩,.int .i64 0,.string ⟨#[49]⟩,.string ⟨#[49]⟩,.int .u8 1,.string ⟨#[]⟩,.slice (some ⟨w.heap.size+1+1,0,none⟩) 2 2,.slice none 0 0,.slice none 0 0,.slice none 0 0,.slice none 0 0,.slice none 0 0,.slice none 0 0,.slice none 0 0,.slice none 0 0] 28):=⟨_,rfl⟩;rw[<- e3];have b3:Below W2.heap.size W2 W3:=by rw[e3];exact bR.alloc lR _
 have s3:W3.heap.size=w.heap.size+1+1+1+1:=by rw[e3,World.size_alloc,s2]
 obtain⟨W4,e4⟩:∃W,W=W3.alloc (.cells #[.string ⟨#[98]⟩,.int .i64 0,.string ⟨#[49]⟩,.string ⟨#[49]⟩,.int .u8 1,.string ⟨#[]⟩,.slice (some ⟨w.heap.size+1+1,0,none⟩) 2 2,.slice none 0 0,.slice none 0 0,.slice none 0 0,.slice none 0 0,.slice none 0 0,.slice none 0 0,.slice none 0 0,.slice none 0 0] 28):=⟨_,rfl⟩;rw[<- e4];have b4:Below W3.heap.size W3 W4:=by rw[e4];exact bR.alloc lR _
 have s4:W4.heap.size=w.heap.size+1+1+1+1+1:=by rw[e4,World.size_alloc,s3]
 obtain⟨W5,e5⟩:∃W,W=W4.alloc (.cells #[.int .i64 0,.slice (some ⟨w.heap.size+1+1+1+1,0,none⟩) 1 1] 66):=⟨_,rfl⟩;rw[<- e5];have b5:Below W4.heap.size W4 W5:=by rw[e5];exact bR.alloc lR _
 have s5:W5.heap.size=w.heap.size+1+1+1+1+1+1:=by rw[e5,World.size_alloc,s4]
 obtain⟨W6,e6⟩:∃W,W=W5.alloc (.cells #[.string ⟨#[97]⟩,.int .i64 0,.string ⟨#[49]⟩,.string ⟨#[49]⟩,.int .u8 1,.string ⟨#[]⟩,.slice (some ⟨w.heap.size,0,none⟩) 1 1,.slice none 0 0,.slice none 0 0,.slice none 0 0,.slice none 0 0,.slice none 0 0,.slice none 0 0,.slice none 0 0,.slice none 0 0] 28):=⟨_,rfl⟩;rw[<- e6];have b6:Below W5.heap.size W5 W6:=by rw[e6];exact bR.alloc lR _
 have s6:W6.heap.size=w.heap.size+1+1+1+1+1+1+1:=by rw[e6,World.size_alloc,s5]
 have rA:Rd encD 5 W0.heap.size (some ⟨w.heap.size,0,none⟩) 1 [dpT 120] W0:=by rw[e0];exact qEX (enc:=encD) (size:=5) (fun _=>rfl) [dpT 120] w 37 (by simp)
 have rB:Rd encD 5 W2.heap.size (some ⟨w.heap.size+1+1,0,none⟩) 2 [dpT 121,dpT 122] W2:=by have q:=qEX (enc:=encD) (size:=5) (fun _=>rfl) [dpT 121,dpT 122] W1 37 (by simp);rw[s1]at q;rw[e2];exact q
 have wA:∀d∈[dpT 120],d.wf:=fun d hd=>by obtain rfl:=List.mem_singleton.1 hd;exact qW3 _
 have wB:∀d∈[dpT 121,dpT 122],d.wf:=fun d hd=>by simp only[List.mem_cons,List.not_mem_nil,or_false]at hd;rcases hd with rfl|rfl<;>exact qW3 _
 have lA:=qN4 (n:=⟨#[97]⟩) (by show (⟨#[97]⟩:ByteArray).size<=maxLen;decide) rA wA;have lB:=qN4 (n:=⟨#[98]⟩) (by show (⟨#[98]⟩:ByteArray).size<=maxLen;decide) rB wB;have pR:PRow W4.heap.size W4 (some ⟨w.heap.size+1+1+1+1,0,none⟩) 1 [pkT ⟨#[98]⟩ (some ⟨w.heap.size+1+1,0,none⟩) [dpT 121,dpT 122]]:=by have q:=qK0 [pkT ⟨#[98]⟩ (some ⟨w.heap.size+1+1,0,none⟩) [dpT 121,dpT 122]] W3 28 (by simp) (fun p hp=>by obtain rfl:=List.mem_singleton.1 hp;exact lB.calls b3);rw[s3]at q;rw[e4];exact q
 have rR:RpRow W5.heap.size W5 (some ⟨w.heap.size+1+1+1+1+1,0,none⟩) 1 [repT (some ⟨w.heap.size+1+1+1+1,0,none⟩) (some ⟨w.heap.size+1+1,0,none⟩)]:=by have q:=qP3 (repT (some ⟨w.heap.size+1+1+1+1,0,none⟩) (some ⟨w.heap.size+1+1,0,none⟩)) W4 66 pR rfl (by simp[repT]);rw[s4]at q;rw[e5];exact q
 have pI:PRow W6.heap.size W6 (some ⟨w.heap.size+1+1+1+1+1+1,0,none⟩) 1 [pkT ⟨#[97]⟩ (some ⟨w.heap.size,0,none⟩) [dpT 120]]:=by have q:=qK0 [pkT ⟨#[97]⟩ (some ⟨w.heap.size,0,none⟩) [dpT 120]] W5 28 (by simp) (fun p hp=>by obtain rfl:=List.mem_singleton.1 hp;exact ((((lA.calls b1).calls b2).calls b3).calls b4).calls b5);rw[s5]at q;rw[e6];exact q
 have b06:Below w.heap.size w W6:=b0.trans ((b1.trans ((b2.trans ((b3.trans ((b4.trans ((b5.trans (b6.mono b5.size)).mono b4.size)).mono b3.size)).mono b2.size)).mono b1.size)).mono b0.size);have NW:=hid (qG6 (some ⟨w.heap.size+1+1+1+1+1,0,none⟩) 1 [repT (some ⟨w.heap.size+1+1+1+1,0,none⟩) (some ⟨w.heap.size+1+1,0,none⟩)] (some ⟨w.heap.size+1+1+1+1+1+1,0,none⟩) 1 [pkT ⟨#[97]⟩ (some ⟨w.heap.size,0,none⟩) [dpT 120]] W6 (HI.out.below b06) (rR.calls b6) pI (qNK _ _ _) (by simp[qBD,repT]) (by simp));have B6:=hid b06;clear e0 b0 s0 e1 b1 s1 e2 b2 s2 e3 b3 s3 e4 b4 s4 e5 b5 s5 e6 b6 s6 rA rB wA wB lA lB pR rR pI b06;go_at_call 23
 refine NW.out.mono ?_;rintro en w9 ⟨h1,_,hb⟩;obtain⟨P,L,rfl,hat,hal⟩:=h1 (qT7 _ _ _);have PO:=hid (Pool.of hat hal (qT7 _ _ _) (fun x hx=>(qNK _ _ _ x hx).2));have B9:=hid (B6.out.trans (hb.mono B6.out.size));have HL2:=hid (show L.length=2 from hal.1);have AL:=hid (show qAQ (twoP (some ⟨w.heap.size,0,none⟩) (some ⟨w.heap.size+1+1,0,none⟩)) (L.map Pr.pk) from⟨by rw[List.length_map];exact hal.1,fun i h1 h2=>by rw[List.getElem_map];exact hal.2 i h1 (by rw[List.length_map]at h2;exact h2)⟩);clear h1 hat hal hb NW B6;have TN:=hid (qF7 PO.out (by have:=HL2.out;omega));rw[HL2.out]at TN;go_wp2_with fail
 go_at_call 50
 refine TN.out.mono ?_;rintro en w10 ⟨T,X,L2,rfl,ht,ha2,hb⟩;have B10:=hid (B9.out.trans (hb.mono B9.out.size));have TT:=hid ht;have A2:=hid (qF2 AL.out ha2);clear ht ha2 hb TN;go_wp2_with fail
 refine bodyPost_ret (v:=.tuple #[.pointer (some ⟨T,0,none⟩),.bool true]) (by simp[results,Tryz.results59,go_sem]) rfl ?_;exact⟨T,X,L2,rfl,TT.out,fun n d=>qVP A2.out n d,B10.out⟩
end
section
section
variable {T X N:Nat}{L:List Pk}
def IsOk (T X N:Nat)(L:List Pk)(R:RV) : Prop := ∀(rb:Nat) (f:Nat->Bool) (W:World),AskT T X N rb L f W->RTree W.heap.size W R ->
 Calls Tryz.prog 95 #[askW T rb N,R.val] W fun e w'=>e=.returned (.bool (Tr.sat N (pvL L) R.tree f))/\Below W.heap.size W w'
def ABox (b T rb N:Nat)(W:World) : Prop := b<W.heap.size/\W.cell? ⟨b,0,none⟩=some (.pointer (some ⟨T,0,none⟩))/\W.cell? ⟨b,1,none⟩=some (.slice (some ⟨rb,0,none⟩) N N)
theorem ABox.then {b rb:Nat}{W W':World}(h:ABox b T rb N W)(hb:Below W.heap.size W W') : ABox b T rb N W' :=
 ⟨Nat.lt_of_lt_of_le h.1 hb.size,(hb.cell (p:=⟨b,0,none⟩) h.1).trans h.2.1,(hb.cell (p:=⟨b,1,none⟩) h.1).trans h.2.2⟩
theorem ABox.new (T rb N:Nat)(W:World)(t:TypeId) : ABox W.heap.size T rb N (W.alloc (.cells #[.pointer (some ⟨T,0,none⟩),.slice (some ⟨rb,0,none⟩) N N] t)) := ⟨by simp,by simp[go_sem],by simp[go_sem]⟩
theorem qTK (R:RV)(hR:IsOk T X N L R)(b rb:Nat)(f:Nat->Bool)(W:World)(hA:AskT T X N rb L f W)(hT:RTree W.heap.size W R)(hb:ABox b T rb N W) :
  Calls Tryz.prog 184 #[R.val,.pointer (some ⟨b,0,none⟩)] W fun e w'=>e=.returned (.bool (!Tr.sat N (pvL L) R.tree f))/\Below W.heap.size W w':=by
 have b1:=(Below.refl W.heap.size W).alloc lR (.cells #[.int .u8 R.kind,.string (bs R.dep.name),.int .u8 R.dep.op,.int .i64 R.dep.evr.epoch,.string (bs R.dep.evr.ver),.string (bs R.dep.evr.rel),.slice R.addr R.args.length R.cap] 39);have IS:=hid (hR rb f _ (hA.then b1) ((hT.keeps b1).more b1.size));obtain⟨_,c0,c1⟩:=hb.then b1;unfold askW at IS;unfold RV.val at *;have B1:=hid b1;clear hA hT hb hR b1;generalize Tr.sat N (pvL L) R.tree f=r at *
 go_enter Tryz.func184,Tryz.ntmps184
 go_wp2_with fail
 go_at_call 95
 refine IS.out.mono ?_;rintro e w2 ⟨rfl,h⟩;have hB:=B1.out.trans (h.mono (by simp));clear h;go_wp2_with fail
 go_ret;exact⟨rfl,hB⟩
theorem qPS (R:RV)(hn:R.args.length<=1000000)(hR:∀a∈R.args,IsOk T X N L a)(rb:Nat)(f:Nat->Bool)(W:World)(hA:AskT T X N rb L f W)(hT:RTree W.heap.size W R) :
  Calls Tryz.prog 137 #[askW T rb N,R.val] W fun e w'=>e=.returned (.bool (R.args.all fun a=>Tr.sat N (pvL L) a.tree f))/\Below W.heap.size W w':=by
 have b1:=(Below.refl W.heap.size W).alloc lR (.cells #[.pointer (some ⟨T,0,none⟩),.slice (some ⟨rb,0,none⟩) N N] 145);have b2:=b1.alloc (by simp) (.cells #[.int .u8 R.kind,.string (bs R.dep.name),.int .u8 R.dep.op,.int .i64 R.dep.evr.epoch,.string (bs R.dep.evr.ver),.string (bs R.dep.evr.rel),.slice R.addr R.args.length R.cap] 39);have a1:=(ABox.new T rb N W 145).then (bR.alloc lR (.cells #[.int .u8 R.kind,.string (bs R.dep.name),.int .u8 R.dep.op,.int .i64 R.dep.evr.epoch,.string (bs R.dep.evr.ver),.string (bs R.dep.evr.rel),.slice R.addr R.args.length R.cap] 39))
 have HC:=hid (qHD 184 (fun _ _=>rfl) #[.pointer (some ⟨W.heap.size,0,none⟩)] (fun a => !Tr.sat N (pvL L) a.tree f) R.args R.addr R.cap _ (RRow.more (RRow.below ⟨hT.row,hT.sub⟩ b2) b2.size) hn
  (fun d hd W' hB=>qTK d (hR d hd) W.heap.size rb f W' (hA.then (b2.trans (hB.mono b2.size))) (((hT.sub d hd).keeps (b2.trans (hB.mono b2.size))).more (b2.trans (hB.mono b2.size)).size) (a1.then hB)))
 rw[List.all_eq_not_any_not];unfold askW;unfold RV.val;have B2:=hid b2;clear hA hT hR b1 b2 a1 hn;generalize (R.args.any fun a => !Tr.sat N (pvL L) a.tree f)=r at *;generalize R.args.length=n at *
 go_enter Tryz.func137,Tryz.ntmps137
 go_wp2_with fail
 go_at_call 165
 refine HC.out.mono ?_;rintro e w2 ⟨rfl,h⟩;have hB:=B2.out.trans (h.mono B2.out.size);clear h;go_wp2_with fail
 go_ret;exact⟨rfl,hB⟩
def qY2 (w:World)(g:FuncId)(hd:Array Value)(p:RV->Bool)(l:List RV) : Prop := ∀d∈l,∀W,Below w.heap.size w W->Calls Tryz.prog g (hd++#[d.val]) W fun e w'=>e=.returned (.bool (p d))/\Below W.heap.size W w'
end
