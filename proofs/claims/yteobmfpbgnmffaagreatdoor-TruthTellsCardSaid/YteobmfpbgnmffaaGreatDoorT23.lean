/- PoolPkg, SliceI, RegInv6 -/
import Derived.Test.YteobmfpbgnmffaaGreatDoorT22
set_option linter.unusedVariables false
set_option maxHeartbeats 16000000
set_option maxRecDepth 100000
open Go.Lib (hid)
set_option linter.unusedSimpArgs false
namespace Go.Proofs.YteobmfpbgnmffaaGreatDoor
open Go.RowKit Go.Shelf
section
theorem qJD {b c:Nat}(h:b≠c):∀(l:List Value) (i:Nat) (W:World),(setL c i l W).heap[b]?=W.heap[b]?
 | [],_,_=>rfl
 | v::l,i,W=>by rw[setL,qJD h l];exact Below.heap_setCell _ _ _ _ h
theorem qKE {c:Nat} : ∀(l:List Value) (i:Nat) (W:World),(setL c i l W).heap.size=W.heap.size
 | [],_,_=>rfl
 | v::l,i,W=>by rw[setL,qKE l];simp[World.setCell]
theorem qLU {P:Nat}{I:Int}{L:List Pr}{w:World}(hp:Pool P I L w){k:Nat}(hk:k<L.length)(hn0:L.length<=1000000) : Calls Tryz.prog 48 #[.pointer (some ⟨P,0,none⟩),.int .i64 (k:Int)] w fun e w' => ∃q : Pk,e=.returned (.tuple #[q.val,.int .i64 0])/\Alike L[k].pk q/\PkOwn (w.heap.size+1) q w'/\Below w.heap.size w w' := by
 have hn:L.length<=1000000:=hn0;obtain⟨A,c,h0,hr⟩:=hp.at_.row;have HRD:=hid hr;have hlt:=hp.at_.lt;obtain⟨x,hx⟩:∃x,L[k].pk=x:=⟨_,rfl⟩;have LX:=hid (fun W (hb:Below w.heap.size w W)=>show x.Laid W.heap.size W from hx ▸ (hp.then hb).at_.laid _ (List.getElem_mem hk));have FX:=hid (show x.few from hx ▸ (hp.may _ (List.getElem_mem hk)).2);have CP:=hid (fun W (h:x.Laid W.heap.size W)=>qHJ x W h FX.out);unfold Pk.val at CP;have IS:=hid (fun A c (W:World)=>qUZ A c (k:Int) L.length W hn);rw[hx];obtain⟨b,o,hA,hrest⟩:=hr.cells hk;clear hrest;have CE:=hid (fun W (hb:Below w.heap.size w W)=>qUX (hr.below hb) hk hA hx);obtain⟨n,hn9⟩:∃n,n=L.length:=⟨_,rfl⟩;rw[<- hn9]at h0 IS hn;have k0:(0:Int)<=(k:Int):=by omega
 have k1:(k:Int)<(n:Int):=by omega
 have F1:=hid (show decide (0<=(k:Int)/\(k:Int)<(n:Int))=true from decide_eq_true ⟨k0,k1⟩);subst hA;clear hp hr hx hk hn9 hn hn0 HRD;have B0:=(Below.refl w.heap.size w).alloc lR (.cells #[.string ⟨#[]⟩,.int .i64 0,.string ⟨#[]⟩,.string ⟨#[]⟩,.int .u8 0,.string ⟨#[]⟩,.slice none 0 0,.slice none 0 0,.slice none 0 0,.slice none 0 0,.slice none 0 0,.slice none 0 0,.slice none 0 0,.slice none 0 0,.slice none 0 0] 28);have C0:=hid ((B0.cell (p:=⟨P,0,none⟩) hlt).trans h0);have B0:=hid B0;have Z0:=hid (qAJ.new w)
 go_enter Tryz.func48,Tryz.ntmps48
 go_wp2_with fail
 go_at_call 102
 refine (IS.out _ _ _).mono ?_;rintro e w1 ⟨rfl,h⟩;rw[F1.out];have S1:=hid (show w.heap.size+1<=w1.heap.size by have:=h.size;simpa using this);have B1:=hid (B0.out.trans (h.mono B0.out.size));have Z1:=hid (Z0.out.then h);have c0:=(h.cell (p:=⟨P,0,none⟩) (Nat.lt_of_lt_of_le hlt B0.out.size)).trans C0.out;obtain⟨d0,d1,d2,d3,d4,d5,d6,d7,d8,d9,d10,d11,d12,d13,d14⟩:=CE.out _ B1.out;clear h B0 Z0 C0 h0 F1;go_wp2_with fail
 go_at_call 16
 refine (CP.out _ (LX.out _ B1.out)).mono ?_;rintro e w2 ⟨q,rfl,ha,hq,h⟩;have B2:=hid (B1.out.trans (h.mono B1.out.size));have Z2:=hid (Z1.out.then h);have HA:=hid ha;have HQ:=hid (hq.more S1.out);clear h ha hq B1 Z1 S1 c0 d0 d1 d2 d3 d4 d5 d6 d7 d8 d9 d10 d11 d12 d13 d14;obtain⟨⟨zl,z0,z1,z2,z3,z4,z5,z6,z7,z8,z9,z10,z11,z12,z13,z14⟩,fz,_⟩:=Z2.out;have f0:=fz 0 (by omega);have f1:=fz 1 (by omega);have f2:=fz 2 (by omega);have f3:=fz 3 (by omega);have f4:=fz 4 (by omega);have f5:=fz 5 (by omega);have f6:=fz 6 (by omega);have f7:=fz 7 (by omega);have f8:=fz 8 (by omega);have f9:=fz 9 (by omega);have f10:=fz 10 (by omega);have f11:=fz 11 (by omega);have f12:=fz 12 (by omega);have f13:=fz 13 (by omega);have f14:=fz 14 (by omega);have R1:=hid (Z2.out.set q);have R3:=hid (qDN (B:=w.heap.size) (R:=w.heap.size) lR q.cells 0 w2);have RQ:=hid (HQ.out.keepB (W':=setL w.heap.size 0 q.cells w2) (by rw[qKE];exact Nat.le_refl _) (fun b h1 _=>qJD (show b≠w.heap.size by omega) _ _ _));clear fz zl HQ;unfold zPk at z0 z1 z2 z3 z4 z5 z6 z7 z8 z9 z10 z11 z12 z13 z14;go_wp2_with fail
 obtain⟨Y,hY⟩:∃Y,Y=setL w.heap.size 0 q.cells w2:=⟨_,rfl⟩;have hY2:=hY;simp only[setL,Pk.cells,Nat.zero_add,Nat.reduceAdd]at hY2;rw[<- hY2];rw[<- hY]at R1 R3 RQ;clear hY hY2 z0 z1 z2 z3 z4 z5 z6 z7 z8 z9 z10 z11 z12 z13 z14;obtain⟨⟨_,c0,c1,c2,c3,c4,c5,c6,c7,c8,c9,c10,c11,c12,c13,c14⟩,_,_⟩:=R1.out;refine bodyPost_ret (v:=.tuple #[q.val,.int .i64 0]) (by simp[Pk.val,results,Tryz.results48,go_sem,c0,c1,c2,c3,c4,c5,c6,c7,c8,c9,c10,c11,c12,c13,c14];try rfl) rfl ?_;exact⟨q,rfl,HA.out,RQ.out,B2.out.trans R3.out⟩
end
section
def qTH (w:World)(g:FuncId)(cap:Array Value)(p:Int->Bool)(l:List Int) : Prop := ∀s∈l,∀W,Below w.heap.size w W->Calls Tryz.prog g (#[.int .i64 s]++cap) W fun e w'=>e=.returned (.bool (p s))/\Below W.heap.size W w'
theorem qLA (g:FuncId)(eg:∀args w,(callFunc g args).run Tryz.prog w=.ok (.enter g args) w)(cp:Array Value)(p:Int->Bool)(l:List Int)(A:Option Addr)(c:Nat)(w:World)(hl:Rd encI 1 w.heap.size A c l w)(hn:l.length<=1000000)(hp:qTH w g cp p l) :
  Calls Tryz.prog 156 #[.slice A l.length c,.func (.func g) #[] cp] w fun e w' => ∃i:Int,e=.returned (.int .i64 i)/\(decide (0<=i)=l.any (p))/\Below w.heap.size w w':=by
 have HL:=hid hl;have HP:=hid hp;clear hp;obtain⟨n,hnn⟩:∃n,n=l.length:=⟨_,rfl⟩;rw[<- hnn]at hn |-;have HN:=hid hnn;clear hl hnn
 go_enter Tryz.func156,Tryz.ntmps156
 go_wp2_with fail
 go_loopw[8] (fun i wr => ∃k:Nat,k<=n/\i=.int .i64 (k:Int)/\Hid (∀j (hj:j<l.length),j<k->(p) l[j]=false)/\Below w.heap.size w wr) (fun i _=>n - (intOf i).toNat)
 case atStart=>exact⟨0,by omega,rfl,hid (by intro j hj h;omega),Below.refl _ _⟩
 case round =>
  obtain⟨k,hk,rfl,hS,hB⟩:=hrel;rename World=>wr
  by_cases hlt:k<n
  ·have hkl:k<l.length:=by have:=HN.out;omega
   obtain⟨b,o,rfl,hb,c0⟩:=(HL.out.below hB).at1 (f:=fun s=>Value.int .i64 s) (fun _=>rfl) hkl;have CP:=hid (HP.out _ (List.getElem_mem hkl) wr hB);have HT:=hid (fun (h:(p) l[k]=true)=>show l.any (p)=true from List.any_eq_true.2 ⟨_,List.getElem_mem hkl,h⟩);have HF:=hid (fun (h:(p) l[k]=false)=>show ∀j (hj:j<l.length),j<k+1->(p) l[j]=false from fun j hj hjk=>by
    by_cases e:j=k
    ·subst e;exact h
    ·exact hS.out j hj (by omega))
   have i0:(0:Int)<=(k:Int):=by omega
   have i1:(k:Int)<(n:Int):=by omega
   generalize l[k]=d at *;generalize p d=r at *;clear hS;go_wp2_with fail
   go_at_fn g
   refine CP.out.mono ?_;rintro e w2 ⟨rfl,h⟩;have hB2:=hB.trans (h.mono hB.size);cases r
   ·have HF2:=hid (HF.out (by trivial));go_wp2_with fail
    go_roundw
    case rel=>exact⟨k+1,by omega,by go_num,HF2,hB2⟩
    case measure=>simp[intOf];omega
   ·have HA:=hid (show l.any p=true from HT.out (by trivial));go_wp2_with fail
    go_ret;exact⟨(k:Int),rfl,by rw[HA.out];simp,hB2⟩
  ·have i1:¬(k:Int)<(n:Int):=by omega
   have HA:=hid (show l.any (p)=false from List.any_eq_false.2 fun d hd=>by obtain⟨j,hj,rfl⟩:=List.getElem_of_mem hd;exact fun e=>Bool.false_ne_true ((hS.out j hj (by have:=HN.out;omega)).symm.trans e));go_wp2_with fail
   go_ret;exact⟨-1,rfl,by rw[HA.out];decide,hB⟩
theorem qO9 (x:Int)(l:List Int)(A:Option Addr)(c:Nat)(w:World)(hl:Rd encI 1 w.heap.size A c l w)(hn:l.length<=1000000) :
  Calls Tryz.prog 190 #[.slice A l.length c,.int .i64 x] w fun e w' => ∃i:Int,e=.returned (.int .i64 i)/\(decide (0<=i)=l.any (fun s=>x == s))/\Below w.heap.size w w':=by
 have HL:=hid hl;obtain⟨n,hnn⟩:∃n,n=l.length:=⟨_,rfl⟩;rw[<- hnn]at hn |-;have HN:=hid hnn;clear hl hnn
 go_enter Tryz.func190,Tryz.ntmps190
 go_wp2_with fail
 go_loopw[8] (fun i wr => ∃k:Nat,k<=n/\i=.int .i64 (k:Int)/\Hid (∀j (hj:j<l.length),j<k->(fun s=>x == s) l[j]=false)/\Below w.heap.size w wr) (fun i _=>n - (intOf i).toNat)
 case atStart=>exact⟨0,by omega,rfl,hid (by intro j hj h;omega),Below.refl _ _⟩
 case round =>
  obtain⟨k,hk,rfl,hS,hB⟩:=hrel;rename World=>wr
  by_cases hlt:k<n
  ·have hkl:k<l.length:=by have:=HN.out;omega
   obtain⟨b,o,rfl,hb,c0⟩:=(HL.out.below hB).at1 (f:=fun s=>Value.int .i64 s) (fun _=>rfl) hkl;have HT:=hid (fun (h:(fun s=>x == s) l[k]=true)=>show l.any (fun s=>x == s)=true from List.any_eq_true.2 ⟨_,List.getElem_mem hkl,h⟩);have HF:=hid (fun (h:(fun s=>x == s) l[k]=false)=>show ∀j (hj:j<l.length),j<k+1->(fun s=>x == s) l[j]=false from fun j hj hjk=>by
    by_cases e:j=k
    ·subst e;exact h
    ·exact hS.out j hj (by omega))
   have i0:(0:Int)<=(k:Int):=by omega
   have i1:(k:Int)<(n:Int):=by omega
   generalize l[k]=d at *;clear hS;cases hr:(x == d)
   ·have HF2:=hid (HF.out hr);have hr' : ¬x=d:=beq_eq_false_iff_ne.1 hr;go_wp2_with fail
    go_roundw
    case rel=>exact⟨k+1,by omega,by go_num,HF2,hB⟩
    case measure=>simp[intOf];omega
   ·have HA:=hid (HT.out hr);obtain rfl:x=d:=beq_iff_eq.1 hr;go_wp2_with fail
    go_ret;exact⟨(k:Int),rfl,by rw[HA.out];simp,hB⟩
  ·have i1:¬(k:Int)<(n:Int):=by omega
   have HA:=hid (show l.any (fun s=>x == s)=false from List.any_eq_false.2 fun d hd=>by obtain⟨j,hj,rfl⟩:=List.getElem_of_mem hd;exact fun e=>Bool.false_ne_true ((hS.out j hj (by have:=HN.out;omega)).symm.trans e));go_wp2_with fail
   go_ret;exact⟨-1,rfl,by rw[HA.out];decide,hB⟩
theorem qL6 (g:FuncId)(eg:∀args w,(callFunc g args).run Tryz.prog w=.ok (.enter g args) w)(cp:Array Value)(p:Int->Bool)(l:List Int)(A:Option Addr)(c:Nat)(w:World)(hl:Rd encI 1 w.heap.size A c l w)(hn:l.length<=1000000)(hp:qTH w g cp p l) :
  Calls Tryz.prog 181 #[.slice A l.length c,.func (.func g) #[] cp] w fun e w'=>e=.returned (.bool (l.any (p)))/\Below w.heap.size w w':=by
 have ID:=hid (qLA g eg cp p l A c w hl hn hp);clear hl;generalize l.any (p)=r at *;generalize l.length=n at *
 go_enter Tryz.func181,Tryz.ntmps181
 go_wp2_with fail
 go_at_call 156
 refine ID.out.mono ?_;rintro e w2 ⟨i,rfl,hi,h⟩;have HI:=hid hi;clear hi;go_wp2
 go_ret;exact⟨qA8 HI.out,h⟩
theorem qO6 (x:Int)(l:List Int)(A:Option Addr)(c:Nat)(w:World)(hl:Rd encI 1 w.heap.size A c l w)(hn:l.length<=1000000) :
  Calls Tryz.prog 150 #[.slice A l.length c,.int .i64 x] w fun e w'=>e=.returned (.bool (l.any (fun s=>x == s)))/\Below w.heap.size w w':=by
 have ID:=hid (qO9 x l A c w hl hn);clear hl;generalize l.any (fun s=>x == s)=r at *;generalize l.length=n at *
 go_enter Tryz.func150,Tryz.ntmps150
 go_wp2_with fail
 go_at_call 190
 refine ID.out.mono ?_;rintro e w2 ⟨i,rfl,hi,h⟩;have HI:=hid hi;clear hi;go_wp2
 go_ret;exact⟨qA8 HI.out,h⟩
end
section
theorem qHB:∀(l:List Oper) (k:Nat) (vs:Nat->Value) (a:Act) (i:Nat) (o:Oper) (v:Value),l[i]?=some o->(l.filterMap (·.dst)).Nodup->(qA4 l k vs a).put o.dst v=qA4 l k (upd vs (k+i) v) a
 | [],_,_,_,_,_,_,h,_=>by simp at h
 | o'::l,k,vs,a,0,o,v,h,hn=>by
  have e:o'=o:=by simpa using h
  subst e;have e2:qA4 l (k+1) (upd vs (k+0) v) (a.put o'.dst v)=qA4 l (k+1) vs (a.put o'.dst v):=qDT l (k+1) _ _ _ (fun j hj=>by simp[upd];omega);have e1:upd vs (k+0) v k=v:=by simp[upd]
  rw[qA4,qA4,e1,e2]
  cases hd:o'.dst with
  | none=>rfl
  | some d =>
   rw[List.filterMap_cons,hd,List.nodup_cons]at hn;rw[qES l (k+1) vs _ (some d) v (fun o ho x hx hd2=>hn.1 (List.mem_filterMap.2 ⟨o,ho,by rw[hx,<- hd2]⟩)),qS0]
 | o'::l,k,vs,a,i+1,o,v,h,hn=>by
  have hn2:(l.filterMap (·.dst)).Nodup:=by
   rw[List.filterMap_cons]at hn
   cases hd:o'.dst with
   | none=>rw[hd]at hn;exact hn
   | some d=>rw[hd,List.nodup_cons]at hn;exact hn.2
  have e1:upd vs (k+(i+1)) v k=vs k:=by simp[upd]
  rw[qA4,qA4,qHB l (k+1) vs _ i o v (by simpa using h) hn2,e1,show k+1+i=k+(i+1) by omega]
section
variable {P:Program}{ops:Array Oper}{Q:Exit->Act->World->Prop}{md:Region.Mode}
theorem qDQ {PP:Nat->(Nat->Value)->World->Prop}{Rel:Nat->World->World->Prop}{Pre:Nat->World->Prop}{G:World->Prop}{id:Nat}{a:Act}{w:World}(n:Nat)(hm:P.follows .mixedOrders=true)(hb:qB0 .any ops=true)(ht:qBF n ops=true)(hn:((ops.toList.take n).filterMap (·.dst)).Nodup)(hsz:n<=ops.size)
  (hG:∀j w1 w2,j<n->Rel j w1 w2->G w1->G w2) (hmono:∀i j vs w1 w2,i≠j->qEZ ops ops.size i j=false->G w1->PP i vs w1->Rel j w1 w2->PP i vs w2) (hloc:∀i j vs v w',i≠j->qEZ ops ops.size j i=false->PP j vs w'->PP j (upd vs i v) w') (hpre:∀i j w1 w2,i≠j->qEZ ops ops.size j i=false->G w1->Pre i w1->Rel j w1 w2->Pre i w2) (hG0:G w.drew) (hP0:∀i,i<n->Pre i w.drew) (vs0:Nat->Value) (h0:qA4 (ops.toList.take n) 0 vs0 a=a)
  (hstep:∀(i:Nat) (o:Oper) (vs:Nat->Value) (w':World),i<n->ops[i]?=some o->(∀e∈o.after,Region.binds .any e=true->PP e.on vs w')->G w'->Pre i w' ->
   ∀K:Act->World->Prop,(∀v w'',PP i (upd vs i v) w''->Rel i w' w''->K ((qA4 (ops.toList.take n) 0 vs a).put o.dst v) w'')->if Region.wanted o (yielded ops (qA4 (ops.toList.take n) 0 vs a).tmps)=true then Oper.wp P o (qA4 (ops.toList.take n) 0 vs a) w' K Q else K ((qA4 (ops.toList.take n) 0 vs a).put o.dst undef) w')
  (hrest:∀vs w',(∀i,i<n->PP i vs w')->G w'->wpList P ops Q (ops.toList.drop n) (qA4 (ops.toList.take n) 0 vs a) w'):(Code.region id ops true).wp P Q a w:=by
 let Clo:Array Bool->Prop:=fun listed => ∀j o,ops[j]?=some o->listed.getD j false=true -> ∀e∈o.after,Region.binds .any e=true->listed.getD e.on false=true
 refine wp_region_any hm (qC3 (J:=fun listed a' w'=>Clo listed/\((∃vs,a'=qA4 (ops.toList.take n) 0 vs a/\G w'/\(∀i,i<n->listed.getD i false=true->PP i vs w')/\(∀i,i<n->listed.getD i false=false->Pre i w') /\ ∀i,n<=i->listed.getD i false=false) \/ (∃m,n<m/\(∀i,i<ops.size->listed.getD i false=decide (i<m))/\m<=ops.size/\wpList P ops Q (ops.toList.drop m) a' w'))) hb ?_ ?_ _ _ _ _ (by simp) (by unfold qBX;exact Nat.le_trans (List.length_filter_le _ _) (by simp)) ?_)
 ·rintro i o listed a' w' hi ho hs hun he ⟨hc,hJ⟩ K hK;have hunl:listed.getD i false=false:=by
   have h3:i<listed.size:=by omega
   simp only[Array.getD,h3,dite_true]at hun |-;exact hun
  have hclo:Clo (listed.setIfInBounds i true):=by
   intro j o' ho' hj e hem hbd;rw[qAK]at hj |-;by_cases hji:i=j
   ·subst hji;rw[ho]at ho';cases ho'
    rw[he e hem hbd];rfl
   ·have hj2:listed.getD j false=true:=by simpa [hji] using hj
    rw[hc j o' ho' hj2 e hem hbd];rfl
  have nxt:∀m,m=i->n<=m->(∀j,j<ops.size->listed.getD j false=decide (j<m))->wpList P ops Q (ops.toList.drop m) a' w'->if Region.wanted o (yielded ops a'.tmps)=true then Oper.wp P o a' w' K Q \/ (o.asks P a' w'/\LetsOut Q) else K (a'.put o.dst undef) w':=by
   rintro m rfl hnm hl hw;have hd:ops.toList.drop m=o::ops.toList.drop (m+1):=by
    have h1:m<ops.toList.length:=by simpa using hi
    rw[List.drop_eq_getElem_cons h1]
    congr 1
    have:ops[m]=o:=by rw[Array.getElem?_eq_getElem hi]at ho;exact Option.some.inj ho
    simpa using this
   rw[hd]at hw
   have go:∀a2 w2,wpList P ops Q (ops.toList.drop (m+1)) a2 w2->K a2 w2:=fun a2 w2 h2=>hK a2 w2 ⟨hclo,.inr ⟨m+1,by omega,fun j hj=>by
    rw[qAK,hl j hj];by_cases h1:j<m
    ·simp[h1];omega
    ·by_cases h2:j=m
     ·subst h2;simp;omega
     ·have h3:¬m=j:=fun e=>h2 e.symm;simp[h1,h3];omega,by omega,h2⟩⟩
   unfold wpList at hw;split
   ·rename_i hwt
    rw[if_pos hwt]at hw;rcases hw with h1|h1
    ·exact .inl (Oper.wp_mono go h1)
    ·exact .inr h1
   ·rename_i hwt
    rw[if_neg hwt]at hw;exact go _ _ hw
  by_cases hin:i<n
  ·rcases hJ with⟨vs,rfl,hB,hP,hR,hF⟩|⟨m,hm1,hl,_⟩
   ·have hst:=hstep i o vs w' hin ho (fun e hem hbd=>hP _ (by have:=qEO hb hi ho hem hbd;omega) (he e hem hbd)) hB (hR i hin hunl) K (fun v w'' hv hb'=>hK _ _ ⟨hclo,.inl ⟨upd vs i v,?_,hG i _ _ hin hb' hB,fun j hj hjl => ?_,fun j hj hjl => ?_,fun j hj => ?_⟩⟩)
    ·split
     ·rename_i hwt;rw[if_pos hwt]at hst;exact .inl hst
     ·rename_i hwt;rw[if_neg hwt]at hst;exact hst
    ·have:=qHB (ops.toList.take n) 0 vs a i o v (by rw[List.getElem?_take];simp[hin];simpa using ho) hn;rw[this];simp
    ·by_cases hji:j=i
     ·subst hji;exact hv
     ·have hji2:¬i=j:=fun e=>hji e.symm;have hjl2:listed.getD j false=true:=by
       rw[qAK]at hjl
       simpa [hji2] using hjl
      have hwf:qEZ ops ops.size j i=false:=by
       cases hwt:qEZ ops ops.size j i
       ·rfl
       ·exfalso;have hjs:j<ops.size:=by omega
        have:=qB1 hc ops.size j i ops[j] (Array.getElem?_eq_getElem hjs) (hc j ops[j] (Array.getElem?_eq_getElem hjs) hjl2) hwt;rw[hunl]at this;cases this
      exact hloc _ _ _ _ _ hji2 hwf (hmono _ _ _ _ _ hji hwf hB (hP j hj hjl2) hb')
    ·have hji:j≠i:=by
      rintro rfl;rw[qAK]at hjl;have h4:j<listed.size:=by omega
      simp[h4]at hjl
     have hji2:¬i=j:=fun e=>hji e.symm;have hjl2:listed.getD j false=false:=by
      rw[qAK]at hjl
      simpa [hji2] using hjl
     refine hpre _ _ _ _ hji ?_ hB (hR j hj hjl2) hb';cases hwt:qEZ ops ops.size i j
     ·rfl
     ·have:=qB1 hc ops.size i j o ho he hwt;rw[hjl2]at this;cases this
    ·rw[qAK,hF j hj];have:¬i=j:=by omega
     simp[this]
   ·rw[hl i hi]at hunl;have:=of_decide_eq_false hunl;omega
  ·have hall:∀j,j<i->listed.getD j false=true:=by
    intro j hj;unfold qBF at ht;have h1:=List.all_eq_true.1 ht i (List.mem_range.2 hi);rw[decide_eq_false hin,Bool.false_or]at h1;have h2:=List.all_eq_true.1 h1 j (List.mem_range.2 hj);exact qB1 hc _ i j o ho he h2
   rcases hJ with⟨vs,rfl,hB,hP,hR,hF⟩|⟨m,hm1,hl,hm2,hw⟩
   ·have hin2:n=i:=by
     refine Classical.byContradiction fun hne => ?_;have:=hall n (by omega);rw[hF n lR]at this;cases this
    refine nxt n hin2 lR (fun j hj => ?_) (hrest vs w' (fun j hj=>hP j hj (hall j (by omega))) hB);by_cases h1:j<n
    ·rw[decide_eq_true h1];exact hall j (by omega)
    ·rw[decide_eq_false h1];exact hF j (by omega)
   ·have him:m=i:=by
     rw[hl i hi]at hunl;have h1:=of_decide_eq_false hunl;refine Classical.byContradiction fun hne => ?_;have h2:=hall m (by omega);rw[hl m (by omega)]at h2;have:=of_decide_eq_true h2;omega
    exact nxt m him (by omega) hl hw
 ·rintro a' w' ⟨_,hJ⟩;have hrep:∀i,i<ops.size->(Array.replicate ops.size true).getD i false=true:=fun i hi=>by simp[Array.getD,hi]
  rcases hJ with⟨vs,rfl,hB,hP,hR,hF⟩|⟨m,hm1,hl,hm2,hw⟩
  ·have hge:n=ops.size:=by
    refine Classical.byContradiction fun hne => ?_;have h1:=hF n lR;rw[hrep n (by omega)]at h1;cases h1
   have:=hrest vs w' (fun j hj=>hP j hj (hrep j (by omega))) hB;rw[List.drop_eq_nil_of_le (by simp[hge])]at this;exact this
  ·have hge:m=ops.size:=by
    refine Classical.byContradiction fun hne => ?_;have h1:=hl m (by omega);rw[hrep m (by omega)]at h1;have:=of_decide_eq_true h1.symm;omega
   rw[List.drop_eq_nil_of_le (by simp[hge])]at hw;exact hw
 ·refine⟨fun j o ho hj => ?_,.inl ⟨vs0,h0.symm,hG0,fun i hi hj => ?_,fun i hi _=>hP0 i hi,fun i hi => ?_⟩⟩
  ·exfalso;by_cases h:j<ops.size
   iterate 2 ·simp[Array.getD,h]at hj
  ·exfalso;by_cases h:i<ops.size
   iterate 2 ·simp[Array.getD,h]at hj
  ·by_cases h:i<ops.size
   iterate 2 ·simp[Array.getD,h]
end
