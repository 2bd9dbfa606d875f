/- PoolMem, RegInv3 -/
import Derived.Test.YteobmfpbgnmffaaGreatDoorT16
import Derived.Maps.GroupsBeside
set_option linter.unusedVariables false
set_option linter.unusedSimpArgs false
namespace Go.Proofs.YteobmfpbgnmffaaGreatDoor
section
open Go.RowKit Go.Shelf
structure Pr where
 pk:Pk
 repo:Int
 prio:Int
def Pr.cells (x:Pr) : List Value := x.pk.cells++[.int .i64 x.repo,.int .i64 x.prio]
theorem qG7 (x:Pr) : x.cells.length=17 := rfl
theorem qG8 (x:Pr):∀u∈x.cells,u.oneCell'=true := by
 intro u hu;simp only[Pr.cells,Pk.cells,List.cons_append,List.nil_append,List.mem_cons,List.not_mem_nil,or_false]at hu;rcases hu with rfl|rfl|rfl|rfl|rfl|rfl|rfl|rfl|rfl|rfl|rfl|rfl|rfl|rfl|rfl|rfl|rfl<;>rfl
theorem qDV (x:Pk):∀u∈x.cells,u.oneCell'=true := fun u hu=>qG8 ⟨x,0,0⟩ u (List.mem_append_left _ hu)
theorem qAC {w w':World}(h:Below w.heap.size w w')(row:Option Nat) : w.grownBy w' row := ⟨h.os,h.tape,h.output,h.size,fun k hk _=>h.block k hk⟩
theorem qGV {w w':World}(h:w.grownBy w' none) : Below w.heap.size w w' := ⟨h.os,h.tape,h.output,h.size,fun k hk=>h.block k hk (by simp)⟩
structure Hangs (No:Nat->Prop)(q:Pk)(W:World) : Prop where
 lt:∀b,No b->b<W.heap.size
 laid:∀W':World,W.heap.size<=W'.heap.size->(∀b,No b->W'.heap[b]?=W.heap[b]?)->q.Laid W'.heap.size W'
theorem Hangs.now {No:Nat->Prop}{q:Pk}{W:World}(h:Hangs No q W) : q.Laid W.heap.size W := h.laid W lR fun _ _=>rfl
theorem Hangs.keep {No No':Nat->Prop}{q:Pk}{W W':World}(h:Hangs No q W)(hs:W.heap.size<=W'.heap.size)(hb:∀b,No b->W'.heap[b]?=W.heap[b]?)(hN:∀b,No b->No' b)(hlt:∀b,No' b->b<W'.heap.size) : Hangs No' q W' :=
 ⟨hlt,fun W2 h2 hb2=>h.laid W2 (Nat.le_trans hs h2) fun b hq=>(hb2 b (hN b hq)).trans (hb b hq)⟩
theorem PkOwn.keepB {base:Nat}{q:Pk}{W W':World}(h:PkOwn base q W)(hs:W.heap.size<=W'.heap.size)(hb:∀b,base<=b->b<W.heap.size->W'.heap[b]?=W.heap[b]?) : PkOwn base q W' :=
 have o:∀ {α:Type} {enc:α->List Value} {size:Nat} {e:TypeId} {v:Value} {l:List α},Own enc size base e v l W->Own enc size base e v l W':=fun k=>qAP k lR fun g hg=>hb g (World.ownsRow.lt k g hg).1 (World.ownsRow.lt k g hg).2;have r:∀ {l:List RV} {v:Value},ROwn base l v W->ROwn base l v W':=fun k=>⟨o k.own,fun a ha=>(k.tr a ha).keep (fun b hq=>⟨hq.1,Nat.lt_of_lt_of_le hq.2.1 hs,hq.2.2⟩) fun b hq=>hb b hq.1 hq.2.1⟩
 ⟨o h.prov,o h.obs,o h.files,r h.req,r h.con,r h.rcm,r h.sup,r h.sug,r h.enh⟩
theorem PkOwn.hangs {base B:Nat}{p q:Pk}{W W0:World}(h:PkOwn base q W)(ha:Alike p q)(hl:p.Laid B W0) : Hangs (fun b=>base<=b/\b<W.heap.size) q W :=
 ⟨fun _ hb=>hb.2,fun W' hs hb=>(h.keepB hs fun b h1 h2=>hb b ⟨h1,h2⟩).laid ha hl⟩
def qXZ (base mb N:Nat)(W:World) : Prop := ∃D,W.ownsGroups (H := Unit) Tryz.prog 9 base 3 .i64 mb N D
structure PoolSt (w0:World)(P mb base:Nat)(I:Int)(N:Nat)(L:List Pr)(No:Nat->Prop)(v:Value)(W:World) : Prop where
 old:Below w0.heap.size w0 W
 loP:w0.heap.size<=P
 loM:w0.heap.size<=mb
 ne:mb≠P
 hP:P<base
 hM:mb<base
 hb:base<=W.heap.size
 c0:W.cell? ⟨P,0,none⟩=some v
 c1:W.cell? ⟨P,1,none⟩=some (.int .i64 I)
 c2:W.cell? ⟨P,2,none⟩=some (.map (some mb))
 fz:∀i,i<3->W.frozen? ⟨P,i,none⟩=false
 own:Own Pr.cells 17 base 161 v L W
 hang:∀x∈L,Hangs No x.pk W
 noR:∀g,v.ownBlock=some g -> ¬No g
 noB:∀g,No g->base<=g/\g<W.heap.size
 grp:qXZ base mb N W
 shun:W.Shuns mb (fun g=>No g \/ v.ownBlock=some g)
section
variable {w0:World}{P mb base:Nat}{I:Int}{N:Nat}{L:List Pr}{No:Nat->Prop}{v:Value}{W W':World}
theorem PoolSt.then (h:PoolSt w0 P mb base I N L No v W)(hb:Below W.heap.size W W') : PoolSt w0 P mb base I N L No v W' := by
 have hP:P<W.heap.size:=Nat.lt_of_lt_of_le h.hP h.hb;have hM:mb<W.heap.size:=Nat.lt_of_lt_of_le h.hM h.hb;have hg:=qAC hb none;obtain⟨D,hD⟩:=h.grp
 exact { h with
  old:=h.old.trans (hb.mono h.old.size)
  hb:=Nat.le_trans h.hb hb.size
  c0:=(hb.cell (p:=⟨P,0,none⟩) hP).trans h.c0
  c1:=(hb.cell (p:=⟨P,1,none⟩) hP).trans h.c1
  c2:=(hb.cell (p:=⟨P,2,none⟩) hP).trans h.c2
  fz:=fun i hi=>(hb.frozen (p:=⟨P,i,none⟩) hP).trans (h.fz i hi)
  own:=qAP h.own lR fun g hg=>hb.block g (World.ownsRow.lt h.own g hg).2
  hang:=fun x hx=>(h.hang x hx).keep hb.size (fun b hq=>hb.block b (h.noB b hq).2) (fun _ hq=>hq) fun b hq=>Nat.lt_of_lt_of_le (h.noB b hq).2 hb.size
  noB:=fun g hg=>⟨(h.noB g hg).1,Nat.lt_of_lt_of_le (h.noB g hg).2 hb.size⟩
  grp:=⟨D,hD.kept hg (by simp) (h.shun.rowsOff (by simp))⟩
  shun:=h.shun.kept hg hM (by simp) }
theorem PoolSt.named {N':Nat}{row:Option Nat}{D:DataW Unit}{w1:World}(h:PoolSt w0 P mb base I N L No v W)(hr:∀j,row=some j->base<=j /\ ¬No j/\v.ownBlock≠some j)(h1:W.grownBy w1 row)(h2:w1.grownBy W' (some mb))(hg:W'.ownsGroups (H := Unit) Tryz.prog 9 base 3 .i64 mb N' D)
  (hs:W'.Shuns mb (fun g=>No g \/ v.ownBlock=some g)):PoolSt w0 P mb base I N' L No v W':=by
 have hP:P<W.heap.size:=Nat.lt_of_lt_of_le h.hP h.hb;have blk:∀k,k<W.heap.size->some k≠row->k≠mb->W'.heap[k]?=W.heap[k]?:=fun k hk hr hm=>(h2.block k (Nat.lt_of_lt_of_le hk h1.size) (fun e=>hm (Option.some.inj e))).trans (h1.block k hk hr);have hsz:W.heap.size<=W'.heap.size:=Nat.le_trans h1.size h2.size;have pP:W'.heap[P]?=W.heap[P]?:=blk P hP (fun e=>by have:=(hr P e.symm).1;have:=h.hP;omega) (fun e=>h.ne e.symm);have hg0:Below w0.heap.size w0 W':=(h.old.grown h1 h.old.size (fun k e=>Nat.le_trans h.loP (Nat.le_of_lt (Nat.lt_of_lt_of_le h.hP (hr k e).1)))).grown h2 (Nat.le_trans h.old.size h1.size) (fun k e=>by cases e;exact h.loM)
 exact { h with
  old:=hg0
  hb:=Nat.le_trans h.hb hsz
  c0:=(World.cell?_of_block (w:=W) (a:=⟨P,0,none⟩) pP).trans h.c0
  c1:=(World.cell?_of_block (w:=W) (a:=⟨P,1,none⟩) pP).trans h.c1
  c2:=(World.cell?_of_block (w:=W) (a:=⟨P,2,none⟩) pP).trans h.c2
  fz:=fun i hi=>(World.frozen?_of_block (w:=W) (a:=⟨P,i,none⟩) pP).trans (h.fz i hi)
  own:=qAP h.own lR fun g hg=>blk g (World.ownsRow.lt h.own g hg).2 (fun e=>(hr g e.symm).2.2 hg) (fun e=>by have:=(World.ownsRow.lt h.own g hg).1;have:=h.hM;omega)
  hang:=fun x hx=>(h.hang x hx).keep hsz (fun b hq=>blk b (h.noB b hq).2 (fun e=>(hr b e.symm).2.1 hq) (fun e=>by have:=(h.noB b hq).1;have:=h.hM;omega)) (fun _ hq=>hq) fun b hq=>Nat.lt_of_lt_of_le (h.noB b hq).2 hsz
  noB:=fun g hg=>⟨(h.noB g hg).1,Nat.lt_of_lt_of_le (h.noB g hg).2 hsz⟩
  grp:=⟨D,hg⟩
  shun:=hs }
theorem PoolSt.more {w1:World}{q:Pk}{r p:Int}{NoQ:Nat->Prop}{v':Value}(h:PoolSt w0 P mb base I N L No v W)(h1:W.grownBy w1 v.ownBlock)(ho:Own Pr.cells 17 base 161 v' (L++[⟨q,r,p⟩]) w1)(hq:Hangs NoQ q w1)(hNB:∀b,NoQ b->W.heap.size<=b)(hN:∀g,v'.ownBlock=some g -> ¬NoQ g)
  (hl:v'.ownBlock=v.ownBlock \/ ∃g,v'.ownBlock=some g/\W.heap.size<=g):PoolSt w0 P mb base I N (L++[⟨q,r,p⟩]) (fun b=>No b \/ NoQ b) v' (w1.setCell ⟨P,0,none⟩ v'):=by
 have hP:P<W.heap.size:=Nat.lt_of_lt_of_le h.hP h.hb;have hM:mb<W.heap.size:=Nat.lt_of_lt_of_le h.hM h.hb;have hrow:∀g,v.ownBlock=some g->base<=g/\g<W.heap.size:=World.ownsRow.lt h.own;have hsz:(w1.setCell ⟨P,0,none⟩ v').heap.size=w1.heap.size:=by simp[World.setCell]
 have hs1:∀b,b≠P->(w1.setCell ⟨P,0,none⟩ v').heap[b]?=w1.heap[b]?:=fun b hb=>Below.heap_setCell _ _ _ _ hb;have blk:∀k,k<W.heap.size->v.ownBlock≠some k->k≠P->(w1.setCell ⟨P,0,none⟩ v').heap[k]?=W.heap[k]?:=fun k hk hr hp=>(hs1 k hp).trans (h1.block k hk (fun e=>hr e.symm));have pP:w1.heap[P]?=W.heap[P]?:=h1.block P hP (fun e=>by have:=(hrow P e.symm).1;have:=h.hP;omega);have gP:w1.grownBy (w1.setCell ⟨P,0,none⟩ v') (some P):=⟨rfl,rfl,rfl,Nat.le_of_eq hsz.symm,fun k _ hk=>hs1 k (fun e=>hk (by rw[e]))⟩;obtain⟨D,hD⟩:=h.grp;have mne:some mb≠v.ownBlock:=fun e=>by have:=(hrow mb e.symm).1;have:=h.hM;omega
 have hshun:W.Shuns mb (fun g=>(No g \/ NoQ g) \/ v'.ownBlock=some g):=h.shun.reno hD fun g hg=>by
  rcases hg with (hg|hg)|hg
  ·exact .inl (.inl hg)
  ·exact .inr (hNB g hg)
  ·rcases hl with e|⟨g',e,hge⟩
   ·exact .inl (.inr (by rw[<- e];exact hg))
   ·rw[e]at hg;cases hg;exact .inr hge
 have hD1:=hD.kept h1 mne (h.shun.rowsOff fun j hj=>.inr hj);have hS1:=hshun.kept h1 hM mne;have cP:∀i,(w1.cell? ⟨P,i,none⟩=W.cell? ⟨P,i,none⟩):=fun i=>World.cell?_of_block (w:=W) (a:=⟨P,i,none⟩) pP;refine⟨(h.old.grown h1 h.old.size (fun k e=>Nat.le_trans h.loP (Nat.le_of_lt (Nat.lt_of_lt_of_le h.hP (hrow k e).1)))).setCell (p:=⟨P,0,none⟩) h.loP v',h.loP,h.loM,h.ne,h.hP,h.hM,by rw[hsz];exact Nat.le_trans h.hb h1.size,qAY ((cP 0).trans h.c0),(qA0 (by simp)).trans ((cP 1).trans h.c1),(qA0 (by simp)).trans ((cP 2).trans h.c2),fun i hi => ?_,?_,fun x hx => ?_,fun g hg => ?_,fun g hg => ?_,⟨D,hD1.kept gP (fun e=>h.ne (Option.some.inj e)) (hD1.rowsAbove fun j hj=>by cases hj;exact h.hP)⟩,hS1.kept gP (Nat.lt_of_lt_of_le hM h1.size) (fun e=>h.ne (Option.some.inj e))⟩
 ·rw[World.frozen?_setCell];exact (World.frozen?_of_block (w:=W) (a:=⟨P,i,none⟩) pP).trans (h.fz i hi)
 ·exact qAP ho lR fun g hg=>hs1 g (fun e=>by have:=(World.ownsRow.lt ho g hg).1;have:=h.hP;omega)
 ·rcases List.mem_append.1 hx with hx|hx
  ·exact (h.hang x hx).keep (by rw[hsz];exact h1.size) (fun b hq=>blk b (h.noB b hq).2 (fun e=>h.noR b e hq) (fun e=>by have:=(h.noB b hq).1;have:=h.hP;omega)) (fun _ hq=>.inl hq) fun b hb=>by
    rw[hsz];rcases hb with hb|hb
    ·exact Nat.lt_of_lt_of_le (h.noB b hb).2 h1.size
    ·exact hq.lt b hb
  ·simp at hx;subst hx;exact hq.keep (by rw[hsz];exact Nat.le_refl _) (fun b hb=>hs1 b (fun e=>by have:=hNB b hb;omega)) (fun _ hb=>.inr hb) fun b hb=>by
    rw[hsz];rcases hb with hb|hb
    ·exact Nat.lt_of_lt_of_le (h.noB b hb).2 h1.size
    ·exact hq.lt b hb
 ·rintro (hn|hn)
  ·rcases hl with e|⟨g',e,hge⟩
   ·exact h.noR g (by rw[<- e];exact hg) hn
   ·rw[e]at hg;cases hg;have:=(h.noB _ hn).2;omega
  ·exact hN g hg hn
 ·rw[hsz];rcases hg with hg|hg
  ·exact⟨(h.noB g hg).1,Nat.lt_of_lt_of_le (h.noB g hg).2 h1.size⟩
  ·exact⟨Nat.le_trans h.hb (hNB g hg),hq.lt g hg⟩
end
structure PoolAt (P:Nat)(I:Int)(L:List Pr)(W:World) : Prop where
 lt:P<W.heap.size
 row:∃A c,W.cell? ⟨P,0,none⟩=some (.slice A L.length c)/\Rd Pr.cells 17 W.heap.size A c L W
 c1:W.cell? ⟨P,1,none⟩=some (.int .i64 I)
 laid:∀x∈L,x.pk.Laid W.heap.size W
theorem PoolAt.then {P:Nat}{I:Int}{L:List Pr}{W W':World}(h:PoolAt P I L W)(hb:Below W.heap.size W W') : PoolAt P I L W' := by
 obtain⟨A,c,h0,hr⟩:=h.row;exact⟨Nat.lt_of_lt_of_le h.lt hb.size,⟨A,c,(hb.cell (p:=⟨P,0,none⟩) h.lt).trans h0,(hr.below hb).more hb.size⟩,(hb.cell (p:=⟨P,1,none⟩) h.lt).trans h.c1,fun x hx=>(h.laid x hx).calls hb⟩
theorem PoolSt.at_ {w0:World}{P mb base:Nat}{I:Int}{N:Nat}{L:List Pr}{No:Nat->Prop}{v:Value}{W:World}(h:PoolSt w0 P mb base I N L No v W) : PoolAt P I L W := by
 obtain⟨A,c,e,hr⟩:=h.own.rd qG7;exact⟨Nat.lt_of_lt_of_le h.hP h.hb,⟨A,c,e ▸ h.c0,hr⟩,h.c1,fun x hx=>(h.hang x hx).now⟩
end
section
open Go.RowKit Go.Shelf
section
variable {P:Program}{ops:Array Oper}{Q:Exit->Act->World->Prop}{md:Region.Mode}
theorem qC3 {J:Array Bool->Act->World->Prop}(hb:qB0 md ops=true)
  (hstep:∀(i:Nat) (o:Oper) (listed:Array Bool) (a:Act) (w:World),i<ops.size->ops[i]?=some o->listed.size=ops.size->listed.getD i true=false->(∀e∈o.after,Region.binds md e=true->listed.getD e.on false=true)->J listed a w ->
   ∀K:Act->World->Prop,(∀a' w',J (listed.setIfInBounds i true) a' w'->K a' w')->if Region.wanted o (yielded ops a.tmps)=true then Oper.wp P o a w K Q \/ (o.asks P a w/\LetsOut Q) else K (a.put o.dst undef) w)
  (hdone:∀a w,J (Array.replicate ops.size true) a w->Q .normal a w) :
  ∀(fuel:Nat) (listed:Array Bool) (a:Act) (w:World),listed.size=ops.size->qBX listed<=fuel->J listed a w->wpAny P md ops Q fuel listed a w
 |0,listed,a,w,hs,hf,hJ=>by
  have hall:∀i,i<ops.size->listed.getD i true=true:=fun i hi=>by
   have h1:=qEK (Nat.le_zero.1 hf) (listed[i]'(by omega)) (by simp);have h2:i<listed.size:=by omega
   simp only[Array.getD,h2,dite_true];exact h1
  refine⟨?_,hdone a w (by rw[<- qFD hs hall];exact hJ)⟩;refine List.eq_nil_iff_forall_not_mem.2 fun i hi => ?_;obtain⟨h1,h2,_⟩:=qEC hi;rw[hall i h1]at h2;cases h2
 | fuel+1,listed,a,w,hs,hf,hJ=>by
  refine⟨fun hr=>hdone a w (by rw[<- qFD hs (qK6 hb hs hr)];exact hJ),fun i hi => ?_⟩;obtain⟨h1,h2,o,ho,he⟩:=qEC hi;have hst:=hstep i o listed a w h1 ho hs h2 he hJ (wpAny P md ops Q fuel (listed.setIfInBounds i true)) (fun a' w' hj=>qC3 hb hstep hdone fuel _ a' w' (by simpa using hs) (by
   have h3:i<listed.size:=by omega
   have h4:listed.toList[i]?=some false:=by
    simp only[Array.getD,h3,dite_true]at h2;rw[List.getElem?_eq_getElem (by simpa using h3)]
    simpa using h2
   have h5:=qDC _ _ h4;unfold qBX at hf |-;rw[Array.toList_setIfInBounds];omega) hj)
  unfold wpOp;simp only[ho];exact hst
def qEZ (ops:Array Oper) : Nat->Nat->Nat->Bool
 |0,_,_=>false
 | k+1,i,j=>((ops[i]?).map fun o=>o.after.any fun e=>Region.binds .any e && (e.on == j || qEZ ops k e.on j)).getD false
theorem qB1 {listed:Array Bool}(hc:∀j o,ops[j]?=some o->listed.getD j false=true -> ∀e∈o.after,Region.binds .any e=true->listed.getD e.on false=true):∀(k i j:Nat) (o:Oper),ops[i]?=some o->(∀e∈o.after,Region.binds .any e=true->listed.getD e.on false=true)->qEZ ops k i j=true->listed.getD j false=true
 |0,_,_,_,_,_,h=>by simp[qEZ]at h
 | k+1,i,j,o,ho,he,h=>by
  rw[qEZ,ho,Option.map_some,Option.getD_some]at h;obtain⟨x,hx,h3⟩:=Array.any_eq_true.1 h;simp only[Bool.and_eq_true,Bool.or_eq_true,beq_iff_eq]at h3;obtain⟨hbd,h4⟩:=h3;have hl:=he _ (Array.getElem_mem hx) hbd;rcases h4 with h4|h4
  ·rw[<- h4];exact hl
  ·cases ho2:ops[(o.after[x]).on]? with
   | none =>
    cases k with
    | zero=>simp[qEZ]at h4
    | succ k=>simp[qEZ,ho2]at h4
   | some o2=>exact qB1 hc k _ j o2 ho2 (hc _ o2 ho2 hl) h4
def qBF (n:Nat)(ops:Array Oper) : Bool := (List.range ops.size).all fun i=>decide (i<n) || (List.range i).all fun j=>qEZ ops ops.size i j
theorem qAK {l:Array Bool}{i k:Nat} : (l.setIfInBounds i true).getD k false=(l.getD k false || (decide (i=k) && decide (k<l.size))) := by
 rw[Array.getD_eq_getD_getElem?,Array.getD_eq_getD_getElem?,Array.getElem?_setIfInBounds];by_cases h:i=k
 ·subst h;by_cases h2:i<l.size
  iterate 2 ·simp[h2]
 ·simp[h]
theorem qA6 {PP:Nat->Value->World->Prop}{id:Nat}{a:Act}{w:World}(n:Nat)(hm:P.follows .mixedOrders=true)(hb:qB0 .any ops=true)(ht:qBF n ops=true)(hn:((ops.toList.take n).map (·.dst)).Nodup)(hsz:n<=ops.size)
  (hmono:∀i v w w',PP i v w->Below w.heap.size w w'->PP i v w') (vs0:Nat->Value) (h0:qA4 (ops.toList.take n) 0 vs0 a=a)
  (hstep:∀(i:Nat) (o:Oper) (vs:Nat->Value) (w':World),i<n->ops[i]?=some o->(∀e∈o.after,Region.binds .any e=true->PP e.on (vs e.on) w')->Below w.heap.size w w' ->
   ∀K:Act->World->Prop,(∀v w'',PP i v w''->Below w'.heap.size w' w''->K ((qA4 (ops.toList.take n) 0 vs a).put o.dst v) w'')->if Region.wanted o (yielded ops (qA4 (ops.toList.take n) 0 vs a).tmps)=true then Oper.wp P o (qA4 (ops.toList.take n) 0 vs a) w' K Q else K ((qA4 (ops.toList.take n) 0 vs a).put o.dst undef) w')
  (hrest:∀vs w',(∀i,i<n->PP i (vs i) w')->Below w.heap.size w w'->wpList P ops Q (ops.toList.drop n) (qA4 (ops.toList.take n) 0 vs a) w'):(Code.region id ops true).wp P Q a w:=by
 let Clo:Array Bool->Prop:=fun listed => ∀j o,ops[j]?=some o->listed.getD j false=true -> ∀e∈o.after,Region.binds .any e=true->listed.getD e.on false=true
 refine wp_region_any hm (qC3 (J:=fun listed a' w'=>Clo listed/\((∃vs,a'=qA4 (ops.toList.take n) 0 vs a/\Below w.heap.size w w'/\(∀i,i<n->listed.getD i false=true->PP i (vs i) w') /\ ∀i,n<=i->listed.getD i false=false) \/ (∃m,n<m/\(∀i,i<ops.size->listed.getD i false=decide (i<m))/\m<=ops.size/\wpList P ops Q (ops.toList.drop m) a' w'))) hb ?_ ?_ _ _ _ _ (by simp) (by unfold qBX;exact Nat.le_trans (List.length_filter_le _ _) (by simp)) ?_)
 ·rintro i o listed a' w' hi ho hs hun he ⟨hc,hJ⟩ K hK;have hunl:listed.getD i false=false:=by
   have h3:i<listed.size:=by omega
   simp only[Array.getD,h3,dite_true]at hun |-;exact hun
  have hclo:Clo (listed.setIfInBounds i true):=by
   intro j o' ho' hj e hem hbd;rw[qAK]at hj |-;by_cases hji:i=j
   ·subst hji;rw[ho]at ho';cases ho'
    rw[he e hem hbd];rfl
   ·have hj2:listed.getD j false=true:=by simpa [hji] using hj
    rw[hc j o' ho' hj2 e hem hbd];rfl
  have nxt:∀m,m=i->n<=m->(∀j,j<ops.size->listed.getD j false=decide (j<m))->wpList P ops Q (ops.toList.drop m) a' w'->if Region.wanted o (yielded ops a'.tmps)=true then Oper.wp P o a' w' K Q \/ (o.asks P a' w'/\LetsOut Q) else K (a'.put o.dst undef) w':=by
   rintro m rfl hnm hl hw;have hd:ops.toList.drop m=o::ops.toList.drop (m+1):=by
    have h1:m<ops.toList.length:=by simpa using hi
    rw[List.drop_eq_getElem_cons h1]
    congr 1
    have:ops[m]=o:=by rw[Array.getElem?_eq_getElem hi]at ho;exact Option.some.inj ho
    simpa using this
   rw[hd]at hw
   have go:∀a2 w2,wpList P ops Q (ops.toList.drop (m+1)) a2 w2->K a2 w2:=fun a2 w2 h2=>hK a2 w2 ⟨hclo,.inr ⟨m+1,by omega,fun j hj=>by
    rw[qAK,hl j hj];by_cases h1:j<m
    ·simp[h1];omega
    ·by_cases h2:j=m
     ·subst h2;simp;omega
     ·have h3:¬m=j:=fun e=>h2 e.symm;simp[h1,h3];omega,by omega,h2⟩⟩
   unfold wpList at hw;split
   ·rename_i hwt
    rw[if_pos hwt]at hw;rcases hw with h1|h1
    ·exact .inl (Oper.wp_mono go h1)
    ·exact .inr h1
   ·rename_i hwt
    rw[if_neg hwt]at hw;exact go _ _ hw
  by_cases hin:i<n
  ·rcases hJ with⟨vs,rfl,hB,hP,hF⟩|⟨m,hm1,hl,_⟩
   ·have hst:=hstep i o vs w' hin ho (fun e hem hbd=>hP _ (by have:=qEO hb hi ho hem hbd;omega) (he e hem hbd)) hB K (fun v w'' hv hb'=>hK _ _ ⟨hclo,.inl ⟨upd vs i v,?_,hB.trans (hb'.mono hB.size),fun j hj hjl => ?_,fun j hj => ?_⟩⟩)
    ·split
     ·rename_i hwt;rw[if_pos hwt]at hst;exact .inl hst
     ·rename_i hwt;rw[if_neg hwt]at hst;exact hst
    ·have:=qC4 (ops.toList.take n) 0 vs a i o v (by rw[List.getElem?_take];simp[hin];simpa using ho) hn;rw[this];simp
    ·by_cases hji:j=i
     ·subst hji;simp[upd];exact hv
     ·simp only[upd,hji,if_false];refine hmono _ _ _ _ (hP j hj ?_) hb';rw[qAK]at hjl;have:¬i=j:=fun e=>hji e.symm
      simpa [this] using hjl
    ·rw[qAK,hF j hj];have:¬i=j:=by omega
     simp[this]
   ·rw[hl i hi]at hunl;have:=of_decide_eq_false hunl;omega
  ·have hall:∀j,j<i->listed.getD j false=true:=by
    intro j hj;unfold qBF at ht;have h1:=List.all_eq_true.1 ht i (List.mem_range.2 hi);rw[decide_eq_false hin,Bool.false_or]at h1;have h2:=List.all_eq_true.1 h1 j (List.mem_range.2 hj);exact qB1 hc _ i j o ho he h2
   rcases hJ with⟨vs,rfl,hB,hP,hF⟩|⟨m,hm1,hl,hm2,hw⟩
   ·have hin2:n=i:=by
     refine Classical.byContradiction fun hne => ?_;have:=hall n (by omega);rw[hF n lR]at this;cases this
    refine nxt n hin2 lR (fun j hj => ?_) (hrest vs w' (fun j hj=>hP j hj (hall j (by omega))) hB);by_cases h1:j<n
    ·rw[decide_eq_true h1];exact hall j (by omega)
    ·rw[decide_eq_false h1];exact hF j (by omega)
   ·have him:m=i:=by
     rw[hl i hi]at hunl;have h1:=of_decide_eq_false hunl;refine Classical.byContradiction fun hne => ?_;have h2:=hall m (by omega);rw[hl m (by omega)]at h2;have:=of_decide_eq_true h2;omega
    exact nxt m him (by omega) hl hw
 ·rintro a' w' ⟨_,hJ⟩;have hrep:∀i,i<ops.size->(Array.replicate ops.size true).getD i false=true:=fun i hi=>by simp[Array.getD,hi]
  rcases hJ with⟨vs,rfl,hB,hP,hF⟩|⟨m,hm1,hl,hm2,hw⟩
  ·have hge:n=ops.size:=by
    refine Classical.byContradiction fun hne => ?_;have h1:=hF n lR;rw[hrep n (by omega)]at h1;cases h1
   have:=hrest vs w' (fun j hj=>hP j hj (hrep j (by omega))) hB;rw[List.drop_eq_nil_of_le (by simp[hge])]at this;exact this
  ·have hge:m=ops.size:=by
    refine Classical.byContradiction fun hne => ?_;have h1:=hl m (by omega);rw[hrep m (by omega)]at h1;have:=of_decide_eq_true h1.symm;omega
   rw[List.drop_eq_nil_of_le (by simp[hge])]at hw;exact hw
 ·refine⟨fun j o ho hj => ?_,.inl ⟨vs0,h0.symm,bR.drew,fun i hi hj => ?_,fun i hi => ?_⟩⟩
  ·exfalso;by_cases h:j<ops.size
   iterate 2 ·simp[Array.getD,h]at hj
  ·exfalso;by_cases h:i<ops.size
   iterate 2 ·simp[Array.getD,h]at hj
  ·by_cases h:i<ops.size
   iterate 2 ·simp[Array.getD,h]
end
