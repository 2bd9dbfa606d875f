/- R12Mem -/
import Derived.Test.YteobmfpbgnmffaaGreatDoorT23
set_option linter.unusedVariables false
set_option linter.unusedSimpArgs false
namespace Go.Proofs.YteobmfpbgnmffaaGreatDoor
open Go.RowKit Go.Shelf
def qAQ (l L:List Pk) : Prop := L.length=l.length /\ ∀(i:Nat) (h:i<l.length) (h':i<L.length),Alike l[i] L[i]
theorem qAQ.nil : qAQ [] [] := ⟨rfl,fun i h=>absurd h (Nat.not_lt_zero _)⟩
theorem qAQ.snoc {l L:List Pk}{x q:Pk}(h:qAQ l L)(hx:Alike x q) : qAQ (l++[x]) (L++[q]) := by
  refine⟨by simp[h.1],fun i hi hi' => ?_⟩;by_cases hlt:i<l.length
  · rw[List.getElem_append_left hlt,List.getElem_append_left (by rw[h.1];exact hlt)];exact h.2 i hlt (by rw[h.1];exact hlt)
  · have e:i=l.length:=by rw[List.length_append,List.length_singleton]at hi;omega
    subst e;rw[List.getElem_append_right lR,List.getElem_append_right (by rw[h.1];exact Nat.le_refl _)]
    simpa [h.1] using hx
structure RPoolAt (Q:Nat)(I:Int)(L:List Pk)(W:World) : Prop where
  lt:Q<W.heap.size
  c0:∃A c,W.cell? ⟨Q,0,none⟩=some (.slice A L.length c)/\Rd Pk.cells 15 W.heap.size A c L W
  c1:W.cell? ⟨Q,1,none⟩=some (.int .i64 I)
  laid:∀q∈L,q.Laid W.heap.size W
theorem RPoolAt.then {Q:Nat}{I:Int}{L:List Pk}{W W':World}(h:RPoolAt Q I L W)(hb:Below W.heap.size W W') : RPoolAt Q I L W' := by
  obtain⟨A,c,h1,h2⟩:=h.c0;exact⟨Nat.lt_of_lt_of_le h.lt hb.size,⟨A,c,(hb.cell (p:=⟨Q,0,none⟩) h.lt).trans h1,(h2.below hb).more hb.size⟩,(hb.cell (p:=⟨Q,1,none⟩) h.lt).trans h.c1,fun q hq=>(h.laid q hq).calls hb⟩
structure RqSt (w0:World)(Q base:Nat)(I:Int)(L:List Pk)(RB RC:List Int)(No:Nat->Prop)(va vb vc:Value)(W:World) : Prop where
  old:Below w0.heap.size w0 W
  lo:w0.heap.size<=Q
  hQ:Q<base
  hb:base<=W.heap.size
  c0:W.cell? ⟨Q,0,none⟩=some va
  c1:W.cell? ⟨Q,1,none⟩=some (.int .i64 I)
  c2:W.cell? ⟨Q,2,none⟩=some vb
  c3:W.cell? ⟨Q,3,none⟩=some vc
  fz:∀i,i<4->W.frozen? ⟨Q,i,none⟩=false
  own:Own Pk.cells 15 base 28 va L W
  ob:Own encI 1 base 3 vb RB W
  oc:Own encI 1 base 3 vc RC W
  hang:∀x∈L,Hangs No x W
  nA:∀g,va.ownBlock=some g -> ¬No g
  nB:∀g,vb.ownBlock=some g -> ¬No g/\va.ownBlock≠some g
  nC:∀g,vc.ownBlock=some g -> ¬No g/\va.ownBlock≠some g/\vb.ownBlock≠some g
  noB:∀g,No g->base<=g/\g<W.heap.size
section
variable {w0:World}{Q base B:Nat}{I rp pr:Int}{L:List Pk}{RB RC:List Int}{No:Nat->Prop}{va vb vc v u t:Value}{W W' V:World}{row ra rb rc:Option Nat}{x q:Pk}{No':Nat->Prop}
theorem qIG {α:Type}{enc:α->List Value}{size:Nat}{e:TypeId}{l:List α}(h:Own enc size base e v l W)(hb:Below W.heap.size W W') : Own enc size base e v l W' := qAP h lR fun g hg=>hb.block g (World.ownsRow.lt h g hg).2
theorem RqSt.then (h:RqSt w0 Q base I L RB RC No va vb vc W)(hb:Below W.heap.size W W') : RqSt w0 Q base I L RB RC No va vb vc W' := by
  have hQ:Q<W.heap.size:=Nat.lt_of_lt_of_le h.hQ h.hb
  exact { h with
    old:=h.old.trans (hb.mono h.old.size)
    hb:=Nat.le_trans h.hb hb.size
    c0:=(hb.cell (p:=⟨Q,0,none⟩) hQ).trans h.c0
    c1:=(hb.cell (p:=⟨Q,1,none⟩) hQ).trans h.c1
    c2:=(hb.cell (p:=⟨Q,2,none⟩) hQ).trans h.c2
    c3:=(hb.cell (p:=⟨Q,3,none⟩) hQ).trans h.c3
    fz:=fun i hi=>(hb.frozen (p:=⟨Q,i,none⟩) hQ).trans (h.fz i hi)
    own:=qIG h.own hb
    ob:=qIG h.ob hb
    oc:=qIG h.oc hb
    hang:=fun x hx=>(h.hang x hx).keep hb.size (fun b hq=>hb.block b (h.noB b hq).2) (fun _ hq=>hq) fun b hq=>Nat.lt_of_lt_of_le (h.noB b hq).2 hb.size
    noB:=fun g hg=>⟨(h.noB g hg).1,Nat.lt_of_lt_of_le (h.noB g hg).2 hb.size⟩ }
theorem RqSt.start (hb:Below w0.heap.size w0 W)(I:Int) : RqSt w0 W.heap.size (W.heap.size+1) I [] [] [] (fun _=>False) (.slice none 0 0) (.slice none 0 0) (.slice none 0 0) (W.alloc (.cells #[.slice none 0 0,.int .i64 I,.slice none 0 0,.slice none 0 0] 129)) := by
  have c:∀i v,(#[.slice none 0 0,.int .i64 I,.slice none 0 0,.slice none 0 0]:Array Value)[i]?=some v->(W.alloc (.cells #[.slice none 0 0,.int .i64 I,.slice none 0 0,.slice none 0 0] 129)).cell? ⟨W.heap.size,i,none⟩=some v:=fun i v hv=>(World.cell?_alloc_at _ _ _ _ rfl).trans hv;exact⟨hb.alloc hb.size _,hb.size,Nat.lt_succ_self _,by simp,c 0 _ rfl,c 1 _ rfl,c 2 _ rfl,c 3 _ rfl,fun i hi=>by simp[go_sem],Own.nil_ _ _ _,Own.nil_ _ _ _,Own.nil_ _ _ _,by simp,by simp[Value.ownBlock],by simp[Value.ownBlock],by simp[Value.ownBlock],fun g h=>h.elim⟩
theorem RqSt.at_ {n:Nat}(h:RqSt w0 Q base I L RB RC No va vb vc W)(hI:I=(n:Int)) : RPoolAt Q (n:Int) L W := by
  obtain⟨A,c,e,hr⟩:=h.own.rd (fun p=>rfl);exact⟨Nat.lt_of_lt_of_le h.hQ h.hb,⟨A,c,e ▸ h.c0,hr⟩,hI ▸ h.c1,fun q hq=>(h.hang q hq).now⟩
structure GG (V:World)(Q:Nat)(I:Int)(ra rb rc:Option Nat)(W:World) : Prop where
  os:W.os=V.os
  tape:W.tape=V.tape
  output:W.output=V.output
  size:V.heap.size<=W.heap.size
  block:∀k,k<V.heap.size->k≠Q->ra≠some k->rb≠some k->rc≠some k->W.heap[k]?=V.heap[k]?
  c1:W.cell? ⟨Q,1,none⟩=some (.int .i64 I)
  fz:∀i,i<4->W.frozen? ⟨Q,i,none⟩=false
theorem GG.drew (hS:RqSt w0 Q base I L RB RC No va vb vc V)(ra rb rc:Option Nat) : GG V Q I ra rb rc V.drew := ⟨rfl,rfl,rfl,Nat.le_refl _,fun _ _ _ _ _ _=>rfl,hS.c1,hS.fz⟩
def offQ (s0 s2 s3 j:Nat) : Nat := if j=s0 then 0 else if j=s2 then 2 else if j=s3 then 3 else 9
structure RelQ (Q:Nat)(row:Option Nat)(of:Nat)(W W':World) : Prop where
  grow:W.grownBy W' row
  cell:∀o,o≠of->W'.cell? ⟨Q,o,none⟩=W.cell? ⟨Q,o,none⟩
  fz:∀o,W'.frozen? ⟨Q,o,none⟩=W.frozen? ⟨Q,o,none⟩
theorem RelQ.of_grown {of:Nat}(hg:W.grownBy W' row)(hQ:Q<W.heap.size)(hr:row≠some Q) : RelQ Q row of W W' :=
  have hb:=hg.block Q hQ (fun e=>hr e.symm)
  ⟨hg,fun o _=>World.cell?_of_block (w:=W) (a:=⟨Q,o,none⟩) hb,fun o=>World.frozen?_of_block (w:=W) (a:=⟨Q,o,none⟩) hb⟩
theorem RelQ.of_below {of:Nat}(hb:Below W.heap.size W W')(hQ:Q<W.heap.size) : RelQ Q none of W W' := .of_grown (qAC hb none) hQ (by simp)
theorem RelQ.of_set (of:Nat)(v:Value) : RelQ Q (some Q) of W (W.setCell ⟨Q,of,none⟩ v) :=
  ⟨⟨rfl,rfl,rfl,by simp[World.setCell],fun k _ hk=>Below.heap_setCell _ _ _ _ (fun e=>hk (by rw[e]))⟩,fun o ho=>qA0 (fun e=>ho (by cases e;rfl)),fun o=>World.frozen?_setCell _ _ _ _⟩
theorem GG.step {of:Nat}(h:GG V Q I ra rb rc W)(hr:RelQ Q row of W W')(hof:of≠1)(hrow:row=none \/ row=ra \/ row=rb \/ row=rc \/ row=some Q) : GG V Q I ra rb rc W' :=
  ⟨hr.grow.os.trans h.os,hr.grow.tape.trans h.tape,hr.grow.output.trans h.output,Nat.le_trans h.size hr.grow.size,fun k hk h0 h1 h2 h3=>(hr.grow.block k (Nat.lt_of_lt_of_le hk h.size) (fun e=>by
    rcases hrow with rfl|rfl|rfl|rfl|rfl
    · cases e
    · exact h1 e.symm
    · exact h2 e.symm
    · exact h3 e.symm
    · exact h0 (Option.some.inj e))).trans (h.block k hk h0 h1 h2 h3),(hr.cell 1 (fun e=>hof e.symm)).trans h.c1,fun i hi=>(hr.fz i).trans (h.fz i hi)⟩
theorem GG.low (h:GG V Q I va.ownBlock vb.ownBlock vc.ownBlock W)(hS:RqSt w0 Q base I L RB RC No va vb vc V){k:Nat}(hk:k<base)(h0:k≠Q) : W.heap[k]?=V.heap[k]? :=
  h.block k (Nat.lt_of_lt_of_le hk hS.hb) h0 (fun e=>by have:=(World.ownsRow.lt hS.own k e).1;omega) (fun e=>by have:=(World.ownsRow.lt hS.ob k e).1;omega) (fun e=>by have:=(World.ownsRow.lt hS.oc k e).1;omega)
theorem GG.below (h:GG V Q I va.ownBlock vb.ownBlock vc.ownBlock W)(hS:RqSt w0 Q base I L RB RC No va vb vc V) : Below w0.heap.size w0 W :=
  hS.old.trans ⟨h.os,h.tape,h.output,h.size,fun k hk=>h.low hS (by have:=hS.lo;have:=hS.hQ;omega) (by have:=hS.lo;omega)⟩
def RqA (base B:Nat)(x:Pk)(L:List Pk)(va v:Value)(q:Pk)(No':Nat->Prop)(W:World) : Prop :=
  Own Pk.cells 15 base 28 v (L++[q]) W/\Alike x q/\Hangs No' q W/\(∀b,No' b->B<=b) /\ ∀g,v.ownBlock=some g -> ¬No' g/\(va.ownBlock=some g \/ B<=g)
theorem RqA.grow (h:RqA base B x L va v q No' W)(hg:W.grownBy W' row)(hr:∀k,row=some k->k<B/\va.ownBlock≠some k) : RqA base B x L va v q No' W' := by
  obtain⟨h1,h2,h3,h4,h5⟩:=h;refine⟨qAP h1 lR fun g hgq=>hg.block g (World.ownsRow.lt h1 g hgq).2 fun e => ?_,h2,h3.keep hg.size (fun b hN=>hg.block b (h3.lt b hN) fun e => ?_) (fun _ hN=>hN) (fun b hN=>Nat.lt_of_lt_of_le (h3.lt b hN) hg.size),h4,h5⟩
  · obtain⟨k1,k2⟩:=hr g e.symm;rcases (h5 g hgq).2 with k|k
    · exact k2 k
    · omega
  · have:=(hr b e.symm).1;have:=h4 b hN;omega
def RqI (base B:Nat)(R:List Int)(z:Int)(vb u:Value)(W:World) : Prop := Own encI 1 base 3 u (R++[z]) W /\ ∀g,u.ownBlock=some g->vb.ownBlock=some g \/ B<=g
theorem RqI.grow {R:List Int}{z:Int}(h:RqI base B R z vb u W)(hg:W.grownBy W' row)(hr:∀k,row=some k->k<B/\vb.ownBlock≠some k) : RqI base B R z vb u W' := by
  obtain⟨h1,h5⟩:=h;refine⟨qAP h1 lR fun g hgq=>hg.block g (World.ownsRow.lt h1 g hgq).2 fun e => ?_,h5⟩;obtain⟨k1,k2⟩:=hr g e.symm;rcases h5 g hgq with k|k
  · exact k2 k
  · omega
theorem qN9 (W:World)(y:Pk) : Rd Pk.cells 15 (W.alloc (.cells y.cells.toArray 28)).heap.size (some ⟨W.heap.size,0,none⟩) 1 [y] (W.alloc (.cells y.cells.toArray 28)) := by
  refine⟨by simp,by unfold maxLen;omega,fun k hk=>⟨W.heap.size,0,rfl,by simp,fun j u hu => ?_⟩⟩;obtain rfl:k=0:=by simp at hk;exact hk
  refine (World.cell?_alloc_at _ _ _ _ rfl).trans ?_
  simpa using hu
theorem RqA.of (hS:RqSt w0 Q base I L RB RC No va vb vc V)(hG:V.heap.size<=W.heap.size)(ho:Own Pk.cells 15 base 28 va L W)(hx:x.Laid B W)(ha:Alike x q)(hq:PkOwn V.heap.size q W)(hw:W'.ownsRow base 28 15 v (L.length+[q].length) (L.flatMap Pk.cells++[q].flatMap Pk.cells))(hg:W.grownBy W' va.ownBlock)(hl:v.ownBlock=va.ownBlock \/ v.ownBlock=some W.heap.size) :
    RqA base V.heap.size x L va v q (fun b=>V.heap.size<=b/\b<W.heap.size) W':=by
  have hv:∀g,va.ownBlock=some g->g<V.heap.size:=fun g e=>(World.ownsRow.lt hS.own g e).2;refine⟨Own.snoc (by simpa using hw),ha,(hq.hangs ha hx).keep hg.size (fun b hN=>hg.block b hN.2 fun e=>by have:=hv b e.symm;omega) (fun _ h=>h) (fun b hN=>Nat.lt_of_lt_of_le hN.2 hg.size),fun b hN=>hN.1,fun g e => ?_⟩;rcases hl with k|k
  · rw[k]at e;exact⟨fun hN=>by have:=hv g e;omega,.inl e⟩
  · rw[k]at e;cases e;exact⟨fun hN=>by omega,.inr hG⟩
theorem RqSt.more (hS:RqSt w0 Q base I L RB RC No va vb vc V)(hG:GG V Q I va.ownBlock vb.ownBlock vc.ownBlock W)(hA:RqA base V.heap.size x L va v q No' W)(hB:RqI base V.heap.size RB rp vb u W)(hC:RqI base V.heap.size RC pr vc t W)(hu:∀g,u.ownBlock=some g -> ¬No' g/\v.ownBlock≠some g)(ht:∀g,t.ownBlock=some g -> ¬No' g/\v.ownBlock≠some g/\u.ownBlock≠some g)
    (k0:W.cell? ⟨Q,0,none⟩=some v) (k2:W.cell? ⟨Q,2,none⟩=some u) (k3:W.cell? ⟨Q,3,none⟩=some t):RqSt w0 Q base I (L++[q]) (RB++[rp]) (RC++[pr]) (fun b=>No b \/ No' b) v u t W:=by
  obtain⟨h1,h2,h3,h4,h5⟩:=hA;have oldr:∀g,No g->va.ownBlock≠some g/\vb.ownBlock≠some g/\vc.ownBlock≠some g:=fun g hg=>⟨fun e=>hS.nA g e hg,fun e=>(hS.nB g e).1 hg,fun e=>(hS.nC g e).1 hg⟩;refine⟨hG.below hS,hS.lo,hS.hQ,Nat.le_trans hS.hb hG.size,k0,hG.c1,k2,k3,hG.fz,h1,hB.1,hC.1,fun y hy => ?_,fun g hg => ?_,fun g hg => ?_,fun g hg => ?_,fun g hg => ?_⟩
  · have hlt:∀b,No b \/ No' b->b<W.heap.size:=fun b hb=>by
      rcases hb with hb|hb
      · exact Nat.lt_of_lt_of_le (hS.noB b hb).2 hG.size
      · exact h3.lt b hb
    rcases List.mem_append.1 hy with hy|hy
    · exact (hS.hang y hy).keep hG.size (fun b hb=>hG.block b (hS.noB b hb).2 (fun e=>by have:=(hS.noB b hb).1;have:=hS.hQ;omega) (oldr b hb).1 (oldr b hb).2.1 (oldr b hb).2.2) (fun _ hb=>.inl hb) hlt
    · obtain rfl:=List.mem_singleton.1 hy;exact h3.keep lR (fun b hb=>rfl) (fun _ hb=>.inr hb) hlt
  · obtain⟨k1,k2⟩:=h5 g hg;rintro (hn|hn)
    · rcases k2 with k|k
      · exact (oldr g hn).1 k
      · have:=(hS.noB g hn).2;omega
    · exact k1 hn
  · obtain⟨k1,k2⟩:=hu g hg;refine⟨?_,k2⟩;rintro (hn|hn)
    · rcases hB.2 g hg with k|k
      · exact (oldr g hn).2.1 k
      · have:=(hS.noB g hn).2;omega
    · exact k1 hn
  · obtain⟨k1,k2⟩:=ht g hg;refine⟨?_,k2⟩;rintro (hn|hn)
    · rcases hC.2 g hg with k|k
      · exact (oldr g hn).2.2 k
      · have:=(hS.noB g hn).2;omega
    · exact k1 hn
  · rcases hg with hg|hg
    · exact⟨(hS.noB g hg).1,Nat.lt_of_lt_of_le (hS.noB g hg).2 hG.size⟩
    · exact⟨Nat.le_trans hS.hb (h4 g hg),h3.lt g hg⟩
def rowQ (Q iA iB iC s0 s2 s3:Nat)(va vb vc:Value)(j:Nat) : Option Nat := if j=iA then va.ownBlock else if j=iB then vb.ownBlock else if j=iC then vc.ownBlock else if j=s0 \/ j=s2 \/ j=s3 then some Q else none
section
variable {iA iB iC s0 s2 s3 j k:Nat}
theorem qEE (h:rowQ Q iA iB iC s0 s2 s3 va vb vc j=some k) : (j=iA/\va.ownBlock=some k) \/ (j=iB/\vb.ownBlock=some k) \/ (j=iC/\vc.ownBlock=some k) \/ k=Q := by
  unfold rowQ at h;split at h
  · exact .inl ⟨by assumption,h⟩
  · split at h
    · exact .inr (.inl ⟨by assumption,h⟩)
    · split at h
      · exact .inr (.inr (.inl ⟨by assumption,h⟩))
      · split at h
        · exact .inr (.inr (.inr (Option.some.inj h).symm))
        · cases h
theorem qSC (Q iA iB iC s0 s2 s3 j:Nat) : rowQ Q iA iB iC s0 s2 s3 va vb vc j=none \/ rowQ Q iA iB iC s0 s2 s3 va vb vc j=va.ownBlock \/ rowQ Q iA iB iC s0 s2 s3 va vb vc j=vb.ownBlock \/ rowQ Q iA iB iC s0 s2 s3 va vb vc j=vc.ownBlock \/ rowQ Q iA iB iC s0 s2 s3 va vb vc j=some Q := by
  unfold rowQ
  repeat' split
  · exact .inr (.inl rfl)
  · exact .inr (.inr (.inl rfl))
  · exact .inr (.inr (.inr (.inl rfl)))
  · exact .inr (.inr (.inr (.inr rfl)))
  · exact .inl rfl
theorem qN1 (s0 s2 s3 j:Nat) : offQ s0 s2 s3 j≠1 := by
  unfold offQ
  repeat' split
  all_goals decide
theorem RqSt.rowLt (hS:RqSt w0 Q base I L RB RC No va vb vc V)(h:rowQ Q iA iB iC s0 s2 s3 va vb vc j=some k) : k<V.heap.size := by
  rcases qEE h with⟨_,e⟩|⟨_,e⟩|⟨_,e⟩|rfl
  · exact (World.ownsRow.lt hS.own k e).2
  · exact (World.ownsRow.lt hS.ob k e).2
  · exact (World.ownsRow.lt hS.oc k e).2
  · exact Nat.lt_of_lt_of_le hS.hQ hS.hb
theorem RqSt.rowA (hS:RqSt w0 Q base I L RB RC No va vb vc V)(hj:j≠iA)(h:rowQ Q iA iB iC s0 s2 s3 va vb vc j=some k) : k<V.heap.size/\va.ownBlock≠some k := by
  refine⟨hS.rowLt h,?_⟩;rcases qEE h with⟨e,_⟩|⟨_,e⟩|⟨_,e⟩|rfl
  · exact absurd e hj
  · exact (hS.nB k e).2
  · exact (hS.nC k e).2.1
  · exact fun e=>by have:=(World.ownsRow.lt hS.own _ e).1;have:=hS.hQ;omega
theorem RqSt.rowB (hS:RqSt w0 Q base I L RB RC No va vb vc V)(hj:j≠iB)(h:rowQ Q iA iB iC s0 s2 s3 va vb vc j=some k) : k<V.heap.size/\vb.ownBlock≠some k := by
  refine⟨hS.rowLt h,?_⟩;rcases qEE h with⟨_,e⟩|⟨e,_⟩|⟨_,e⟩|rfl
  · exact fun e2=>(hS.nB k e2).2 e
  · exact absurd e hj
  · exact (hS.nC k e).2.2
  · exact fun e=>by have:=(World.ownsRow.lt hS.ob _ e).1;have:=hS.hQ;omega
theorem RqSt.rowC (hS:RqSt w0 Q base I L RB RC No va vb vc V)(hj:j≠iC)(h:rowQ Q iA iB iC s0 s2 s3 va vb vc j=some k) : k<V.heap.size/\vc.ownBlock≠some k := by
  refine⟨hS.rowLt h,?_⟩;rcases qEE h with⟨_,e⟩|⟨_,e⟩|⟨e,_⟩|rfl
  · exact fun e2=>(hS.nC k e2).2.1 e
  · exact fun e2=>(hS.nC k e2).2.2 e
  · exact absurd e hj
  · exact fun e=>by have:=(World.ownsRow.lt hS.oc _ e).1;have:=hS.hQ;omega
def PreQ (Q iA iB iC lA lB lC s0 s2 s3 base:Nat)(L:List Pk)(RB RC:List Int)(va vb vc:Value)(i:Nat)(W:World) : Prop :=
  (i=iA->Own Pk.cells 15 base 28 va L W)/\(i=iB->Own encI 1 base 3 vb RB W)/\(i=iC->Own encI 1 base 3 vc RC W) /\
  (i=lA \/ i=s0->W.cell? ⟨Q,0,none⟩=some va)/\(i=lB \/ i=s2->W.cell? ⟨Q,2,none⟩=some vb)/\(i=lC \/ i=s3->W.cell? ⟨Q,3,none⟩=some vc)
theorem PreQ.of (hS:RqSt w0 Q base I L RB RC No va vb vc V)(iA iB iC lA lB lC s0 s2 s3 i:Nat) : PreQ Q iA iB iC lA lB lC s0 s2 s3 base L RB RC va vb vc i V.drew := ⟨fun _=>hS.own,fun _=>hS.ob,fun _=>hS.oc,fun _=>hS.c0,fun _=>hS.c2,fun _=>hS.c3⟩
theorem qLI (h:j≠s0) : (0:Nat)≠offQ s0 s2 s3 j := by
  unfold offQ;rw[if_neg h]
  repeat' split
  all_goals decide
theorem qLJ (h:j≠s2) : (2:Nat)≠offQ s0 s2 s3 j := by
  unfold offQ;by_cases a:j=s0
  · rw[if_pos a];decide
  · rw[if_neg a,if_neg h];split<;>decide
theorem qLK (h:j≠s3) : (3:Nat)≠offQ s0 s2 s3 j := by
  unfold offQ;by_cases a:j=s0
  · rw[if_pos a];decide
  · by_cases b:j=s2
    · rw[if_neg a,if_pos b];decide
    · rw[if_neg a,if_neg b,if_neg h];decide
theorem PreQ.step (hS:RqSt w0 Q base I L RB RC No va vb vc V){i lA lB lC:Nat}(hne:i≠j)(k0:j=s0->i≠lA)(k2:j=s2->i≠lB)(k3:j=s3->i≠lC)(h:PreQ Q iA iB iC lA lB lC s0 s2 s3 base L RB RC va vb vc i W)(hr:RelQ Q (rowQ Q iA iB iC s0 s2 s3 va vb vc j) (offQ s0 s2 s3 j) W W') : PreQ Q iA iB iC lA lB lC s0 s2 s3 base L RB RC va vb vc i W' :=
  ⟨fun e=>qAP (h.1 e) lR fun g hg=>hr.grow.block g (World.ownsRow.lt (h.1 e) g hg).2 fun e2=>(hS.rowA (by rw[<- e];exact fun k=>hne k.symm) e2.symm).2 hg,
   fun e=>qAP (h.2.1 e) lR fun g hg=>hr.grow.block g (World.ownsRow.lt (h.2.1 e) g hg).2 fun e2=>(hS.rowB (by rw[<- e];exact fun k=>hne k.symm) e2.symm).2 hg,
   fun e=>qAP (h.2.2.1 e) lR fun g hg=>hr.grow.block g (World.ownsRow.lt (h.2.2.1 e) g hg).2 fun e2=>(hS.rowC (by rw[<- e];exact fun k=>hne k.symm) e2.symm).2 hg,
   fun e=>(hr.cell 0 (qLI fun e2=>e.elim (k0 e2) fun e3=>hne (e3.trans e2.symm))).trans (h.2.2.2.1 e),fun e=>(hr.cell 2 (qLJ fun e2=>e.elim (k2 e2) fun e3=>hne (e3.trans e2.symm))).trans (h.2.2.2.2.1 e),fun e=>(hr.cell 3 (qLK fun e2=>e.elim (k3 e2) fun e3=>hne (e3.trans e2.symm))).trans (h.2.2.2.2.2 e)⟩
end
def QA (base B:Nat)(x:Pk)(L:List Pk)(va v:Value)(W:World) : Prop := ∃q No',RqA base B x L va v q No' W
def QB (base B:Nat)(x:Pk)(L:List Pk)(RB:List Int)(rp:Int)(va vb v u:Value)(W:World) : Prop := ∃q No',RqA base B x L va v q No' W/\RqI base B RB rp vb u W /\ ∀g,u.ownBlock=some g -> ¬No' g/\v.ownBlock≠some g
def QC (base B:Nat)(x:Pk)(L:List Pk)(RB RC:List Int)(rp pr:Int)(va vb vc v u t:Value)(W:World) : Prop := ∃q No',RqA base B x L va v q No' W/\RqI base B RB rp vb u W/\RqI base B RC pr vc t W/\(∀g,u.ownBlock=some g -> ¬No' g/\v.ownBlock≠some g) /\ ∀g,t.ownBlock=some g -> ¬No' g/\v.ownBlock≠some g/\u.ownBlock≠some g
theorem QA.grow (h:QA base B x L va v W)(hg:W.grownBy W' row)(hr:∀k,row=some k->k<B/\va.ownBlock≠some k) : QA base B x L va v W' := by
  obtain⟨q,No',h⟩:=h;exact⟨q,No',h.grow hg hr⟩
theorem QB.grow (h:QB base B x L RB rp va vb v u W)(hg:W.grownBy W' row)(hr:∀k,row=some k->k<B/\va.ownBlock≠some k)(hr2:∀k,row=some k->k<B/\vb.ownBlock≠some k) : QB base B x L RB rp va vb v u W' := by
  obtain⟨q,No',h,h2,h3⟩:=h;exact⟨q,No',h.grow hg hr,h2.grow hg hr2,h3⟩
theorem QC.grow (h:QC base B x L RB RC rp pr va vb vc v u t W)(hg:W.grownBy W' row)(hr:∀k,row=some k->k<B/\va.ownBlock≠some k)(hr2:∀k,row=some k->k<B/\vb.ownBlock≠some k)(hr3:∀k,row=some k->k<B/\vc.ownBlock≠some k) : QC base B x L RB RC rp pr va vb vc v u t W' := by
  obtain⟨q,No',h,h2,h3,h4,h5⟩:=h;exact⟨q,No',h.grow hg hr,h2.grow hg hr2,h3.grow hg hr3,h4,h5⟩
theorem qMW {R:List Int}{z:Int}(ho:W'.ownsRow base 3 1 u (R.length+[z].length) (R.flatMap encI++[z].flatMap encI))(hz:V.heap.size<=W.heap.size)(hl:u.ownBlock=vb.ownBlock \/ u.ownBlock=some W.heap.size) : RqI base V.heap.size R z vb u W' :=
  ⟨Own.snoc (by simpa using ho),fun g e=>by
    rcases hl with k|k
    · rw[k]at e;exact .inl e
    · rw[k]at e;cases e;exact .inr hz⟩
theorem QB.of (hS:RqSt w0 Q base I L RB RC No va vb vc V)(hz:V.heap.size<=W.heap.size)(hA:QA base V.heap.size x L va v W)(ho:W'.ownsRow base 3 1 u (RB.length+[rp].length) (RB.flatMap encI++[rp].flatMap encI))(hg:W.grownBy W' vb.ownBlock)(hl:u.ownBlock=vb.ownBlock \/ u.ownBlock=some W.heap.size) : QB base V.heap.size x L RB rp va vb v u W' := by
  obtain⟨q,No',hA⟩:=hA;refine⟨q,No',hA.grow hg fun k e=>⟨(World.ownsRow.lt hS.ob k e).2,(hS.nB k e).2⟩,qMW ho hz hl,fun g e => ?_⟩;obtain⟨h1,h2,h3,h4,h5⟩:=hA;rcases hl with k|k
  · rw[k]at e;have hlt:=(World.ownsRow.lt hS.ob g e).2;exact⟨fun hn=>by have:=h4 g hn;omega,fun hv=>(h5 g hv).2.elim (fun k2=>(hS.nB g e).2 k2) (fun k2=>by omega)⟩
  · rw[k]at e;cases e;exact⟨fun hn=>Nat.lt_irrefl _ (h3.lt _ hn),fun hv=>Nat.lt_irrefl _ (World.ownsRow.lt h1 _ hv).2⟩
theorem QC.of (hS:RqSt w0 Q base I L RB RC No va vb vc V)(hz:V.heap.size<=W.heap.size)(hA:QB base V.heap.size x L RB rp va vb v u W)(ho:W'.ownsRow base 3 1 t (RC.length+[pr].length) (RC.flatMap encI++[pr].flatMap encI))(hg:W.grownBy W' vc.ownBlock)(hl:t.ownBlock=vc.ownBlock \/ t.ownBlock=some W.heap.size) : QC base V.heap.size x L RB RC rp pr va vb vc v u t W' := by
  obtain⟨q,No',hA,hB,hap⟩:=hA;have lt3:∀k,vc.ownBlock=some k->k<V.heap.size:=fun k e=>(World.ownsRow.lt hS.oc k e).2;refine⟨q,No',hA.grow hg fun k e=>⟨lt3 k e,(hS.nC k e).2.1⟩,hB.grow hg fun k e=>⟨lt3 k e,(hS.nC k e).2.2⟩,qMW ho hz hl,hap,fun g e => ?_⟩;obtain⟨h1,h2,h3,h4,h5⟩:=hA;rcases hl with k|k
  · rw[k]at e;have hlt:=lt3 g e;exact⟨fun hn=>by have:=h4 g hn;omega,fun hv=>(h5 g hv).2.elim (fun k2=>(hS.nC g e).2.1 k2) (fun k2=>by omega),fun hv=>(hB.2 g hv).elim (fun k2=>(hS.nC g e).2.2 k2) (fun k2=>by omega)⟩
  · rw[k]at e;cases e;exact⟨fun hn=>Nat.lt_irrefl _ (h3.lt _ hn),fun hv=>Nat.lt_irrefl _ (World.ownsRow.lt h1 _ hv).2,fun hv=>Nat.lt_irrefl _ (World.ownsRow.lt hB.1 _ hv).2⟩
theorem qA2 {vs:Nat->Value}{i j:Nat}{z:Value}(h:i≠j) : upd vs i z j=vs j := by
  unfold upd;rw[if_neg (fun e=>h e.symm)]
def qCR (repos:List Rp)(ins:List Pk)(w:World)(e:Ending)(w':World) : Prop :=
  (qB4 repos ins=0 -> ∃(Q:Nat) (L:List Pk),e=.returned (.tuple #[.pointer (some ⟨Q,0,none⟩),.int .i64 0])/\RPoolAt Q (ins.length:Int) L w'/\qAQ (allP repos ins) L)/\(qB4 repos ins≠0->e=.returned (.tuple #[.pointer none,.int .i64 (qB4 repos ins)]))/\Below w.heap.size w w'
theorem qCR.no {repos:List Rp}{ins:List Pk}{w w':World}{n:Int}(h:qB4 repos ins=n)(hn:n≠0)(hb:Below w.heap.size w w') : qCR repos ins w (.returned (.tuple #[.pointer none,.int .i64 n])) w' :=
  ⟨fun e=>absurd (h.symm.trans e) hn,fun _=>by rw[h],hb⟩
