/- DepOfL, RichAtom, RichBetween, RichBracket, RichBrk, RichCatch, RichClone, RichMeasure, RlLaw0, RichWords, RichAw0, RichLarge, RichBx, RichCopy -/
import Derived.Test.YteobmfpbgnmffaaGreatDoorT07
import Derived.Shelf.Strings.BuilderX
set_option linter.unusedVariables false
set_option maxHeartbeats 16000000
set_option maxRecDepth 100000
open Go.Lib (hid)
set_option linter.unusedSimpArgs false
namespace Go.Proofs.YteobmfpbgnmffaaGreatDoor
open Go.RowKit Go.Shelf
section
def ZV : Value := .tuple #[.agg #[.string ⟨#[]⟩,.int .u8 0,.int .i64 0,.string ⟨#[]⟩,.string ⟨#[]⟩],.int .i64 4]
end
section
theorem Box7.past {m:Nat}{a0 a1 a2 a3 a4 a5 a6:Value}{W W':World}(h:Box7 m a0 a1 a2 a3 a4 a5 a6 W)(hb:Below (m+1) W W') : Box7 m a0 a1 a2 a3 a4 a5 a6 W' := by
 obtain⟨⟨h0,h1,h2,h3,h4,h5,h6⟩,⟨f0,f1,f2,f3,f4,f5,f6⟩,hl⟩:=h;have hc:∀i,W'.cell? ⟨m,i,none⟩=W.cell? ⟨m,i,none⟩:=fun i=>hb.cell (p:=⟨m,i,none⟩) (Nat.lt_succ_self m);have hf:∀i,W'.frozen? ⟨m,i,none⟩=W.frozen? ⟨m,i,none⟩:=fun i=>hb.frozen (p:=⟨m,i,none⟩) (Nat.lt_succ_self m);exact⟨⟨(hc 0).trans h0,(hc 1).trans h1,(hc 2).trans h2,(hc 3).trans h3,(hc 4).trans h4,(hc 5).trans h5,(hc 6).trans h6⟩,⟨(hf 0).trans f0,(hf 1).trans f1,(hf 2).trans f2,(hf 3).trans f3,(hf 4).trans f4,(hf 5).trans f5,(hf 6).trans f6⟩,Nat.lt_of_lt_of_le hl hb.size⟩
end
section
theorem qJG {k:Nat}(h2:2<=k)(h7:k<8) : (qOC[k]'h7).1=kwd (k:Int)/\(qOC[k]'h7).2=qF8 (k:Int) := by
 obtain rfl|rfl|rfl|rfl|rfl|rfl:k=2 \/ k=3 \/ k=4 \/ k=5 \/ k=6 \/ k=7:=by omega
 all_goals exact⟨rfl,rfl⟩
theorem qDR.at_ {w:World}(h:qDR w){k:Nat}(h2:2<=k)(h7:k<8) : w.cell? ⟨0,k * 2,none⟩=some (.string (bs (kwd (k:Int))))/\w.cell? ⟨0,k * 2+1,none⟩=some (.int .i64 (qF8 (k:Int) : Int)) := by
 have:=h.2 k h7;rw[(qJG h2 h7).1,(qJG h2 h7).2]at this;exact this
end
section
theorem qC0 (t:RV) : (encR t).length=7 := rfl
theorem qE3 (t:RV):∀u∈encR t,u.oneCell'=true := by
 intro u hu;simp only[encR,List.mem_cons,List.not_mem_nil,or_false]at hu;rcases hu with rfl|rfl|rfl|rfl|rfl|rfl|rfl<;>rfl
def zBox (m:Nat)(W:World) : Prop := Box7 m (.int .u8 0) (.string ⟨#[]⟩) (.int .u8 0) (.int .i64 0) (.string ⟨#[]⟩) (.string ⟨#[]⟩) (.slice none 0 0) W
section
variable {w0 W wr w':World}{R e o m m2 n n':Nat}{k k':Int}{l:List RV}{v:Value}{ws ws':List Tok}
theorem qQ1 {a0 a1 a2 a3 a4 a5 a6:Value}(h:Box7 m a0 a1 a2 a3 a4 a5 a6 W)(u:Value) : Box7 m a0 a1 a2 a3 a4 a5 u (W.setCell ⟨m,6,none⟩ u) := by
 obtain⟨⟨h0,h1,h2,h3,h4,h5,h6⟩,⟨f0,f1,f2,f3,f4,f5,f6⟩,hl⟩:=h;unfold Box7;refine⟨⟨?_,?_,?_,?_,?_,?_,?_⟩,⟨?_,?_,?_,?_,?_,?_,?_⟩,by simpa [World.setCell] using hl⟩
 all_goals simp[go_sem,h0,h1,h2,h3,h4,h5,h6,f0,f1,f2,f3,f4,f5,f6]
end
end
section
theorem qN6 (w:World)(t:RV) : Rd encR 7 (w.heap.size+1) (some ⟨w.heap.size,0,none⟩) 1 [t] (w.alloc (.cells #[.int .u8 t.kind,.string (bs t.dep.name),.int .u8 t.dep.op,.int .i64 t.dep.evr.epoch,.string (bs t.dep.evr.ver),.string (bs t.dep.evr.rel),.slice t.addr t.args.length t.cap] 39)) := by
 refine⟨Nat.le_refl _,by decide,fun k hk=>⟨w.heap.size,0,rfl,Nat.lt_succ_self _,fun j u hu => ?_⟩⟩;have hk0:k=0:=by simp at hk;omega
 subst hk0;rw[Nat.zero_mul,Nat.add_zero,Nat.zero_add];refine (World.cell?_alloc_at _ _ _ _ rfl).trans ?_;rw[<- Array.getElem?_toList];exact hu
end
section
theorem tm3 (a b c:Value) : #[a,b,c]++Array.replicate 19 undef=#[a,b,c,undef,undef,undef,undef,undef,undef,undef,undef,undef,undef,undef,undef,undef,undef,undef,undef,undef,undef,undef] := by
 apply Array.ext';rw[Array.toList_append,Array.toList_replicate];rfl
end
section
section
variable {P:Program}{α:Type}{enc:α->List Value}(w:World)
theorem qB5 {ops:Array Oper}{rest:List Oper}{o:Oper}{a:Act}{Q:Exit->Act->World->Prop}(hgd:o.guard=none)(s x:Operand)(t:TypeId)
  (ho:o.op=.call { callee:=.builtin .append,args:=#[s,x],argTypes:=#[t,t] })
  (base:Nat) (e:TypeId) (i:TypeInfo) (z:Value) (size bytes:Nat) (ht:P.underlying t=some (.slice e)) (hi:P.info? e=some i) (hz:i.zero=some z) (hsize:i.size=size) (hby:i.bytes=bytes) (hzc:z.cells.size=size) (hs0:0<size)
  (he:∀x,(enc x).length=size) (h1:∀x,∀u∈enc x,u.oneCell'=true)
  (v:Value) (n:Nat) (xs:List Value) (hs:a.eval s=v) (hown:w.ownsRow base e size v n xs) (B:Nat) (A:Option Addr) (c:Nat) (D:List α) (m:Nat) (hm:m=D.length) (hx:a.eval x=.slice A m c) (hT:Rd enc size B A c D w) (hn:n+D.length<=1000000) (hbytes:bytes<=1000) (hbase:base<=w.heap.size)
  (h:∀v' w',w'.ownsRow base e size v' (n+D.length) (xs++D.flatMap enc)->w.grownBy w' v.ownBlock->(v'.ownBlock=v.ownBlock \/ v'.ownBlock=some w.heap.size)->wpList P ops Q rest (a.put o.dst v') w') :
  wpList P ops Q (o::rest) a w:=by
 subst hm;refine wpList_plain hgd fun _ hK => ?_;obtain⟨v',w',hrun,r1,r2,r3⟩:=qCX (P:=P) w base t o.type e i z size bytes ht hi hz hsize hby hzc hs0 he h1 v n xs hown B A c D hT hn hbytes hbase;unfold Oper.wp;simp[execOp,ho,resolve,invoke,builtin,hs,hx,hrun,Result.andThen];exact hK _ _ (h v' w' r1 r2 r3)
end
end
section
theorem qLN {l:List RT}{k:Nat}(hk:k<l.length) : qA9 (l.take (k+1))=qA9 (l.take k)+l[k].parts := by rw[qAX l k hk,qEV];simp[qA9]
theorem qDG {l:List RT}{k:Nat}(hk:k<l.length) : qBH (l.take (k+1))=max (qBH (l.take k)) l[k].deep := by rw[qAX l k hk,qQF];simp[qBH]
theorem qUN {l:List RT}{k:Nat}(hk:k<l.length) : okL (l.take (k+1))=(okL (l.take k) && l[k].okB) := by rw[qAX l k hk,qRC];simp[okL]
theorem qAR:∀(l:List RT) (k:Nat),qA9 (l.take k)<=qA9 l
 | [],k=>by simp[qA9]
 | a::l,0=>by simp[qA9]
 | a::l,k+1=>by have:=qAR l k;simp only[List.take_succ_cons,qA9];omega
theorem qB6:∀t : RT,t.deep<=t.parts
 | .mk k d l=>by
  simp only[RT.deep,RT.parts];split
  ·omega
  ·have:=deepL_parts l;omega
where
 deepL_parts:∀l:List RT,qBH l<=qA9 l
  | []=>by simp[qBH]
  | a::l=>by have:=qB6 a;have:=deepL_parts l;simp only[qBH,qA9];omega
def qHV (t:RT)(w:World)(e:Ending)(w':World) : Prop :=
 ∃p d:Nat,e=.returned (.tuple #[.int .i64 (p:Int),.int .i64 (d:Int),.bool t.okB])/\p<=t.parts/\d<=t.parts/\(t.okB=true->p=t.parts/\d=t.deep)/\Below w.heap.size w w'
end
section
theorem Rd.of_block {α:Type}{enc:α->List Value}{size cap g:Nat}{l:List α}{w:World}{cs:Array Value}{t:TypeId}{fz:Nat × Nat}(he:∀x,(enc x).length=size)
  (h:w.heap[g]?=some (.cells cs t fz)) (hcs:cs.toList=l.flatMap enc) (hc:l.length<=cap) (hm:cap<=maxLen):Rd enc size w.heap.size (some ⟨g,0,none⟩) cap l w:=by
 refine⟨hc,hm,fun k hk=>⟨g,0,rfl,(Array.getElem?_eq_some_iff.1 h).1,fun j u hu => ?_⟩⟩;have hj:j<size:=by have:=(List.getElem?_eq_some_iff.1 hu).1;rw[he]at this;exact this
 rw[cell_of_row w g _ cs t fz h,<- Array.getElem?_toList,hcs,Nat.zero_add,qBP enc size he l k hk j hj];exact hu
end
section
theorem qBR:∀ {l:List RT} {i:Nat} (h:i<l.length),l[i].parts<=qA9 l
 | a::l,0,h=>by simp[qA9]
 | a::l,i+1,h=>by have:=qBR (l:=l) (i:=i) (by simpa using h);simp only[List.getElem_cons_succ,qA9];omega
end
section
open Go.RowKit
def qWP (x:qAF) : RT := .mk 1 ⟨x,0,qW0⟩ []
theorem qWQ (x:qAF)(h:x.length<=maxLen) : Dp.wf ⟨x,0,qW0⟩ := ⟨h,rfl,rfl,Nat.zero_le _,Nat.zero_le _⟩
def qQ0 (x:qAF) : RV := .node 1 ⟨x,0,qW0⟩ none 0 []
theorem qNS (x:qAF) : (qQ0 x).tree=qWP x := rfl
theorem qFT (B:Nat)(W:World)(x:qAF)(h:x.length<=maxLen) : RTree B W (qQ0 x) := .mk (qWQ x h) (Rd.nil_ (Nat.zero_le _)) (fun a ha=>by simp[qQ0,RV.args]at ha)
theorem qYM {w:World}{l:List RV}{cs:Array Value}{e:TypeId}{n:Nat}(hn:l.length=n)(hcs:cs.toList=l.flatMap encR)(hm:n<=maxLen) : Rd encR 7 (w.heap.size+1) (some ⟨w.heap.size,0,none⟩) n l (w.alloc (.cells cs e)) := by
 subst hn;have:=Rd.of_block (enc:=encR) (size:=7) (cap:=l.length) (g:=w.heap.size) (l:=l) (w:=w.alloc (.cells cs e)) (cs:=cs) (t:=e) (fz:=(0,0)) (fun _=>rfl) (World.alloc_heap_new w _) hcs lR hm
 simpa using this
theorem qUC {w:World}{l:List RV}{cs:Array Value}{e:TypeId}{k:Int}{n:Nat}(hn:l.length=n)(hcs:cs.toList=l.flatMap encR)(hm:n<=maxLen)(hl:∀t∈l,RTree w.heap.size w t) : RTree (w.alloc (.cells cs e)).heap.size (w.alloc (.cells cs e)) (.node k qD4 (some ⟨w.heap.size,0,none⟩) n l) := by
 refine .mk ⟨Nat.zero_le _,rfl,rfl,Nat.zero_le _,Nat.zero_le _⟩ ?_ (fun a ha=>((hl a ha).keeps (bR.alloc lR _)).more (by simp));have:=qYM (w:=w) (e:=e) hn hcs hm;rw[show (w.alloc (.cells cs e)).heap.size=w.heap.size+1 by simp];exact this
end
section
theorem qCB {l:List RT}{k:Nat}(hk:k<l.length) : qA9 (l.take (k+1))=qA9 (l.take k)+l[k].parts := by rw[qAX l k hk,qEV];simp[qA9]
end
section
structure BX (a:RV)(m:Nat)(W:World) : Prop where
 box:Box7 m (.int .u8 a.kind) (.string (bs a.dep.name)) (.int .u8 a.dep.op) (.int .i64 a.dep.evr.epoch) (.string (bs a.dep.evr.ver)) (.string (bs a.dep.evr.rel)) (.slice a.addr a.args.length a.cap) W
 tree:RTree W.heap.size W a
theorem BX.then {W W':World}{a:RV}{m:Nat}(h:BX a m W)(hb:Below W.heap.size W W') : BX a m W' :=
 ⟨h.box.past (hb.mono h.box.2.2),(h.tree.keeps hb).more hb.size⟩
theorem BX.alloc {W:World}{a:RV}{m:Nat}(h:BX a m W)(o:Obj) : BX a m (W.alloc o) := h.then (bR.alloc lR o)
theorem BX.new {w:World}{a:RV}(ha:RTree w.heap.size w a) : BX a w.heap.size (w.alloc (.cells #[.int .u8 a.kind,.string (bs a.dep.name),.int .u8 a.dep.op,.int .i64 a.dep.evr.epoch,.string (bs a.dep.evr.ver),.string (bs a.dep.evr.rel),.slice a.addr a.args.length a.cap] 39)) :=
 ⟨Box7.new w _ _ _ _ _ _ _ _,(ha.keeps (bR.alloc lR _)).more (by simp)⟩
end
section
structure Cp (w:World)(t:RV)(l:List RV)(v:Value)(wr:World) : Prop where
 old:Below w.heap.size w wr
 inp:Box7 w.heap.size (.int .u8 t.kind) (.string (bs t.dep.name)) (.int .u8 t.dep.op) (.int .i64 t.dep.evr.epoch) (.string (bs t.dep.evr.ver)) (.string (bs t.dep.evr.rel)) (.slice t.addr t.args.length t.cap) wr
 res:zBox (w.heap.size+1) wr
 out:Box7 (w.heap.size+2) (.int .u8 t.kind) (.string (bs t.dep.name)) (.int .u8 t.dep.op) (.int .i64 t.dep.evr.epoch) (.string (bs t.dep.evr.ver)) (.string (bs t.dep.evr.rel)) v wr
 own:Own encR 7 (w.heap.size+3) 39 v l wr
 tr:∀a∈l,TQ (fun b=>w.heap.size+3<=b/\b<wr.heap.size/\v.ownBlock≠some b) wr a
section
variable {w wr w':World}{t:RV}{l:List RV}{v:Value}
theorem Cp.call (h:Cp w t l v wr)(hb:Below wr.heap.size wr w') : Cp w t l v w' where
 old:=h.old.trans (hb.mono h.old.size)
 inp:=h.inp.past (hb.mono h.inp.2.2)
 res:=h.res.past (hb.mono h.res.2.2)
 out:=h.out.past (hb.mono h.out.2.2)
 own:=by
  have ho:=h.own;unfold Own at *;refine⟨ho.1,?_⟩;rcases ho.2 with h2|⟨g,cap,cur,hv,hg,hh,r⟩
  ·exact .inl h2
  ·have hl:g<wr.heap.size:=(Array.getElem?_eq_some_iff.1 hh).1;exact .inr ⟨g,cap,cur,hv,hg,by rw[hb.block g hl];exact hh,r⟩
 tr:=fun a ha=>(h.tr a ha).keep (fun b hq=>⟨hq.1,Nat.lt_of_lt_of_le hq.2.1 hb.size,hq.2.2⟩) fun b hq=>hb.block b hq.2.1
theorem Cp.held {w6:World}{cs:Obj}(h:Cp w t l v wr)(hg:(wr.alloc cs).grownBy w6 v.ownBlock) : w6.cell? ⟨w.heap.size+2,6,none⟩=some v/\w6.frozen? ⟨w.heap.size+2,6,none⟩=false/\w.heap.size+2<w6.heap.size := by
 have hm2:=h.out.2.2;have hb:w6.heap[w.heap.size+2]?=wr.heap[w.heap.size+2]?:=(hg.block (w.heap.size+2) (by simp;omega) (fun e=>by have:=(World.ownsRow.lt h.own _ e.symm).1;omega)).trans (Below.heap_alloc _ _ _ hm2);have hz:=hg.size;refine⟨(World.cell?_of_block (w:=wr) (a:=⟨w.heap.size+2,6,none⟩) hb).trans h.out.1.2.2.2.2.2.2,(World.frozen?_of_block (w:=wr) (a:=⟨w.heap.size+2,6,none⟩) hb).trans h.out.2.1.2.2.2.2.2.2,by simp at hz;omega⟩
theorem Cp.arg {rv:RV}{w6:World}{v':Value}{cs:Obj}(h:Cp w t l v wr)(hT:TQ (fun b=>w'.heap.size<=b/\b<wr.heap.size) wr rv)(hw:w.heap.size+3<=w'.heap.size)(hv:∀b,v.ownBlock=some b->b<w'.heap.size)
  (ho:w6.ownsRow (w.heap.size+3) 39 7 v' (l.length+1) (l.flatMap encR++encR rv)) (hg:(wr.alloc cs).grownBy w6 v.ownBlock) (hv':v'.ownBlock=v.ownBlock \/ v'.ownBlock=some (wr.alloc cs).heap.size):Cp w t (l++[rv]) v' (w6.setCell ⟨w.heap.size+2,6,none⟩ v'):=by
 have hm2:=h.out.2.2;have hsz:wr.heap.size+1=(wr.alloc cs).heap.size:=by simp
 have hr:∀q,v.ownBlock=some q->w.heap.size+3<=q:=fun q e=>(World.ownsRow.lt h.own q e).1;have hG:∀ {B:Nat},B<=w.heap.size+3->Below B (wr.alloc cs) w6:=fun hB=>bR.grown hg (by omega) (fun k e=>Nat.le_trans hB (hr k e));have hA:∀ {B:Nat},B<=w.heap.size+3->Below B wr w6:=fun hB=>(bR.alloc (by omega) cs).trans (hG hB);have hblk:∀b,b<wr.heap.size->v.ownBlock≠some b->w6.heap[b]?=wr.heap[b]?:=fun b hb hne=>(hg.block b (by omega) (fun e=>hne e.symm)).trans (Below.heap_alloc _ _ _ hb);have hset:∀b,b≠w.heap.size+2->(w6.setCell ⟨w.heap.size+2,6,none⟩ v').heap[b]?=w6.heap[b]?:=fun b hb=>Below.heap_setCell _ _ _ _ hb;have hzs:(w6.setCell ⟨w.heap.size+2,6,none⟩ v').heap.size=w6.heap.size:=by simp[World.setCell]
 have hz6:=hg.size;have hz0:=h.old.size;have hS:∀ {B:Nat},B<=w.heap.size+2->Below B wr (w6.setCell ⟨w.heap.size+2,6,none⟩ v'):=fun hB=>(hA (by omega)).setCell (p:=⟨w.heap.size+2,6,none⟩) hB v';have hQ:∀b,b<wr.heap.size->v.ownBlock≠some b->v'.ownBlock≠some b:=fun b hb hne=>by
  rcases hv' with e|e
  ·rw[e];exact hne
  ·rw[e];simp;omega
 have haway:v'.ownBlock≠some (w.heap.size+2):=hQ _ hm2 (fun e=>by have:=hr _ e;omega);refine⟨h.old.trans (hS (by omega)),h.inp.past (hS (by omega)),h.res.past (hS (by omega)),qQ1 (h.out.past (hA (by omega))) v',ownsRow_setCell_other (Own.snoc ho) (a:=⟨w.heap.size+2,6,none⟩) haway v',?_⟩;intro a ha;rcases List.mem_append.1 ha with ha|ha
 ·exact (h.tr a ha).keep (fun b hq=>⟨hq.1,by omega,hQ b hq.2.1 hq.2.2⟩) fun b hq=>(hset b (by omega)).trans (hblk b hq.2.1 hq.2.2)
 ·simp at ha;subst ha;exact hT.keep (fun b hq=>⟨by omega,by omega,hQ b hq.2 (fun e=>by have:=hv b e;omega)⟩) fun b hq=>(hset b (by omega)).trans (hblk b hq.2 (fun e=>by have:=hv b e;omega))
end
def qBK (t:RV)(w:World)(e:Ending)(w':World) : Prop :=
 ∃(A:Option Addr) (c:Nat) (l:List RV),e=.returned (RV.node t.kind t.dep A c l).val/\qA1 l=qA1 t.args/\Own encR 7 w.heap.size 39 (.slice A l.length c) l w' /\
  (∀a∈l,TQ (fun b=>w.heap.size<=b/\b<w'.heap.size/\(Value.slice A l.length c).ownBlock≠some b) w' a)/\Below w.heap.size w w'
theorem qAP {α:Type}{enc:α->List Value}{size base base':Nat}{e:TypeId}{v:Value}{l:List α}{w w':World}(h:Own enc size base e v l w)(hb:base'<=base)(hk:∀g,v.ownBlock=some g->w'.heap[g]?=w.heap[g]?) : Own enc size base' e v l w' := by
 unfold Own at *;refine⟨h.1,?_⟩;rcases h.2 with h2|⟨g,cap,cur,hv,hg,hh,r⟩
 ·exact .inl h2
 ·exact .inr ⟨g,cap,cur,hv,by omega,by rw[hk g (by rw[hv];rfl)];exact hh,r⟩
theorem qBK.tq {t:RV}{w w':World}{e:Ending}(hd:t.dep.wf)(h:qBK t w e w'):∃rv : RV,e=.returned rv.val/\rv.tree=t.tree/\TQ (fun b=>w.heap.size<=b/\b<w'.heap.size) w' rv/\Below w.heap.size w w' := by
 obtain⟨A,c,l,he,ht,ho,hs,hb⟩:=h;refine⟨_,he,by rw[qAD t];simp only[RV.tree];rw[ht],?_,hb⟩;obtain⟨A',c',hv,hr⟩:=ho.rd qC0;cases hv
 refine .mk hd hr.1 hr.2.1 (fun k hk => ?_) fun a ha=>(hs a ha).keep (fun b hq=>⟨hq.1,hq.2.1⟩) fun _ _=>rfl;obtain⟨b,off,e',hlt,hc⟩:=hr.2.2 k hk;have e2:A=some ⟨b,off,none⟩:=e';exact⟨b,off,e',⟨(World.ownsRow.lt ho b (by rw[e2];rfl)).1,hlt⟩,hc⟩
theorem Cp.start {w:World}{t:RV} : Cp w t [] (.slice none 0 0) (((w.alloc (.cells #[.int .u8 t.kind,.string (bs t.dep.name),.int .u8 t.dep.op,.int .i64 t.dep.evr.epoch,.string (bs t.dep.evr.ver),.string (bs t.dep.evr.rel),.slice t.addr t.args.length t.cap] 39)).alloc (.cells #[.int .u8 0,.string ⟨#[]⟩,.int .u8 0,.int .i64 0,.string ⟨#[]⟩,.string ⟨#[]⟩,.slice none 0 0] 39)).alloc (.cells #[.int .u8 t.kind,.string (bs t.dep.name),.int .u8 t.dep.op,.int .i64 t.dep.evr.epoch,.string (bs t.dep.evr.ver),.string (bs t.dep.evr.rel),.slice none 0 0] 39)) := by
 generalize hO1:(.cells #[.int .u8 t.kind,.string (bs t.dep.name),.int .u8 t.dep.op,.int .i64 t.dep.evr.epoch,.string (bs t.dep.evr.ver),.string (bs t.dep.evr.rel),.slice t.addr t.args.length t.cap] 39:Obj)=o1;generalize hO2:(.cells #[.int .u8 0,.string ⟨#[]⟩,.int .u8 0,.int .i64 0,.string ⟨#[]⟩,.string ⟨#[]⟩,.slice none 0 0] 39:Obj)=o2;generalize hO3:(.cells #[.int .u8 t.kind,.string (bs t.dep.name),.int .u8 t.dep.op,.int .i64 t.dep.evr.epoch,.string (bs t.dep.evr.ver),.string (bs t.dep.evr.rel),.slice none 0 0] 39:Obj)=o3;have z1:(w.alloc o1).heap.size=w.heap.size+1:=by simp
 have z2:((w.alloc o1).alloc o2).heap.size=w.heap.size+2:=by simp
 have b1:∀ {B:Nat},B<=w.heap.size->Below B w (w.alloc o1):=fun hB=>bR.alloc hB _;have b2:∀ {B:Nat},B<=w.heap.size+1->Below B (w.alloc o1) ((w.alloc o1).alloc o2):=fun hB=>bR.alloc (by omega) _;have b3:∀ {B:Nat},B<=w.heap.size+2->Below B ((w.alloc o1).alloc o2) (((w.alloc o1).alloc o2).alloc o3):=fun hB=>bR.alloc (by omega) _;refine⟨(b1 lR).trans ((b2 (by omega)).trans (b3 (by omega))),?_,?_,?_,Own.nil_ _ _ _,fun a ha=>by simp at ha⟩
 ·have h:=Box7.new w (.int .u8 t.kind) (.string (bs t.dep.name)) (.int .u8 t.dep.op) (.int .i64 t.dep.evr.epoch) (.string (bs t.dep.evr.ver)) (.string (bs t.dep.evr.rel)) (.slice t.addr t.args.length t.cap) 39;rw[hO1]at h;exact (h.past (b2 (by omega))).past (b3 (by omega))
 ·have h:=Box7.new (w.alloc o1) (.int .u8 0) (.string ⟨#[]⟩) (.int .u8 0) (.int .i64 0) (.string ⟨#[]⟩) (.string ⟨#[]⟩) (.slice none 0 0) 39;rw[hO2,z1]at h;exact h.past (b3 (by omega))
 ·have h:=Box7.new ((w.alloc o1).alloc o2) (.int .u8 t.kind) (.string (bs t.dep.name)) (.int .u8 t.dep.op) (.int .i64 t.dep.evr.epoch) (.string (bs t.dep.evr.ver)) (.string (bs t.dep.evr.rel)) (.slice none 0 0) 39;rw[hO3,z2]at h;exact h
theorem qK5:∀(f:Nat) (t:RV) (w:World),t.ht<=f->t.tree.parts<=1000000->RTree w.heap.size w t->Calls Tryz.prog 51 #[t.val] w (qBK t w)
 |0,t,w,hf,_,_=>absurd hf (by rw[qAN];omega)
 | f+1,t,w,hf,hp,ha=>by
  have IH:=hid (fun x W h1 h2 h3=>qK5 f x W h1 h2 h3);have HA:=hid ha.rrow;have HF:=hid (show htL t.args<=f by rw[qAN]at hf;omega);have HP:=hid (show 1+qA9 (qA1 t.args)<=1000000 by rw[qAD t,RT.parts]at hp;exact hp);have HL:=hid (show t.args.length<=999999 by have h1:=HP.out;have h2:=qBS (qA1 t.args);rw[qA5]at h2;omega);have hm:=ha.row.len;have C0:=hid (Cp.start (w:=w) (t:=t));have hz0:(0:Nat)=0:=rfl;unfold RV.val;clear ha hf hp hz0
  go_enter Tryz.func51,Tryz.ntmps51
  go_wp2_with fail
  go_loopw[4] (fun iv wr => ∃(i:Nat) (l:List RV) (v:Value),i<=t.args.length/\iv=.int .i64 (i:Int)/\qA1 l=(qA1 t.args).take i/\Cp w t l v wr) (fun iv _=>t.args.length - (intOf iv).toNat)
  case atStart=>exact⟨0,[],.slice none 0 0,Nat.zero_le _,rfl,by simp[qA1],C0.out⟩
  case round =>
   obtain⟨i,l,v,hi,rfl,hl,hC⟩:=hrel;rename World=>wr
   have C:=hid hC;have HTL:=hid hl;clear hC hl C0;obtain⟨⟨a0,a1,a2,a3,a4,a5,a6⟩,_,al⟩:=id C.out.inp;by_cases hlt:i<t.args.length
   ·have TA:=((HA.out.below C.out.old).2 _ (List.getElem_mem hlt)).more C.out.old.size;have hwf:=TA.wf;have hht:=Nat.le_trans (qBN (List.getElem_mem hlt)) HF.out;have hkt:i<(qA1 t.args).length:=by rw[qA5];exact hlt
    have hpp:=qBR (l:=qA1 t.args) hkt;rw[qAI t.args i hlt]at hpp;have HC:=hid (fun (W:World) (hb:Below wr.heap.size wr W)=>(IH.out t.args[i] W hht (by have:=HP.out;omega) ((TA.keeps hb).more hb.size)).mono fun e w' h=>qBK.tq hwf h);obtain⟨b,o,hadr,hb,e0,e1,e2,e3,e4,e5,e6⟩:=(HA.out.below C.out.old).at_ hlt
    rw[hadr]at a6 |-;have HTN:=hid (show ∀rv:RV,rv.tree=t.args[i].tree->qA1 (l++[rv])=(qA1 t.args).take (i+1) from fun rv h=>by rw[qEH,HTL.out,qAX _ _ hkt,qAI t.args i hlt];simp only[qA1,h]);have HLL:=hid (show l.length<=999999 by have h1:=congrArg List.length HTL.out;rw[qA5,List.length_take,qA5]at h1;have:=HL.out;omega);have HV:=hid (show ∀b,v.ownBlock=some b->b<wr.drew.heap.size from fun b hb=>(World.ownsRow.lt C.out.own b hb).2);obtain⟨⟨g0,g1,g2,g3,g4,g5,g6⟩,⟨f0,f1,f2,f3,f4,f5,f6⟩,gl⟩:=id C.out.out;have i0:(0:Int)<=(i:Int):=by omega
    have i1:(i:Int)<(t.args.length:Int):=by omega
    unfold RV.val at HC;clear TA hwf hht hkt hpp IH;generalize t.args[i]=x at *;generalize t.args.length=n at *;go_wp2_with fail
    go_region_law (first|(refine qCH (P:=Tryz.prog) _ rfl _ _ 25 rfl (w.heap.size+3) 39 _ _ 7 _ (by rfl) (by rfl) (by rfl) (by rfl) (by rfl) (by rfl) (by decide) qC0 qE3 v _ _ rfl (World.ownsRow.alloc C8.out.own _) (w8.heap.size+1) (some ⟨w8.heap.size,0,none⟩) 1 [rv2] 1 rfl rfl (qN6 w8 rv2) (by have:=HLL.out;simp;omega) (by decide) (by have:=C8.out.old.size;have:=C8.out.out.2.2;simp;omega) ?_;intro v2 w9 ho2 hg2 hv2;simp only[List.length_cons,List.length_nil,Nat.zero_add,List.flatMap_cons,List.flatMap_nil,List.append_nil]at ho2;obtain⟨y6,z6,zl⟩:=C8.out.held hg2;obtain⟨AA,cc,rfl⟩:=qAG ho2)|(go_simp;go_at_call 51;refine (HC.out _ bR.drew).mono ?_;rintro en w8 ⟨rv2,rfl,hrt2,hT2,hB8⟩;have C8:=hid ((C.out.call bR.drew).call hB8);have q6:=C8.out.out.1.2.2.2.2.2.2;have el:=C8.out.out.2.2;have HT2:=hid hT2;have HRT:=hid hrt2;clear hT2 hB8 hrt2;(try unfold RV.val);(try dsimp only)))
    all_goals
     have C9:=hid (C8.out.arg HT2.out (by have:=C.out.out.2.2;show w.heap.size+3<=wr.heap.size;omega) HV.out ho2 hg2 hv2);have HS:=hid (HTN.out rv2 HRT.out);clear y6 z6 zl q6 el ho2 hg2 hv2 HT2 C8 a0 a1 a2 a3 a4 a5 a6 al e0 e1 e2 e3 e4 e5 e6 g0 g1 g2 g3 g4 g5 g6 f0 f1 f2 f3 f4 f5 f6 gl;generalize w9.setCell ⟨w.heap.size+2,6,none⟩ (.slice AA (l.length+1) cc)=w10 at *;go_wp2_with fail
     go_roundw
     case rel=>exact⟨i+1,l++[rv2],.slice AA (l.length+1) cc,by omega,by go_num,HS.out,C9.out⟩
     case measure=>simp[intOf];omega
   ·obtain rfl:i=t.args.length:=by omega
    have HFULL:=hid (show qA1 l=qA1 t.args by rw[HTL.out,List.take_of_length_le (by rw[qA5];exact Nat.le_refl _)]);have i1:¬(t.args.length:Int)<(t.args.length:Int):=by omega
    obtain⟨AA,cc,hv⟩:=qAG C.out.own;subst hv;obtain⟨⟨g0,g1,g2,g3,g4,g5,g6⟩,_,gl⟩:=id C.out.out;obtain⟨⟨r0,r1,r2,r3,r4,r5,r6⟩,⟨k0,k1,k2,k3,k4,k5,k6⟩,rl⟩:=id C.out.res;clear hlt IH HTL;go_wp2_with fail
    have XF:=C.out.res.store (.int .u8 t.kind) (.string (bs t.dep.name)) (.int .u8 t.dep.op) (.int .i64 t.dep.evr.epoch) (.string (bs t.dep.evr.ver)) (.string (bs t.dep.evr.rel)) (.slice AA l.length cc);have hz:=qCY (w.heap.size+1) (.int .u8 t.kind) (.string (bs t.dep.name)) (.int .u8 t.dep.op) (.int .i64 t.dep.evr.epoch) (.string (bs t.dep.evr.ver)) (.string (bs t.dep.evr.rel)) (.slice AA l.length cc) wr;have hk:∀b,b≠w.heap.size+1->(qBO (w.heap.size+1) (.int .u8 t.kind) (.string (bs t.dep.name)) (.int .u8 t.dep.op) (.int .i64 t.dep.evr.epoch) (.string (bs t.dep.evr.ver)) (.string (bs t.dep.evr.rel)) (.slice AA l.length cc) wr).heap[b]?=wr.heap[b]?:=fun b hb=>qBZ _ _ _ _ _ _ _ _ _ hb;unfold qBO at XF;obtain⟨⟨j0,j1,j2,j3,j4,j5,j6⟩,_⟩:=XF;refine bodyPost_ret (v:=.agg #[.int .u8 t.kind,.string (bs t.dep.name),.int .u8 t.dep.op,.int .i64 t.dep.evr.epoch,.string (bs t.dep.evr.ver),.string (bs t.dep.evr.rel),.slice AA l.length cc]) (by simp[results,Tryz.results51,go_sem,j0,j1,j2,j3,j4,j5,j6];try rfl) rfl ?_
    exact⟨AA,cc,l,rfl,HFULL.out,qAP C.out.own (by omega) (fun g hg=>hk g (by have:=(World.ownsRow.lt C.out.own g hg).1;omega)),
     fun a ha=>(C.out.tr a ha).keep (fun b hq=>⟨by omega,by have h1:=hq.2.1;exact Nat.lt_of_lt_of_eq h1 hz.symm,hq.2.2⟩) fun b hq=>hk b (by omega),
     C.out.old.trans (qCD (by omega) bR _ _ _ _ _ _ _)⟩
