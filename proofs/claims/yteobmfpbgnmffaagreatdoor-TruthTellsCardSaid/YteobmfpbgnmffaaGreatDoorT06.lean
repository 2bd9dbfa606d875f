/- RlPlain, RichPlain, RlWords, RichMem, RichPlain2, RichSame -/
import Derived.Test.YteobmfpbgnmffaaGreatDoorT05
set_option linter.unusedVariables false
set_option maxHeartbeats 16000000
set_option maxRecDepth 100000
open Go.Lib (hid)
set_option linter.unusedSimpArgs false
namespace Go.Proofs.YteobmfpbgnmffaaGreatDoor
section
open Go.RowKit
def brB (n:Int) : Bool := n == 40 || n == 41
def innB (n:Int) : Bool := decide (32<n) && (decide (n<=126) && !brB n)
def inn (c:UInt8) : Bool := innB c.toNat
abbrev Tok := Nat × qAF
end
section
open Go.RowKit
inductive RT where
 | mk (k:Int) (d:Dp) (l:List RT)
def qD4 : Dp := ⟨[],0,qW0⟩
def qAH (d:Dp) : Bool := d.name.isEmpty && (d.op == 0 && qDO d.evr)
mutual
def RT.parts : RT->Nat | .mk _ _ l=>1+qA9 l
def qA9 : List RT->Nat|[]=>0|t::l=>t.parts+qA9 l
end
mutual
def RT.deep : RT->Nat | .mk k _ l=>if k=1 then 0 else qBH l+1
def qBH : List RT->Nat|[]=>0|t::l=>max t.deep (qBH l)
end
def qF8 (k:Int) : Nat := if k=4 \/ k=5 then 3 else if k=7 then 2 else 24
mutual
def RT.okB : RT->Bool | .mk k d l=>if k=1 then l.isEmpty && qAL d else decide (2<=k/\k<=7) && (qAH d && (decide (2<=l.length/\l.length<=qF8 k) && okL l))
def okL : List RT->Bool|[]=>true|t::l=>t.okB && okL l
end
def RT.whole (t:RT) : Bool := t.okB && decide (t.parts<=24/\t.deep<=8)
def wAnd : qAF := [97,110,100]
def wOr : qAF := [111,114]
def wIf : qAF := [105,102]
def qT9 : qAF := [117,110,108,101,115,115]
def qZ6 : qAF := [119,105,116,104]
def qNL : qAF := [119,105,116,104,111,117,116]
def kwd (k:Int) : qAF := if k=2 then wAnd else if k=3 then wOr else if k=4 then wIf else if k=5 then qT9 else if k=6 then qZ6 else qNL
inductive PR where
 | stop (p:Nat) (e:Int)
 | ok (t:RT) (ws:List Tok) (n:Nat)
theorem qRC (l r:List RT) : okL (l++r)=(okL l && okL r) := by
 induction l with
 | nil=>simp[okL]
 | cons a l ih=>simp[okL,ih,Bool.and_assoc]
theorem qEV (l r:List RT) : qA9 (l++r)=qA9 l+qA9 r := by
 induction l with
 | nil=>simp[qA9]
 | cons a l ih=>simp[qA9,ih,Nat.add_assoc]
theorem qQF (l r:List RT) : qBH (l++r)=max (qBH l) (qBH r) := by
 induction l with
 | nil=>simp[qBH]
 | cons a l ih=>simp[qBH,ih,Nat.max_assoc]
theorem qRD {l:List RT} : okL l=true ↔ ∀t∈l,t.okB=true := by
 induction l with
 | nil=>simp[okL]
 | cons a l ih=>simp[okL,ih]
theorem qJX (t:RT) : 1<=t.parts := by obtain⟨k,d,l⟩ := t;unfold RT.parts;omega
theorem qBS (l:List RT) : l.length<=qA9 l := by
 induction l with
 | nil=>simp
 | cons a l ih=>have:=qJX a;simp only[qA9,List.length_cons];omega
end
section
open Go.RowKit Go.Shelf
attribute [local go_sem] Oper.semAt_some
def qW4 (x:Tok) : List Value := [.string (bs x.2),.int .i64 (x.1 : Int)]
end
section
open Go.RowKit
mutual
def RV.tree : RV->RT | .node k d _ _ l=>.mk k d (qA1 l)
def qA1 : List RV->List RT|[]=>[]|a::l=>a.tree::qA1 l
end
theorem qEH (l r:List RV) : qA1 (l++r)=qA1 l++qA1 r := by
 induction l with
 | nil=>rfl
 | cons a l ih=>simp[qA1,ih]
theorem qA5 (l:List RV) : (qA1 l).length=l.length := by
 induction l with
 | nil=>rfl
 | cons a l ih=>simp[qA1,ih]
def RV.val (t:RV) : Value := .agg #[.int .u8 t.kind,.string (bs t.dep.name),.int .u8 t.dep.op,.int .i64 t.dep.evr.epoch,.string (bs t.dep.evr.ver),.string (bs t.dep.evr.rel),.slice t.addr t.args.length t.cap]
inductive TQ (Q:Nat->Prop)(W:World) : RV->Prop where
 | mk {t:RV} : t.dep.wf->t.args.length<=t.cap->t.cap<=maxLen->(∀(k:Nat) (hk:k<t.args.length),∃b o,t.addr=some ⟨b,o,none⟩/\Q b /\ ∀j u,(encR t.args[k])[j]?=some u->W.cell? ⟨b,o+k * 7+j,none⟩=some u)->(∀a∈t.args,TQ Q W a)->TQ Q W t
theorem TQ.keep {Q Q':Nat->Prop}{W W':World}{t:RV}(h:TQ Q W t)(hQ:∀b,Q b->Q' b)(hb:∀b,Q b->W'.heap[b]?=W.heap[b]?) : TQ Q' W' t := by
 induction h with
 | mk h1 h2 h3 h4 _ ih =>
  refine .mk h1 h2 h3 (fun k hk => ?_) ih;obtain⟨b,o,e,q,hc⟩:=h4 k hk;exact⟨b,o,e,hQ b q,fun j u hu=>(World.cell?_of_block (w:=W) (hb b q)).trans (hc j u hu)⟩
theorem TQ.rtree {Q:Nat->Prop}{W:World}{t:RV}{B:Nat}(h:TQ Q W t)(hQ:∀b,Q b->b<B) : RTree B W t := by
 induction h with
 | mk h1 h2 h3 h4 _ ih =>
  refine .mk h1 ⟨h2,h3,fun k hk => ?_⟩ ih;obtain⟨b,o,e,q,hc⟩:=h4 k hk;exact⟨b,o,e,hQ b q,hc⟩
structure ButR (R:Nat)(w w':World) : Prop where
 os:w'.os=w.os
 tape:w'.tape=w.tape
 output:w'.output=w.output
 size:w.heap.size<=w'.heap.size
 block:∀k,k<w.heap.size->k≠R->w'.heap[k]?=w.heap[k]?
theorem ButR.refl (R:Nat)(w:World) : ButR R w w := ⟨rfl,rfl,rfl,Nat.le_refl _,fun _ _ _=>rfl⟩
theorem ButR.trans {R:Nat}{a b c:World}(h:ButR R a b)(k:ButR R b c) : ButR R a c :=
 ⟨k.os.trans h.os,k.tape.trans h.tape,k.output.trans h.output,Nat.le_trans h.size k.size,fun i hi hr=>(k.block i (Nat.lt_of_lt_of_le hi h.size) hr).trans (h.block i hi hr)⟩
theorem ButR.of {R:Nat}{w w':World}(h:Below w.heap.size w w') : ButR R w w' := ⟨h.os,h.tape,h.output,h.size,fun k hk _=>h.block k hk⟩
theorem ButR.then {R:Nat}{a w w':World}(h:ButR R a w)(hb:Below w.heap.size w w') : ButR R a w' := h.trans (.of hb)
theorem ButR.set {R:Nat}{a w:World}(h:ButR R a w)(i:Nat)(u:Value) : ButR R a (w.setCell ⟨R,i,none⟩ u) :=
 h.trans ⟨rfl,rfl,rfl,by simp[World.setCell],fun k hk hr=>Below.heap_setCell _ _ _ _ hr⟩
theorem ButR.drew {R:Nat}{a w:World}(h:ButR R a w) : ButR R a w.drew := ⟨h.os,h.tape,h.output,h.size,h.block⟩
theorem ButR.below {R B:Nat}{w w':World}(h:ButR R w w')(hB:B<=R)(hR:R<w.heap.size) : Below B w w' := ⟨h.os,h.tape,h.output,h.size,fun k hk=>h.block k (by omega) (by omega)⟩
theorem ButR.cellK {R:Nat}{w w':World}(h:ButR R w w'){p:Addr}(hp:p.block<w.heap.size)(hr:p.block≠R) : w'.cell? p=w.cell? p := World.cell?_of_block (w := w) (h.block p.block hp hr)
theorem ButR.frozenK {R:Nat}{w w':World}(h:ButR R w w'){p:Addr}(hp:p.block<w.heap.size)(hr:p.block≠R) : w'.frozen? p=w.frozen? p := World.frozen?_of_block (w := w) (h.block p.block hp hr)
def Box7 (m:Nat)(a0 a1 a2 a3 a4 a5 a6:Value)(W:World) : Prop :=
 (W.cell? ⟨m,0,none⟩=some a0/\W.cell? ⟨m,1,none⟩=some a1/\W.cell? ⟨m,2,none⟩=some a2/\W.cell? ⟨m,3,none⟩=some a3/\W.cell? ⟨m,4,none⟩=some a4/\W.cell? ⟨m,5,none⟩=some a5/\W.cell? ⟨m,6,none⟩=some a6) /\
 (W.frozen? ⟨m,0,none⟩=false/\W.frozen? ⟨m,1,none⟩=false/\W.frozen? ⟨m,2,none⟩=false/\W.frozen? ⟨m,3,none⟩=false/\W.frozen? ⟨m,4,none⟩=false/\W.frozen? ⟨m,5,none⟩=false/\W.frozen? ⟨m,6,none⟩=false)/\m<W.heap.size
theorem Box7.new (W:World)(a0 a1 a2 a3 a4 a5 a6:Value)(e:TypeId) : Box7 W.heap.size a0 a1 a2 a3 a4 a5 a6 (W.alloc (.cells #[a0,a1,a2,a3,a4,a5,a6] e)) := by
 unfold Box7;refine⟨⟨?_,?_,?_,?_,?_,?_,?_⟩,⟨?_,?_,?_,?_,?_,?_,?_⟩,by simp⟩
 all_goals first|(exact (World.cell?_alloc_at _ _ _ _ rfl).trans rfl)|simp[go_sem]|skip
theorem Box7.butR {R m:Nat}{a0 a1 a2 a3 a4 a5 a6:Value}{W W':World}(h:Box7 m a0 a1 a2 a3 a4 a5 a6 W)(hb:ButR R W W')(hr:m≠R) : Box7 m a0 a1 a2 a3 a4 a5 a6 W' := by
 obtain⟨⟨h0,h1,h2,h3,h4,h5,h6⟩,⟨f0,f1,f2,f3,f4,f5,f6⟩,hl⟩:=h;have hc:∀i,W'.cell? ⟨m,i,none⟩=W.cell? ⟨m,i,none⟩:=fun i=>hb.cellK (p:=⟨m,i,none⟩) hl hr;have hf:∀i,W'.frozen? ⟨m,i,none⟩=W.frozen? ⟨m,i,none⟩:=fun i=>hb.frozenK (p:=⟨m,i,none⟩) hl hr;exact⟨⟨(hc 0).trans h0,(hc 1).trans h1,(hc 2).trans h2,(hc 3).trans h3,(hc 4).trans h4,(hc 5).trans h5,(hc 6).trans h6⟩,⟨(hf 0).trans f0,(hf 1).trans f1,(hf 2).trans f2,(hf 3).trans f3,(hf 4).trans f4,(hf 5).trans f5,(hf 6).trans f6⟩,Nat.lt_of_lt_of_le hl hb.size⟩
theorem ButR.setNew {R:Nat}{a w:World}(h:ButR R a w){p:Addr}(hp:a.heap.size<=p.block)(u:Value) : ButR R a (w.setCell p u) :=
 ⟨h.os,h.tape,h.output,by simpa [World.setCell] using h.size,fun k hk hr=>(Below.heap_setCell _ _ _ _ (by omega)).trans (h.block k hk hr)⟩
def qBO (m:Nat)(b0 b1 b2 b3 b4 b5 b6:Value)(W:World) : World := ((((((W.setCell ⟨m,0,none⟩ b0).setCell ⟨m,1,none⟩ b1).setCell ⟨m,2,none⟩ b2).setCell ⟨m,3,none⟩ b3).setCell ⟨m,4,none⟩ b4).setCell ⟨m,5,none⟩ b5).setCell ⟨m,6,none⟩ b6
theorem qCD {B m:Nat}(hm:B<=m){a W:World}(h:Below B a W)(b0 b1 b2 b3 b4 b5 b6:Value) : Below B a (qBO m b0 b1 b2 b3 b4 b5 b6 W) := by
 unfold qBO;exact ((((((h.setCell (p:=⟨m,0,none⟩) hm _).setCell (p:=⟨m,1,none⟩) hm _).setCell (p:=⟨m,2,none⟩) hm _).setCell (p:=⟨m,3,none⟩) hm _).setCell (p:=⟨m,4,none⟩) hm _).setCell (p:=⟨m,5,none⟩) hm _).setCell (p:=⟨m,6,none⟩) hm _
theorem qCY (m:Nat)(b0 b1 b2 b3 b4 b5 b6:Value)(W:World) : (qBO m b0 b1 b2 b3 b4 b5 b6 W).heap.size=W.heap.size := by simp[qBO,World.setCell]
theorem qBZ (m:Nat)(b0 b1 b2 b3 b4 b5 b6:Value)(W:World){k:Nat}(h:k≠m) : (qBO m b0 b1 b2 b3 b4 b5 b6 W).heap[k]?=W.heap[k]? := by
 unfold qBO;rw[Below.heap_setCell _ _ _ _ h,Below.heap_setCell _ _ _ _ h,Below.heap_setCell _ _ _ _ h,Below.heap_setCell _ _ _ _ h,Below.heap_setCell _ _ _ _ h,Below.heap_setCell _ _ _ _ h,Below.heap_setCell _ _ _ _ h]
theorem Box7.store {m:Nat}{a0 a1 a2 a3 a4 a5 a6:Value}{W:World}(h:Box7 m a0 a1 a2 a3 a4 a5 a6 W)(b0 b1 b2 b3 b4 b5 b6:Value) : Box7 m b0 b1 b2 b3 b4 b5 b6 (qBO m b0 b1 b2 b3 b4 b5 b6 W) := by
 obtain⟨⟨h0,h1,h2,h3,h4,h5,h6⟩,⟨f0,f1,f2,f3,f4,f5,f6⟩,hl⟩:=h;unfold qBO Box7;refine⟨⟨?_,?_,?_,?_,?_,?_,?_⟩,⟨?_,?_,?_,?_,?_,?_,?_⟩,by simpa [World.setCell] using hl⟩
 all_goals simp[go_sem,h0,h1,h2,h3,h4,h5,h6,f0,f1,f2,f3,f4,f5,f6]
theorem Own.butR {α:Type}{enc:α->List Value}{size base R:Nat}{e:TypeId}{v:Value}{l:List α}{w w':World}(h:Own enc size base e v l w)(hb:ButR R w w')(hR:R<base) : Own enc size base e v l w' := by
 unfold Own at *;refine⟨h.1,?_⟩;rcases h.2 with h2|⟨g,cap,cur,hv,hg,hh,r⟩
 ·exact .inl h2
 ·have hl:g<w.heap.size:=(Array.getElem?_eq_some_iff.1 hh).1;exact .inr ⟨g,cap,cur,hv,hg,by rw[hb.block g hl (by omega)];exact hh,r⟩
theorem qA0 {w:World}{a b:Addr}{v:Value}(h:a≠b) : (w.setCell a v).cell? b=w.cell? b := World.cell?_setCell_other w a b v h
theorem qAY {w:World}{a:Addr}{v u:Value}(h:w.cell? a=some u) : (w.setCell a v).cell? a=some v := World.cell?_setCell_same w a v h
structure St (w0:World)(R e:Nat)(ws:List Tok)(n o:Nat)(A:Option Addr)(c:Nat)(W:World) : Prop where
 base:w0.heap.size<=R
 lt:R<W.heap.size
 c0:W.cell? ⟨R,0,none⟩=some (.slice A ws.length c)
 c1:W.cell? ⟨R,1,none⟩=some (.int .i64 (e:Int))
 c2:W.cell? ⟨R,2,none⟩=some (.int .i64 (n:Int))
 c3:W.cell? ⟨R,3,none⟩=some (.int .i64 (o:Int))
 f0:W.frozen? ⟨R,0,none⟩=false
 f2:W.frozen? ⟨R,2,none⟩=false
 f3:W.frozen? ⟨R,3,none⟩=false
 row:Rd qW4 2 R A c ws W
 away:∀b off,A=some ⟨b,off,none⟩->w0.heap.size+3<=b
 old:Below w0.heap.size w0 W
 small:∀x∈ws,x.2.length<=10000/\x.1<=10000
section
variable {w0 W W':World}{R e:Nat}{ws:List Tok}{n o:Nat}{A:Option Addr}{c:Nat}
theorem St.past (h:St w0 R e ws n o A c W)(hb:Below (R+1) W W') : St w0 R e ws n o A c W' where
 base:=h.base
 lt:=Nat.lt_of_lt_of_le h.lt hb.size
 c0:=(hb.cell (p:=⟨R,0,none⟩) (Nat.lt_succ_self R)).trans h.c0
 c1:=(hb.cell (p:=⟨R,1,none⟩) (Nat.lt_succ_self R)).trans h.c1
 c2:=(hb.cell (p:=⟨R,2,none⟩) (Nat.lt_succ_self R)).trans h.c2
 c3:=(hb.cell (p:=⟨R,3,none⟩) (Nat.lt_succ_self R)).trans h.c3
 f0:=(hb.frozen (p:=⟨R,0,none⟩) (Nat.lt_succ_self R)).trans h.f0
 f2:=(hb.frozen (p:=⟨R,2,none⟩) (Nat.lt_succ_self R)).trans h.f2
 f3:=(hb.frozen (p:=⟨R,3,none⟩) (Nat.lt_succ_self R)).trans h.f3
 row:=h.row.below (hb.mono (Nat.le_succ R))
 away:=h.away
 old:=h.old.trans (hb.mono (Nat.le_succ_of_le h.base))
 small:=h.small
theorem St.then (h:St w0 R e ws n o A c W)(hb:Below W.heap.size W W') : St w0 R e ws n o A c W' := h.past (hb.mono h.lt)
theorem St.rowSet (h:St w0 R e ws n o A c W)(i:Nat)(u:Value) : Rd qW4 2 R A c ws (W.setCell ⟨R,i,none⟩ u) := h.row.keep fun p hp=>qA0 (fun hh=>by rw[<- hh]at hp;exact Nat.lt_irrefl _ hp)
theorem St.oldSet (h:St w0 R e ws n o A c W)(i:Nat)(u:Value) : Below w0.heap.size w0 (W.setCell ⟨R,i,none⟩ u) := h.old.setCell (p := ⟨R,i,none⟩) h.base u
theorem St.take {x:Tok}{b off off' c':Nat}(h:St w0 R e (x::ws) n o (some ⟨b,off,none⟩) c W)(hc:c'=c - 1)(ho:ws≠[]->off'=off+2) : St w0 R e ws n o (some ⟨b,off',none⟩) c' (W.setCell ⟨R,0,none⟩ (.slice (some ⟨b,off',none⟩) ws.length c')) where
 base:=h.base
 lt:=by simpa [World.setCell] using h.lt
 c0:=qAY h.c0
 c1:=(qA0 (by simp)).trans h.c1
 c2:=(qA0 (by simp)).trans h.c2
 c3:=(qA0 (by simp)).trans h.c3
 f0:=by rw[World.frozen?_setCell];exact h.f0
 f2:=by rw[World.frozen?_setCell];exact h.f2
 f3:=by rw[World.frozen?_setCell];exact h.f3
 row:=by
  have hr:=h.rowSet 0 (.slice (some ⟨b,off',none⟩) ws.length c');have h1:=hr.1;have h2:=hr.2.1;simp only[List.length_cons]at h1;refine⟨by omega,by omega,fun k hk => ?_⟩;have hne:ws≠[]:=by rintro rfl;simp at hk
  obtain⟨b',o',e',hb,hc'⟩:=hr.2.2 (k+1) (by simp;omega);cases e'
  refine⟨b,off',rfl,hb,fun j u hu => ?_⟩;have:=hc' j u (by simpa using hu);rw[show off'+k * 2+j=off+(k+1) * 2+j by have:=ho hne;omega];exact this
 away:=fun b' o' e'=>by cases e';exact h.away b off rfl
 old:=h.oldSet 0 _
 small:=fun y hy=>h.small y (by simp[hy])
end
def qOC : List (qAF × Nat) := [([],0),([],0),(wAnd,24),(wOr,24),(wIf,3),(qT9,3),(qZ6,24),(qNL,2)]
def qDR (w:World) : Prop := 0<w.heap.size /\ ∀(k:Nat) (hk:k<8),w.cell? ⟨0,k * 2,none⟩=some (.string (bs (qOC[k]'hk).1))/\w.cell? ⟨0,k * 2+1,none⟩=some (.int .i64 ((qOC[k]'hk).2 : Int))
theorem qDR.past {w w':World}{B:Nat}(h:qDR w)(hw:w.heap.size<=B)(hb:Below B w w') : qDR w' :=
 ⟨Nat.lt_of_lt_of_le h.1 hb.size,fun k hk=>⟨(hb.cell (p:=⟨0,k * 2,none⟩) (Nat.lt_of_lt_of_le h.1 hw)).trans (h.2 k hk).1,(hb.cell (p:=⟨0,k * 2+1,none⟩) (Nat.lt_of_lt_of_le h.1 hw)).trans (h.2 k hk).2⟩⟩
end
section
open Go.RowKit
mutual
def qIN : RT->RT->Bool
 | .mk k d l,.mk k' d' l'=>(decide (k=k') && decide (d.name=d'.name) && decide (d.op=d'.op) && decide (d.evr.epoch=d'.evr.epoch) && decide (d.evr.ver=d'.evr.ver) && decide (d.evr.rel=d'.evr.rel)) && qD3 l l'
def qD3 : List RT->List RT->Bool
 | [],[]=>true
 | a::l,b::r=>qIN a b && qD3 l r
 | [],_::_=>false
 | _::_,[]=>false
end
theorem qYE {d d':Dp}(h1:d.name=d'.name)(h2:d.op=d'.op)(h3:d.evr.epoch=d'.evr.epoch)(h4:d.evr.ver=d'.evr.ver)(h5:d.evr.rel=d'.evr.rel) : d=d' := by
 obtain⟨n,o,e,v,r⟩:=d;obtain⟨n',o',e',v',r'⟩:=d';simp only at h1 h2 h3 h4 h5;subst h1 h2 h3 h4 h5;rfl
mutual
theorem qKB:∀a b : RT,qIN a b=true ↔ a=b
 | .mk k d l,.mk k' d' l'=>by
  simp only[qIN,Bool.and_eq_true,decide_eq_true_eq,qEF l l',RT.mk.injEq];constructor
  ·rintro⟨⟨⟨⟨⟨⟨h0,h1⟩,h2⟩,h3⟩,h4⟩,h5⟩,h6⟩;exact⟨h0,qYE h1 h2 h3 h4 h5,h6⟩
  ·rintro⟨rfl,rfl,rfl⟩;simp
theorem qEF:∀l r : List RT,qD3 l r=true ↔ l=r
 | [],[]=>by simp[qD3]
 | a::l,b::r=>by simp[qD3,qKB a b,qEF l r]
 | [],_::_=>by simp[qD3]
 | _::_,[]=>by simp[qD3]
end
theorem qP5 (a:RT) : qIN a a=true := (qKB a a).2 rfl
end
section
open Go.RowKit Go.Shelf
mutual
def RV.ht : RV->Nat | .node _ _ _ _ l=>htL l+1
def htL : List RV->Nat|[]=>0|a::l=>max a.ht (htL l)
end
theorem qBN {a:RV} : ∀ {l:List RV},a∈l->a.ht<=htL l
 | [],h=>by simp at h
 | b::l,h=>by
  simp only[htL];rcases List.mem_cons.1 h with rfl|h
  ·exact Nat.le_max_left _ _
  ·exact Nat.le_trans (qBN h) (Nat.le_max_right _ _)
theorem qAN (t:RV) : t.ht=htL t.args+1 := by obtain⟨k,d,A,c,l⟩ := t;rfl
theorem qAD (t:RV) : t.tree=.mk t.kind t.dep (qA1 t.args) := by obtain⟨k,d,A,c,l⟩ := t;rfl
theorem RTree.rrow {B:Nat}{W:World}{t:RV}(h:RTree B W t) : RRow B W t.addr t.cap t.args := ⟨h.row,h.sub⟩
theorem qQE (x y:qAF) : decide (x=y)=decide ((bs x).toList=(bs y).toList) := by rw[qA3,qA3]
theorem qP4 {l r:List RT}{k:Nat}(hl:l.length=r.length)(hk:k<l.length) : qD3 (l.take (k+1)) (r.take (k+1))=(qD3 (l.take k) (r.take k) && qIN l[k] (r[k]'(by omega))) := by
 rw[qAX l k hk,qAX r k (by omega)];have hlen:(l.take k).length=(r.take k).length:=by simp;omega
 generalize l.take k=a at *;generalize r.take k=b at *
 induction a generalizing b with
 | nil=>cases b with
  | nil=>simp[qD3]
  | cons y b=>simp at hlen
 | cons x a ih=>cases b with
  | nil=>simp at hlen
  | cons y b=>simp only[List.cons_append,qD3,ih b (by simpa using hlen),Bool.and_assoc]
theorem qKA:∀ {l r:List RT},l.length≠r.length->qD3 l r=false
 | [],[],h=>absurd rfl h
 | a::l,b::r,h=>by simp only[qD3];rw[qKA (by simpa using h)];simp
 | [],_::_,_=>rfl
 | _::_,[],_=>rfl
theorem qVD {l r:List RT}{k:Nat}(h:qD3 (l.take k) (r.take k)=false) : qD3 l r=false := by
 cases hs:qD3 l r with
 | false=>rfl
 | true=>rw[(qEF l r).1 hs,(qEF _ _).2 rfl]at h;exact h
theorem qAI (l:List RV)(k:Nat)(h:k<l.length) : (qA1 l)[k]'(by rw[qA5];exact h)=l[k].tree := by
 induction l generalizing k with
 | nil=>simp at h
 | cons a l ih=>cases k with
  | zero=>simp[qA1]
  | succ k=>simp only[qA1,List.getElem_cons_succ];exact ih k (by simpa using h)
theorem qK8:∀(f:Nat) (a b:RV) (w:World),a.ht<=f->RTree w.heap.size w a->RTree w.heap.size w b->Calls Tryz.prog 57 #[a.val,b.val] w fun e w'=>e=.returned (.bool (qIN a.tree b.tree))/\Below w.heap.size w w'
 |0,a,b,w,hf,_,_=>absurd hf (by rw[qAN];omega)
 | f+1,a,b,w,hf,ha,hb=>by
  have IH:=hid (fun x y W h1 h2 h3=>qK8 f x y W h1 h2 h3);have HA:=hid ha.rrow;have HB:=hid hb.rrow;have HF:=hid (show htL a.args<=f by rw[qAN]at hf;omega);have HR:Hid (qIN a.tree b.tree=((decide (a.kind=b.kind) && decide ((bs a.dep.name).toList=(bs b.dep.name).toList) && decide (a.dep.op=b.dep.op) && decide (a.dep.evr.epoch=b.dep.evr.epoch) && decide ((bs a.dep.evr.ver).toList=(bs b.dep.evr.ver).toList) && decide ((bs a.dep.evr.rel).toList=(bs b.dep.evr.rel).toList)) && qD3 (qA1 a.args) (qA1 b.args))):=hid (by rw[qAD a,qAD b,qIN,qQE a.dep.name,qQE a.dep.evr.ver,qQE a.dep.evr.rel]);have hm1:=ha.row.len;have hm2:=hb.row.len;clear ha hb hf;unfold RV.val;generalize a.kind=k1 at *;generalize b.kind=k2 at *;generalize bs a.dep.name=n1 at *;generalize bs b.dep.name=n2 at *;generalize a.dep.op=o1 at *;generalize b.dep.op=o2 at *;generalize a.dep.evr.epoch=e1 at *;generalize b.dep.evr.epoch=e2 at *;generalize bs a.dep.evr.ver=v1 at *;generalize bs b.dep.evr.ver=v2 at *;generalize bs a.dep.evr.rel=r1 at *;generalize bs b.dep.evr.rel=r2 at *;have q0:k1=k2 \/ (k1≠k2/\(k1 != k2)=true):=by by_cases h:k1=k2;exact .inl h;exact .inr ⟨h,by simpa using h⟩
  have tl:∀ {x y:ByteArray},x=y \/ ¬x.toList=y.toList:=fun {x y} => by by_cases h:x.toList=y.toList;exact .inl (toList_inj h);exact .inr h
  rcases q0 with rfl|⟨q,q'⟩;rcases (tl:n1=n2 \/ _) with rfl|q;by_cases q:o1=o2
  subst q;by_cases q:e1=e2
  subst q;rcases (tl:v1=v2 \/ _) with rfl|q;rcases (tl:r1=r2 \/ _) with rfl|q;by_cases q:a.args.length=b.args.length
  ·clear tl;obtain⟨m,hm⟩:∃m,m=a.args.length:=⟨_,rfl⟩;have L1:=hid (show a.args.length=m from hm.symm);have L2:=hid (show b.args.length=m by rw[<- q,hm]);rw[<- q,<- hm];rw[<- hm]at hm1;clear q hm hm2;generalize a.args=l1 at *;generalize b.args=l2 at *;generalize a.addr=aA at *;generalize b.addr=bA at *;generalize a.cap=ac at *;generalize b.cap=bc at *;obtain⟨W2,hW2⟩:∃W2,W2=(w.alloc (.cells #[.int .u8 k1,.string n1,.int .u8 o1,.int .i64 e1,.string v1,.string r1,.slice aA m ac] 39)).alloc (.cells #[.int .u8 k1,.string n1,.int .u8 o1,.int .i64 e1,.string v1,.string r1,.slice bA m bc] 39):=⟨_,rfl⟩;have z1:(w.alloc (.cells #[.int .u8 k1,.string n1,.int .u8 o1,.int .i64 e1,.string v1,.string r1,.slice aA m ac] 39)).heap.size=w.heap.size+1:=by simp
   have c6a:W2.cell? ⟨w.heap.size,6,none⟩=some (.slice aA m ac):=by rw[hW2];exact (World.cell?_alloc_lt _ _ ⟨w.heap.size,6,none⟩ (by simp)).trans ((World.cell?_alloc_at _ _ _ _ rfl).trans rfl)
   have c6b:W2.cell? ⟨w.heap.size+1,6,none⟩=some (.slice bA m bc):=by rw[hW2];exact (World.cell?_alloc_at _ _ _ _ z1.symm).trans rfl
   have hB2:Below w.heap.size w W2:=by rw[hW2];exact (bR.alloc lR _).alloc (by simp) _
   have hz2:W2.heap.size=w.heap.size+2:=by rw[hW2];simp
   have HW2:=hid hW2;have C6A:=hid c6a;have C6B:=hid c6b;have HB2:=hid hB2;have HZ2:=hid hz2;clear hW2 c6a c6b hB2 hz2 z1
   go_enter Tryz.func57,Tryz.ntmps57
   go_wp2_with fail
   go_loopw[5] (fun i wr => ∃k:Nat,k<=m/\i=.int .i64 (k:Int)/\qD3 ((qA1 l1).take k) ((qA1 l2).take k)=true/\Below (w.heap.size+2) W2 wr) (fun i _=>m - (intOf i).toNat)
   case atStart=>exact⟨0,by omega,rfl,rfl,by rw[HW2.out];exact Below.refl _ _⟩
   case round =>
    obtain⟨k,hk,rfl,hS,hB⟩:=hrel;rename World=>wr
    have HWR:=hid (HB2.out.trans (hB.mono (by omega)));have q6a:wr.cell? ⟨w.heap.size,6,none⟩=some (.slice aA m ac):=(hB.cell (p:=⟨w.heap.size,6,none⟩) (by show w.heap.size<w.heap.size+2;omega)).trans C6A.out;have q6b:wr.cell? ⟨w.heap.size+1,6,none⟩=some (.slice bA m bc):=(hB.cell (p:=⟨w.heap.size+1,6,none⟩) (by show w.heap.size+1<w.heap.size+2;omega)).trans C6B.out;have HS:=hid hS;have HBB:=hid hB;clear hS hB;by_cases hlt:k<m
    ·have hka:k<l1.length:=by have:=L1.out;omega
     have hkb:k<l2.length:=by have:=L2.out;omega
     have RA:=HA.out.below HWR.out;have RB:=HB.out.below HWR.out;obtain⟨b1,p1,rfl,hb1,c0,c1,c2,c3,c4,c5,c6⟩:=RA.at_ hka;obtain⟨b2,p2,rfl,hb2,d0,d1,d2,d3,d4,d5,d6⟩:=RB.at_ hkb;have TA:=(RA.2 _ (List.getElem_mem hka)).more HWR.out.size;have TB:=(RB.2 _ (List.getElem_mem hkb)).more HWR.out.size;have hht:=Nat.le_trans (qBN (List.getElem_mem hka)) HF.out;have hc:=IH.out l1[k] l2[k] wr.drew hht (TA.keeps bR.drew) (TB.keeps bR.drew);have hst:=hid (qP4 (l:=qA1 l1) (r:=qA1 l2) (k:=k) (by rw[qA5,qA5,L1.out,L2.out]) (by rw[qA5];exact hka));rw[qAI l1 k hka,qAI l2 k hkb]at hst;unfold RV.val at hc;have HC:=hid hc;clear hc TA TB RA RB hht;generalize l1[k]=t1 at *;generalize l2[k]=t2 at *;clear hka hkb;obtain⟨r,hr⟩:∃r,r=qIN t1.tree t2.tree:=⟨_,rfl⟩;rw[<- hr]at HC hst;clear hr;have i0:(0:Int)<=(k:Int):=by omega
     have i1:(k:Int)<(m:Int):=by omega
     go_wp2_with fail
     have q6a':World.cell? { wr with drawn:=wr.drawn+1 } ⟨w.heap.size,6,none⟩=some (.slice (some ⟨b1,p1,none⟩) m ac):=q6a;have q6b':World.cell? { wr with drawn:=wr.drawn+1 } ⟨w.heap.size+1,6,none⟩=some (.slice (some ⟨b2,p2,none⟩) m bc):=q6b;have c0':World.cell? { wr with drawn:=wr.drawn+1 } ⟨b1,p1+k * 7,none⟩=some (.int .u8 t1.kind):=c0;have c1':World.cell? { wr with drawn:=wr.drawn+1 } ⟨b1,p1+k * 7+1,none⟩=some (.string (bs t1.dep.name)):=c1;have c2':World.cell? { wr with drawn:=wr.drawn+1 } ⟨b1,p1+k * 7+2,none⟩=some (.int .u8 t1.dep.op):=c2;have c3':World.cell? { wr with drawn:=wr.drawn+1 } ⟨b1,p1+k * 7+3,none⟩=some (.int .i64 t1.dep.evr.epoch):=c3;have c4':World.cell? { wr with drawn:=wr.drawn+1 } ⟨b1,p1+k * 7+4,none⟩=some (.string (bs t1.dep.evr.ver)):=c4;have c5':World.cell? { wr with drawn:=wr.drawn+1 } ⟨b1,p1+k * 7+5,none⟩=some (.string (bs t1.dep.evr.rel)):=c5;have c6':World.cell? { wr with drawn:=wr.drawn+1 } ⟨b1,p1+k * 7+6,none⟩=some (.slice t1.addr t1.args.length t1.cap):=c6;have d0':World.cell? { wr with drawn:=wr.drawn+1 } ⟨b2,p2+k * 7,none⟩=some (.int .u8 t2.kind):=d0;have d1':World.cell? { wr with drawn:=wr.drawn+1 } ⟨b2,p2+k * 7+1,none⟩=some (.string (bs t2.dep.name)):=d1;have d2':World.cell? { wr with drawn:=wr.drawn+1 } ⟨b2,p2+k * 7+2,none⟩=some (.int .u8 t2.dep.op):=d2;have d3':World.cell? { wr with drawn:=wr.drawn+1 } ⟨b2,p2+k * 7+3,none⟩=some (.int .i64 t2.dep.evr.epoch):=d3;have d4':World.cell? { wr with drawn:=wr.drawn+1 } ⟨b2,p2+k * 7+4,none⟩=some (.string (bs t2.dep.evr.ver)):=d4;have d5':World.cell? { wr with drawn:=wr.drawn+1 } ⟨b2,p2+k * 7+5,none⟩=some (.string (bs t2.dep.evr.rel)):=d5;have d6':World.cell? { wr with drawn:=wr.drawn+1 } ⟨b2,p2+k * 7+6,none⟩=some (.slice t2.addr t2.args.length t2.cap):=d6
     go_still_tail 10,(by kernel_rfl)
     change wpList _ _ _ _ _ wr.drew;go_wp2_with fail
     go_at_call 57
     refine HC.out.mono ?_;rintro en w5 ⟨rfl,hb5⟩;have HB5:=hid (HBB.out.drew.trans ((hb5.mono (by have:=HBB.out.size;have:=HZ2.out;show w.heap.size+2<=wr.heap.size;omega):Below (w.heap.size+2) wr.drew w5)));clear hb5
     cases r with
     | true =>
      go_wp2_with fail
      go_roundw
      case rel=>exact⟨k+1,by omega,by go_num,by rw[hst.out,HS.out];rfl,HB5.out⟩
      case measure=>simp[intOf];omega
     | false =>
      go_wp2_with fail
      go_ret;exact⟨qA8 (by rw[HR.out,qVD (k:=k+1) (by rw[hst.out];simp)];simp),HB2.out.trans (HB5.out.mono (by omega))⟩
    ·have i1:¬(k:Int)<(m:Int):=by omega
     obtain rfl:k=m:=by omega
     go_wp2_with fail
     go_ret;have h1:(qA1 l1).take k=qA1 l1:=List.take_of_length_le (by rw[qA5,L1.out];omega);have h2:(qA1 l2).take k=qA1 l2:=List.take_of_length_le (by rw[qA5,L2.out];omega);have h3:=HS.out;rw[h1,h2]at h3;exact⟨qA8 (by rw[HR.out,h3];simp),HWR.out⟩
  ·have hl:=hid (qKA (l:=qA1 a.args) (r:=qA1 b.args) (by rw[qA5,qA5];exact q));have q':((a.args.length:Int) != (b.args.length:Int))=true:=by simp only[bne_iff_ne];omega
   clear tl q;generalize a.args.length=m1 at *;generalize b.args.length=m2 at *
   go_enter Tryz.func57,Tryz.ntmps57
   go_wp2_with fail
   go_ret;exact⟨qA8 (by rw[HR.out,hl.out,Bool.and_false]),(bR.alloc lR _).alloc (by simp) _⟩
  all_goals
   clear tl
   go_enter Tryz.func57,Tryz.ntmps57
   go_wp2_with fail
   go_ret;exact⟨qA8 (by rw[HR.out];simp[q]),(bR.alloc lR _).alloc (by simp) _⟩
