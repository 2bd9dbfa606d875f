/- EvRef, SpRef, RowOpen, RowLaid, TRow, PkRow, EvPlain, EvWalk -/
import Derived.Test.YteobmfpbgnmffaaGreatDoorT03
import Derived.Lib.SmallJoins
import Derived.Lib.SplitLaws
import Derived.Lib.AtoiAll
import Derived.Test.YteobmfpbgnmffaaGreatDoorShelf
import Derived.Lib.AppendIntMem
set_option linter.unusedVariables false
set_option maxHeartbeats 8000000
set_option maxRecDepth 100000
open Go.Lib (hid)
set_option linter.unusedSimpArgs false
namespace Go.Proofs.YteobmfpbgnmffaaGreatDoor
open Go.RowKit Go.Shelf
section
theorem qWZ {a b:Evr}(h:a.epoch<b.epoch) : ecmp a b = -1 := by unfold ecmp cmpI;simp[h]
theorem qWY {a b:Evr}(h:b.epoch<a.epoch) : ecmp a b=1 := by
 have e:cmpI a.epoch b.epoch=1:=by unfold cmpI;rw[if_neg (by omega),if_pos h]
 unfold ecmp;simp[e]
theorem qWX {a b:Evr}(h:a.epoch=b.epoch) : ecmp a b=if comp a.ver b.ver≠0 \/ a.rel=[] \/ b.rel=[] then comp a.ver b.ver else comp a.rel b.rel := by
 have e:cmpI a.epoch b.epoch=0:=by unfold cmpI;rw[if_neg (by omega),if_neg (by omega)]
 unfold ecmp;simp[e]
theorem qV5 (a b:Evr)(w:World)(h1:a.ver.length<=1000000)(h2:b.ver.length<=1000000)(h3:a.rel.length<=1000000)(h4:b.rel.length<=1000000) :
  Calls Tryz.prog 134 #[a.val,b.val] w fun e w'=>e=.returned (.int .i64 (ecmp a b))/\Below w.heap.size w w':=by
 have L1:=hid (fun h => @qWZ a b h);have L2:=hid (fun h => @qWY a b h);have L3:=hid (fun h => @qWX a b h);have C1:=hid (fun W=>qK4 (bs a.ver) (bs b.ver) W (by rw[qAO];exact h1) (by rw[qAO];exact h2));have C2:=hid (fun W=>qK4 (bs a.rel) (bs b.rel) W (by rw[qAO];exact h3) (by rw[qAO];exact h4));rw[qA3,qA3]at C1 C2;generalize comp a.ver b.ver=c1 at *;generalize comp a.rel b.rel=c2 at *;generalize ecmp a b=res at *;have q1:=qFK w a;have q2:=qFK (w.alloc (.cells #[.int .i64 a.epoch,.string (bs a.ver),.string (bs a.rel)] 23)) b;simp only[World.size_alloc]at q2;have hn:∀(W:World) (o:Obj),Below W.heap.size W (W.alloc o):=fun W o=>bR.alloc lR o;have q1':=q1.below (hn _ (.cells #[.int .i64 b.epoch,.string (bs b.ver),.string (bs b.rel)] 23)) q1.1
 have hB2:Below w.heap.size w ((w.alloc (.cells #[.int .i64 a.epoch,.string (bs a.ver),.string (bs a.rel)] 23)).alloc (.cells #[.int .i64 b.epoch,.string (bs b.ver),.string (bs b.rel)] 23)) :=
  (bR.alloc lR _).alloc (by simp) _
 unfold Evr.val;clear hn q1
 go_enter Tryz.func134,Tryz.ntmps134
 rcases (show a.epoch<b.epoch \/ b.epoch<a.epoch \/ a.epoch=b.epoch by omega) with he|he|he
 ·have H:=hid (L1.out he);go_wp2_with fail
  go_ret;exact⟨qAU H.out.symm,hB2⟩
 ·have H:=hid (L2.out he);have he' : ¬a.epoch<b.epoch:=by omega
  go_wp2_with fail
  go_ret;exact⟨qAU H.out.symm,hB2⟩
 ·have H:=hid (L3.out he);have he1:¬a.epoch<b.epoch:=by omega
  have he2:¬b.epoch<a.epoch:=by omega
  clear he L1 L2 L3;go_wp2_with fail
  go_at_call 179
  generalize ((w.alloc (.cells #[.int .i64 a.epoch,.string (bs a.ver),.string (bs a.rel)] 23)).alloc (.cells #[.int .i64 b.epoch,.string (bs b.ver),.string (bs b.rel)] 23))=W at *;refine (C1.out W).mono ?_;rintro e w5 ⟨rfl,h⟩;have B5:=hB2.trans (h.mono hB2.size);obtain⟨_,a0,a1,a2⟩:=q1'.below h q1'.1;obtain⟨_,b0,b1,b2⟩:=q2.below h q2.1;clear h q1' q2 hB2;by_cases hc:c1=0
  ·by_cases ha:a.rel=[]
   ·have f1:(bs a.rel).toList=[]:=by rw[qA3,ha]
    have H2:=hid (show c1=res by rw[H.out,if_pos (by simp[ha])]);clear ha;go_wp2_with fail
    go_ret;exact⟨qAU (by rw[<- H2.out,hc]),B5⟩
   have f1:¬(bs a.rel).toList=[]:=by rw[qA3];exact ha
   have f2:(bs a.rel).toList.isEmpty=false:=by rw[qA3];simpa using ha
   by_cases hb:b.rel=[]
   ·have f3:(bs b.rel).toList=[]:=by rw[qA3,hb]
    have H2:=hid (show c1=res by rw[H.out,if_pos (by simp[hb])]);clear ha hb;go_wp2_with fail
    go_ret;exact⟨qAU (by rw[<- H2.out,hc]),B5⟩
   ·have f3:¬(bs b.rel).toList=[]:=by rw[qA3];exact hb
    have f4:(bs b.rel).toList.isEmpty=false:=by rw[qA3];simpa using hb
    have H2:=hid (show c2=res by rw[H.out,if_neg (by simp[ha,hb,hc])]);clear ha hb;go_wp2_with fail
    go_at_call 179
    refine (C2.out w5).mono ?_;rintro e w6 ⟨rfl,h⟩;have B6:=B5.trans (h.mono B5.size);go_wp2
    go_ret;exact⟨qAU H2.out,B6⟩
  ·have H2:=hid (show c1=res by rw[H.out,if_pos (.inl hc)]);go_wp2_with fail
   go_ret;exact⟨qAU H2.out,B5⟩
end
section
structure Dp where
 name:qAF
 op:Int
 evr:Evr
def Dp.val (d:Dp) : Value := .agg #[.string (bs d.name),.int .u8 d.op,.int .i64 d.evr.epoch,.string (bs d.evr.ver),.string (bs d.evr.rel)]
theorem qV6 (n:Int)(w:World) : Calls Tryz.prog 196 #[.int .u8 n] w fun e w'=>e=.returned (.bool (n == 0 || n == 1 || n == 2 || n == 3 || n == 4 || n == 6))/\w=w' := by
 go_enter Tryz.func196,Tryz.ntmps196
 go_wp2
 all_goals (go_ret;exact⟨qA8 (by simp[*]),rfl⟩)
def band (n m:Int) : Int := bits BinOp.and IntKind.u8 n m
def qMA (c:Int) : Int := if c<0 then 1 else if c=0 then 2 else 4
def Evr.ok (e:Evr) : Prop := e.ver.length<=1000000/\e.rel.length<=1000000
def qET (a b:Dp) : Bool := a.op.tmod 8 == 0 || (b.op.tmod 8 == 0 || (let n := ecmp a.evr b.evr
 if n<0 then band a.op 4 != 0 || band b.op 1 != 0 else if 0<n then band a.op 1 != 0 || band b.op 4 != 0 else band (band a.op b.op) 7 != 0))
theorem qR8 (w:World)(d e:Dp) : let W := (w.alloc (.cells #[.string (bs d.name),.int .u8 d.op,.int .i64 d.evr.epoch,.string (bs d.evr.ver),.string (bs d.evr.rel)] 37)).alloc (.cells #[.string (bs e.name),.int .u8 e.op,.int .i64 e.evr.epoch,.string (bs e.evr.ver),.string (bs e.evr.rel)] 37)
  W.cell? ⟨w.heap.size,1,none⟩=some (.int .u8 d.op)/\W.cell? ⟨w.heap.size+1,1,none⟩=some (.int .u8 e.op)/\w.heap.size+1<W.heap.size/\Below w.heap.size w W :=
 ⟨(World.cell?_alloc_past _ _ _ (by simp)).trans ((World.cell?_alloc_at _ _ _ _ rfl).trans rfl),(World.cell?_alloc_at _ _ _ _ (by simp)).trans rfl,by simp,(bR.alloc lR _).alloc (by simp) _⟩
theorem qK7 (a b:Dp)(w:World)(ha:a.evr.ok)(hb:b.evr.ok) : Calls Tryz.prog 191 #[a.val,b.val] w fun e w'=>e=.returned (.bool (qET a b))/\Below w.heap.size w w' := by
 obtain⟨q1,q1b,q2,q3⟩:=qR8 w a b;have C:=hid (fun W=>qV5 a.evr b.evr W ha.1 hb.1 ha.2 hb.2);have H:=hid (show qET a b=(a.op.tmod 8 == 0 || (b.op.tmod 8 == 0 || (if ecmp a.evr b.evr<0 then bits BinOp.and IntKind.u8 a.op 4 != 0 || bits BinOp.and IntKind.u8 b.op 1 != 0 else if 0<ecmp a.evr b.evr then bits BinOp.and IntKind.u8 a.op 1 != 0 || bits BinOp.and IntKind.u8 b.op 4 != 0 else bits BinOp.and IntKind.u8 (bits BinOp.and IntKind.u8 a.op b.op) 7 != 0))) from rfl);generalize qET a b=res at *;unfold Evr.val at C;unfold Dp.val
 cases h1:a.op.tmod 8 == 0 with
 | true =>
  go_enter Tryz.func191,Tryz.ntmps191
  go_wp2_with fail
  go_ret;exact⟨qA8 (by rw[H.out,h1];rfl),q3⟩
 | false =>
  cases h2:b.op.tmod 8 == 0 with
  | true =>
   go_enter Tryz.func191,Tryz.ntmps191
   go_wp2_with fail
   go_ret;exact⟨qA8 (by rw[H.out,h1,h2];rfl),q3⟩
  | false =>
   go_enter Tryz.func191,Tryz.ntmps191
   go_wp2_with fail
   go_at_call 134
   generalize (w.alloc (.cells #[.string (bs a.name),.int .u8 a.op,.int .i64 a.evr.epoch,.string (bs a.evr.ver),.string (bs a.evr.rel)] 37)).alloc (.cells #[.string (bs b.name),.int .u8 b.op,.int .i64 b.evr.epoch,.string (bs b.evr.ver),.string (bs b.evr.rel)] 37)=W at *;refine (C.out W).mono ?_;rintro e w5 ⟨rfl,h⟩;have c:=(h.cell (p:=⟨w.heap.size,1,none⟩) (show w.heap.size<W.heap.size by omega)).trans q1;have cb:=(h.cell (p:=⟨w.heap.size+1,1,none⟩) q2).trans q1b;have hB:=q3.trans (h.mono q3.size);have H1:=hid (H.out.trans (by rw[h1,h2,Bool.false_or,Bool.false_or]));generalize ecmp a.evr b.evr=n at *;clear h q1 q2 q3 q1b H;rcases (show n<0 \/ n=0 \/ 0<n by omega) with hn|hn|hn
   ·have H2:=hid (show res=(bits BinOp.and IntKind.u8 a.op 4 != 0 || bits BinOp.and IntKind.u8 b.op 1 != 0) by rw[H1.out,if_pos hn]);cases e1:bits BinOp.and IntKind.u8 a.op 4 != 0
    all_goals
     go_wp2_with fail
     go_ret;exact⟨qA8 (by rw[H2.out,e1];rfl),hB⟩
   ·have H2:=hid (show res=(bits BinOp.and IntKind.u8 (bits BinOp.and IntKind.u8 a.op b.op) 7 != 0) by rw[H1.out,if_neg (by omega),if_neg (by omega)]);subst hn;go_wp2_with fail
    go_ret;exact⟨qA8 H2.out.symm,hB⟩
   ·have H2:=hid (show res=(bits BinOp.and IntKind.u8 a.op 1 != 0 || bits BinOp.and IntKind.u8 b.op 4 != 0) by rw[H1.out,if_neg (by omega),if_pos hn]);have hn1:¬n<0:=by omega
    cases e1:bits BinOp.and IntKind.u8 a.op 1 != 0
    all_goals
     go_wp2_with fail
     go_ret;exact⟨qA8 (by rw[H2.out,e1];rfl),hB⟩
end
section
open Go.ChangeShapes Go.WideShapes Go.ChangeAt Go.RowKit
theorem own : ownKnob Tryz.prog.godebug=none := by kernel_rfl
theorem qG2 : laidOutB Tryz.prog=true := by kernel_rfl
section
variable {H:Type}{enc:TypeId × Value->H}{P:Program}{W:World}{held:Bool}{t e:TypeId}{d:DataW H}{p:List MemPlace}
theorem qWN {r:Reach}{b0:Nat}{v:Value}{sp:Nat->Bool}{k:IntKind}(ht:P.underlying t=some (.int k))(hval:Value.okWide P W r b0 t v)(h:DataW.Trod enc P W 0 sp held t v d p) :
  ∃n:Int,v=.int k n/\(Lit.int k n).wf=true:=by
 obtain⟨n,h1,_,_,h4⟩:=open_int ht hval h;exact⟨n,h1,h4⟩
end
end
section
open Go.ChangeShapes Go.WideShapes Go.ChangeAt Go.RowKit
def Evr.wf (e:Evr) : Prop := (Lit.int .i64 e.epoch).wf=true/\e.ver.length<=maxLen/\e.rel.length<=maxLen
def Dp.wf (d:Dp) : Prop := d.name.length<=maxLen/\(Lit.int .u8 d.op).wf=true/\d.evr.wf
section
variable {H:Type}{enc:TypeId × Value->H}{P:Program}{W:World}{held:Bool}{t ti ts tu te:TypeId}{f0 f1 f2 g0 g1 g2:Field}{d:DataW H}{p:List MemPlace}
theorem qNG {base n:Nat}{sp:Nat->Bool}{cs:List Value}{x:DataW H × List MemPlace}(hs:P.underlying t=some (.struct #[f0,f1,f2]))(hF:(f0.type,f0.offset,f1.type,f1.offset,f2.type,f2.offset)=(ti,0,ts,1,ts,2))
  (hi:P.underlying ti=some (.int .i64)) (hst:P.underlying ts=some .string) (hC:(P.cellsOf ti == 1 && P.cellsOf ts == 1 && P.cellsOf t == 3)=true)
  (h:DataW.trod enc P W base sp held n t cs=some x):∃e:Evr,cs=[.int .i64 e.epoch,.string (bs e.ver),.string (bs e.rel)]/\e.wf:=by
 simp only[Bool.and_eq_true,beq_iff_eq]at hC;obtain⟨⟨c1,c2⟩,c3⟩:=hC;obtain⟨xs,m,_,hx,hl,hlen,hg⟩:=DataW.trod_struct hs h;have q0:=hg 0 f0 rfl;have q1:=hg 1 f1 rfl;have q2:=hg 2 f2 rfl;simp only[Prod.mk.injEq]at hF
 match xs,hlen with
 | [y0,y1,y2],_ =>
  rw[c3]at hl
  match cs,hl with
  | [v0,v1,v2],_ =>
   simp only[hF,c1,c2,List.drop_zero,List.drop_succ_cons,List.take_succ_cons,List.take_zero]at q0 q1 q2;obtain⟨k,e0,_,w0⟩:=DataW.trod_int hi (show DataW.trod enc P W base sp held m ti [v0]=some y0 from q0);obtain⟨s1,e1,_,w1⟩:=DataW.trod_string hst (show DataW.trod enc P W base sp held m ts [v1]=some y1 from q1);obtain⟨s2,e2,_,w2⟩:=DataW.trod_string hst (show DataW.trod enc P W base sp held m ts [v2]=some y2 from q2);cases e0;cases e1;cases e2
   exact⟨⟨k,s1.toList,s2.toList⟩,by simp only[qCE],w0,by rw[qA7];exact w1,by rw[qA7];exact w2⟩
end
theorem qZ5 {n:Int}(h:(Lit.int .u8 n).wf=true) : 0<=n/\n<=255 := by simpa [Lit.wf,IntKind.min,IntKind.max,IntKind.signed,IntKind.bits] using h
end
section
open Go.RowKit
def TR (W:World)(A:Option Addr)(D:List ByteArray) : Prop := ∀(k:Nat) (hk:k<D.length),∃b o,A=some ⟨b,o,none⟩/\b<W.heap.size/\W.cell? ⟨b,o+k,none⟩=some (.string D[k])
end
section
open Go.RowKit
inductive RV where
 | node (kind:Int) (d:Dp) (A:Option Addr) (cap:Nat) (args:List RV)
def RV.kind : RV->Int | .node k _ _ _ _=>k
def RV.dep : RV->Dp | .node _ d _ _ _=>d
def RV.addr : RV->Option Addr | .node _ _ A _ _=>A
def RV.cap : RV->Nat | .node _ _ _ c _=>c
def RV.args : RV->List RV | .node _ _ _ _ l=>l
def encD (d:Dp) : List Value := [.string (bs d.name),.int .u8 d.op,.int .i64 d.evr.epoch,.string (bs d.evr.ver),.string (bs d.evr.rel)]
def encR (t:RV) : List Value := [.int .u8 t.kind,.string (bs t.dep.name),.int .u8 t.dep.op,.int .i64 t.dep.evr.epoch,.string (bs t.dep.evr.ver),.string (bs t.dep.evr.rel),.slice t.addr t.args.length t.cap]
inductive RTree (B:Nat)(W:World) : RV->Prop where
 | mk {t:RV} : t.dep.wf->Rd encR 7 B t.addr t.cap t.args W->(∀a∈t.args,RTree B W a)->RTree B W t
theorem RTree.wf {B:Nat}{W:World}{t:RV}(h:RTree B W t) : t.dep.wf := by cases h;assumption
theorem RTree.row {B:Nat}{W:World}{t:RV}(h:RTree B W t) : Rd encR 7 B t.addr t.cap t.args W := by cases h;assumption
theorem RTree.sub {B:Nat}{W:World}{t:RV}(h:RTree B W t):∀a∈t.args,RTree B W a := by cases h;assumption
theorem RTree.keeps {B:Nat}{W W':World}{t:RV}(h:RTree B W t)(hb:Below B W W') : RTree B W' t := by
 induction h with
 | mk hw hr _ ih=>exact .mk hw (hr.below hb) ih
theorem RTree.more {B B':Nat}{W:World}{t:RV}(h:RTree B W t)(hb:B<=B') : RTree B' W t := by
 induction h with
 | mk hw hr _ ih=>exact .mk hw (hr.more hb) ih
def RRow (B:Nat)(W:World)(A:Option Addr)(cap:Nat)(l:List RV) : Prop := Rd encR 7 B A cap l W /\ ∀t∈l,RTree B W t
theorem RRow.below {B:Nat}{W W':World}{A:Option Addr}{cap:Nat}{l:List RV}(h:RRow B W A cap l)(hb:Below B W W') : RRow B W' A cap l := ⟨h.1.below hb,fun t ht=>(h.2 t ht).keeps hb⟩
theorem RRow.more {B B':Nat}{W:World}{A:Option Addr}{cap:Nat}{l:List RV}(h:RRow B W A cap l)(hb:B<=B') : RRow B' W A cap l := ⟨h.1.more hb,fun t ht=>(h.2 t ht).more hb⟩
theorem RRow.sub {B:Nat}{W:World}{A:Option Addr}{cap:Nat}{l:List RV}(h:RRow B W A cap l){k:Nat}(hk:k<l.length) : RRow B W l[k].addr l[k].cap l[k].args := ⟨(h.2 _ (List.getElem_mem hk)).row,(h.2 _ (List.getElem_mem hk)).sub⟩
theorem Rd.cells {α:Type}{enc:α->List Value}{size B:Nat}{A:Option Addr}{cap:Nat}{l:List α}{w:World}(h:Rd enc size B A cap l w){k:Nat}(hk:k<l.length):∃b o,A=some ⟨b,o,none⟩/\b<B /\ ∀i v,(enc l[k])[i]?=some v->w.cell? ⟨b,o+k * size+i,none⟩=some v := by
 obtain⟨b,o,e,hb,hc⟩:=h.2.2 k hk;exact⟨b,o,e,hb,fun i v hv=>hc i v hv⟩
theorem RRow.at_ {B:Nat}{W:World}{A:Option Addr}{cap:Nat}{l:List RV}(h:RRow B W A cap l){k:Nat}(hk:k<l.length):∃b o,A=some ⟨b,o,none⟩/\b<B/\W.cell? ⟨b,o+k * 7,none⟩=some (.int .u8 l[k].kind)/\W.cell? ⟨b,o+k * 7+1,none⟩=some (.string (bs l[k].dep.name))/\W.cell? ⟨b,o+k * 7+2,none⟩=some (.int .u8 l[k].dep.op)/\W.cell? ⟨b,o+k * 7+3,none⟩=some (.int .i64 l[k].dep.evr.epoch)/\W.cell? ⟨b,o+k * 7+4,none⟩=some (.string (bs l[k].dep.evr.ver))/\W.cell? ⟨b,o+k * 7+5,none⟩=some (.string (bs l[k].dep.evr.rel))/\W.cell? ⟨b,o+k * 7+6,none⟩=some (.slice l[k].addr l[k].args.length l[k].cap) := by
 obtain⟨b,o,e,hb,hc⟩:=h.1.cells hk;exact⟨b,o,e,hb,hc 0 _ rfl,hc 1 _ rfl,hc 2 _ rfl,hc 3 _ rfl,hc 4 _ rfl,hc 5 _ rfl,hc 6 _ rfl⟩
theorem Rd.dep_at {B:Nat}{W:World}{A:Option Addr}{cap:Nat}{l:List Dp}(h:Rd encD 5 B A cap l W){k:Nat}(hk:k<l.length):∃b o,A=some ⟨b,o,none⟩/\b<B/\W.cell? ⟨b,o+k * 5,none⟩=some (.string (bs l[k].name))/\W.cell? ⟨b,o+k * 5+1,none⟩=some (.int .u8 l[k].op)/\W.cell? ⟨b,o+k * 5+2,none⟩=some (.int .i64 l[k].evr.epoch)/\W.cell? ⟨b,o+k * 5+3,none⟩=some (.string (bs l[k].evr.ver))/\W.cell? ⟨b,o+k * 5+4,none⟩=some (.string (bs l[k].evr.rel)) := by
 obtain⟨b,o,e,hb,hc⟩:=h.cells hk;exact⟨b,o,e,hb,hc 0 _ rfl,hc 1 _ rfl,hc 2 _ rfl,hc 3 _ rfl,hc 4 _ rfl⟩
end
section
open Go.RowKit
def okI (n:Int) : Bool := decide ((97<=n/\n<=122) \/ (65<=n/\n<=90) \/ (48<=n/\n<=57) \/ n=46 \/ n=95 \/ n=43 \/ n=126 \/ n=94)
def okc (c:UInt8) : Bool := okI (c.toNat : Int)
def qCI (l:qAF) : Bool := decide (1<=l.length) && (decide (l.length<=64) && l.all okc)
def mayB (e:Evr)(dep:Bool) : Bool := decide (0<=e.epoch) && (decide (e.epoch<=2147483647) && (qCI e.ver && (qCI e.rel || (dep && e.rel.isEmpty))))
theorem qEL {l:qAF} : qCI l=true ↔ 1<=l.length/\l.length<=64 /\ ∀c∈l,okc c=true := by
 unfold qCI;simp[List.all_eq_true]
end
section
theorem qBC {n:Int}(h:(97<=n/\n<=122) \/ (65<=n/\n<=90) \/ (48<=n/\n<=57) \/ n=46 \/ n=95 \/ n=43 \/ n=126 \/ n=94) : okI n=true := decide_eq_true h
theorem qWF {n:Int}(h:¬((97<=n/\n<=122) \/ (65<=n/\n<=90) \/ (48<=n/\n<=57) \/ n=46 \/ n=95 \/ n=43 \/ n=126 \/ n=94)) : okI n=false := decide_eq_false h
def qNE : qAF := [46,95,43,126,94]
theorem qSN {n:Int}(h:n=46 \/ n=95 \/ n=43 \/ n=126 \/ n=94):∃i : Nat,i<5/\Lib.indexByte qNE n.toNat.toUInt8=(i:Int) := by
 rcases h with rfl|rfl|rfl|rfl|rfl
 ·exact⟨0,by decide,by decide⟩
 ·exact⟨1,by decide,by decide⟩
 ·exact⟨2,by decide,by decide⟩
 ·exact⟨3,by decide,by decide⟩
 ·exact⟨4,by decide,by decide⟩
theorem qVJ {n:Int}(h0:0<=n)(h1:n<256)(h:¬(n=46 \/ n=95 \/ n=43 \/ n=126 \/ n=94)) : Lib.indexByte qNE n.toNat.toUInt8 = -1 := by
 have key:∀k:Fin 256,(k.val=46 \/ k.val=95 \/ k.val=43 \/ k.val=126 \/ k.val=94) \/ Lib.indexByte qNE k.val.toUInt8 = -1:=by decide +kernel
 rcases key ⟨n.toNat,by omega⟩ with hk|hk
 ·dsimp only at hk;omega
 ·exact hk
theorem qSM (n:Int)(i:Int)(w:World)(h:Lib.indexByte qNE n.toNat.toUInt8=i) : Calls Tryz.prog 157 #[.string ⟨#[46,95,43,126,94]⟩,.int .u8 n] w fun e w'=>e=.returned (.int .i64 i)/\w=w' := by
 refine (Tryz.strings_IndexByte ⟨#[46,95,43,126,94]⟩ n w).mono ?_;rintro e w' ⟨rfl,rfl⟩;subst h;exact⟨rfl,rfl⟩
theorem qH9 (n:Int) : (97<=n/\n<=122) \/ (65<=n/\n<=90) \/ (48<=n/\n<=57) \/ n=46 \/ n=95 \/ n=43 \/ n=126 \/ n=94 \/ (¬(n=46 \/ n=95 \/ n=43 \/ n=126 \/ n=94)/\(n<48 \/ (58<=n/\n<65) \/ (91<=n/\n<97) \/ 123<=n)) := by omega
theorem qKU {s:ByteArray}{k:Nat}(hk:k<s.size)(h:∀c∈s.toList.take k,okc c=true)(hc:okI (s[k].toNat : Int)=true):∀c∈s.toList.take (k+1),okc c=true := by
 rw[qCZ s k hk];intro c hm;rcases List.mem_append.1 hm with hm|hm
 ·exact h c hm
 ·rw[List.mem_singleton]at hm;subst hm;exact hc
theorem qNN {s:ByteArray}{k:Nat}(hk:k<s.size)(hc:okI (s[k].toNat : Int)=false) : qCI s.toList=false := by
 cases h:qCI s.toList with
 | false=>rfl
 | true =>
  have hm:s[k]∈s.toList:=by rw[<- qBU s k hk];exact List.getElem_mem _
  have:=(qEL.1 h).2.2 _ hm;unfold okc at this;rw[hc]at this;cases this
theorem qKR {s:ByteArray}(h1:1<=s.size)(h2:s.size<=64)(h:∀c∈s.toList,okc c=true) : qCI s.toList=true := qEL.2 ⟨by rw[qA7];exact h1,by rw[qA7];exact h2,h⟩
theorem qKT {s:ByteArray}(h:s.size=0) : qCI s.toList=false := by
 cases hw:qCI s.toList with
 | false=>rfl
 | true=>have:=(qEL.1 hw).1;rw[qA7]at this;omega
theorem qKS {s:ByteArray}(h:64<s.size) : qCI s.toList=false := by
 cases hw:qCI s.toList with
 | false=>rfl
 | true=>have:=(qEL.1 hw).2.1;rw[qA7]at this;omega
theorem qNM (s:ByteArray)(w:World)(hs:s.size<=maxLen) : Calls Tryz.prog 159 #[.string s] w fun e w'=>e=.returned (.bool (qCI s.toList))/\w=w' := by
 unfold maxLen at hs;by_cases h0:s.size=0
 ·have HW:=hid (qKT h0);have e0:s.toList=[]:=List.eq_nil_of_length_eq_zero (by rw[qA7];exact h0);rw[HW.out];clear HW;obtain rfl:s=⟨#[]⟩:=toList_inj (e0.trans (qA3 []).symm);clear e0 h0
  go_enter Tryz.func159,Tryz.ntmps159
  go_wp2
  go_ret;exact⟨rfl,rfl⟩
 have n0:¬s.toList=[]:=fun h=>h0 (by rw[<- qA7,h];rfl);have n1:s.toList.isEmpty=false:=by simpa using n0
 by_cases h64:64<s.size
 ·have HW:=hid (qKS h64);rw[HW.out];clear HW;have h65:(64:Int)<(s.size:Int):=by omega
  go_enter Tryz.func159,Tryz.ntmps159
  go_wp2
  go_ret;exact⟨rfl,rfl⟩
 have h65:¬(64:Int)<(s.size:Int):=by omega
 obtain⟨r,hr⟩:∃r,r=qCI s.toList:=⟨_,rfl⟩;rw[<- hr];have HR:=hid hr;clear hr
 go_enter Tryz.func159,Tryz.ntmps159
 go_wp2
 go_loop [14] (fun i => ∃k:Nat,k<=s.size/\i=.int .i64 (k:Int)/\Hid (∀c∈s.toList.take k,okc c=true)) (fun i=>s.size - (intOf i).toNat)
 case atStart=>exact⟨0,by omega,rfl,hid (by simp)⟩
 case round =>
  obtain⟨k,hk,rfl,hK⟩:=hrel;by_cases hlt:k<s.size
  ·have HY:=hid (fun h=>qKU hlt hK.out h);have HN:=hid (fun h=>qNN (s:=s) hlt h);have b0:(0:Int)<=(s[k].toNat:Int):=by omega
   have b1:(s[k].toNat:Int)<256:=qQ6 _;generalize hn:(s[k].toNat:Int)=n at *;have hn':=hid hn;clear hn;have SY:=hid (fun h=>qSN (n:=n) h);have SN:=hid (fun h=>qVJ (n:=n) b0 b1 h);have SC:=hid (fun i h W=>qSM n i W h);rcases qH9 n with h|h|h|h|h|h|h|h|⟨hx,h⟩
   ·obtain⟨c1,c2⟩:=h;have HG:=hid (HY.out (qBC (by omega)));have HN2:=hn'.out;go_wp2
    go_round
    case rel=>exact⟨k+1,by omega,by go_num,hid HG.out⟩
    case measure=>simp[intOf];omega
   ·obtain⟨c1,c2⟩:=h;have HG:=hid (HY.out (qBC (by omega)));have HN2:=hn'.out;go_wp2
    go_round
    case rel=>exact⟨k+1,by omega,by go_num,hid HG.out⟩
    case measure=>simp[intOf];omega
   ·obtain⟨c1,c2⟩:=h;have HG:=hid (HY.out (qBC (by omega)));have HN2:=hn'.out;go_wp2
    go_round
    case rel=>exact⟨k+1,by omega,by go_num,hid HG.out⟩
    case measure=>simp[intOf];omega
   ·have HG:=hid (HY.out (qBC (by omega)));have HN2:=hn'.out;obtain⟨i,hi5,hi⟩:=SY.out (by omega);have SC2:=hid (fun W=>SC.out i hi W);clear hi;subst h;go_wp2_with (go_at_call 157;refine (SC2.out _).mono ?_;rintro e w' ⟨rfl,rfl⟩)
    go_round
    case rel=>exact⟨k+1,by omega,by go_num,hid HG.out⟩
    case measure=>simp[intOf];omega
   ·have HG:=hid (HY.out (qBC (by omega)));have HN2:=hn'.out;obtain⟨i,hi5,hi⟩:=SY.out (by omega);have SC2:=hid (fun W=>SC.out i hi W);clear hi;subst h;go_wp2_with (go_at_call 157;refine (SC2.out _).mono ?_;rintro e w' ⟨rfl,rfl⟩)
    go_round
    case rel=>exact⟨k+1,by omega,by go_num,hid HG.out⟩
    case measure=>simp[intOf];omega
   ·have HG:=hid (HY.out (qBC (by omega)));have HN2:=hn'.out;obtain⟨i,hi5,hi⟩:=SY.out (by omega);have SC2:=hid (fun W=>SC.out i hi W);clear hi;subst h;go_wp2_with (go_at_call 157;refine (SC2.out _).mono ?_;rintro e w' ⟨rfl,rfl⟩)
    go_round
    case rel=>exact⟨k+1,by omega,by go_num,hid HG.out⟩
    case measure=>simp[intOf];omega
   ·have HG:=hid (HY.out (qBC (by omega)));have HN2:=hn'.out;obtain⟨i,hi5,hi⟩:=SY.out (by omega);have SC2:=hid (fun W=>SC.out i hi W);clear hi;subst h;go_wp2_with (go_at_call 157;refine (SC2.out _).mono ?_;rintro e w' ⟨rfl,rfl⟩)
    go_round
    case rel=>exact⟨k+1,by omega,by go_num,hid HG.out⟩
    case measure=>simp[intOf];omega
   ·have HG:=hid (HY.out (qBC (by omega)));have HN2:=hn'.out;obtain⟨i,hi5,hi⟩:=SY.out (by omega);have SC2:=hid (fun W=>SC.out i hi W);clear hi;subst h;go_wp2_with (go_at_call 157;refine (SC2.out _).mono ?_;rintro e w' ⟨rfl,rfl⟩)
    go_round
    case rel=>exact⟨k+1,by omega,by go_num,hid HG.out⟩
    case measure=>simp[intOf];omega
   ·have HG:=hid (HN.out (qWF (by omega)));have HN2:=hn'.out;have er:r=false:=HR.out.trans HG.out;subst er;clear HG;have SC2:=hid (fun W=>SC.out _ (SN.out hx) W);clear hx;rcases h with h|h|h|h
    ·skip
     go_wp2_with (go_at_call 157;refine (SC2.out _).mono ?_;rintro e w' ⟨rfl,rfl⟩)
     go_ret;exact⟨rfl,rfl⟩
    ·obtain⟨c1,c2⟩:=h;go_wp2_with (go_at_call 157;refine (SC2.out _).mono ?_;rintro e w' ⟨rfl,rfl⟩)
     go_ret;exact⟨rfl,rfl⟩
    ·obtain⟨c1,c2⟩:=h;go_wp2_with (go_at_call 157;refine (SC2.out _).mono ?_;rintro e w' ⟨rfl,rfl⟩)
     go_ret;exact⟨rfl,rfl⟩
    ·skip
     go_wp2_with (go_at_call 157;refine (SC2.out _).mono ?_;rintro e w' ⟨rfl,rfl⟩)
     go_ret;exact⟨rfl,rfl⟩
  ·have hks:k=s.size:=by omega
   have er:r=true:=by rw[HR.out];exact qKR (by omega) (by omega) (by have:=hK.out;rw[hks,<- qA7,List.take_length]at this;exact this)
   subst er;clear hks;go_wp2
   go_ret;exact⟨rfl,rfl⟩
theorem qK9 (s:ByteArray)(w:World)(hs:s.size<=maxLen) : Calls Tryz.prog 169 #[.string s] w fun e w'=>e=.returned (.bool (qCI s.toList))/\w=w' := by
 unfold maxLen at hs;obtain⟨r,hr⟩:∃r,r=qCI s.toList:=⟨_,rfl⟩;rw[<- hr];have HR:=hid hr;clear hr
 go_enter Tryz.func169,Tryz.ntmps169
 go_wp2
 go_loop [3] (fun i => ∃k:Nat,k<=s.size/\i=.int .i64 (k:Int)/\Hid (∀c∈s.toList.take k,okc c=true)) (fun i=>s.size - (intOf i).toNat)
 case atStart=>exact⟨0,by omega,rfl,hid (by simp)⟩
 case round =>
  obtain⟨k,hk,rfl,hK⟩:=hrel;by_cases hlt:k<s.size
  ·have HY:=hid (fun h=>qKU hlt hK.out h);have HN:=hid (fun h=>qNN (s:=s) hlt h);have b0:(0:Int)<=(s[k].toNat:Int):=by omega
   have b1:(s[k].toNat:Int)<256:=qQ6 _;generalize hn:(s[k].toNat:Int)=n at *;have hn':=hid hn;clear hn;rcases qH9 n with h|h|h|h|h|h|h|h|⟨hx,h⟩
   ·obtain⟨c1,c2⟩:=h;have HG:=hid (HY.out (qBC (by omega)));have HN2:=hn'.out;go_wp2
    go_round
    case rel=>exact⟨k+1,by omega,by go_num,hid HG.out⟩
    case measure=>simp[intOf];omega
   ·obtain⟨c1,c2⟩:=h;have HG:=hid (HY.out (qBC (by omega)));have HN2:=hn'.out;go_wp2
    go_round
    case rel=>exact⟨k+1,by omega,by go_num,hid HG.out⟩
    case measure=>simp[intOf];omega
   ·obtain⟨c1,c2⟩:=h;have HG:=hid (HY.out (qBC (by omega)));have HN2:=hn'.out;go_wp2
    go_round
    case rel=>exact⟨k+1,by omega,by go_num,hid HG.out⟩
    case measure=>simp[intOf];omega
   ·have HG:=hid (HY.out (qBC (by omega)));have HN2:=hn'.out;subst h;go_wp2
    go_round
    case rel=>exact⟨k+1,by omega,by go_num,hid HG.out⟩
    case measure=>simp[intOf];omega
   ·have HG:=hid (HY.out (qBC (by omega)));have HN2:=hn'.out;subst h;go_wp2
    go_round
    case rel=>exact⟨k+1,by omega,by go_num,hid HG.out⟩
    case measure=>simp[intOf];omega
   ·have HG:=hid (HY.out (qBC (by omega)));have HN2:=hn'.out;subst h;go_wp2
    go_round
    case rel=>exact⟨k+1,by omega,by go_num,hid HG.out⟩
    case measure=>simp[intOf];omega
   ·have HG:=hid (HY.out (qBC (by omega)));have HN2:=hn'.out;subst h;go_wp2
    go_round
    case rel=>exact⟨k+1,by omega,by go_num,hid HG.out⟩
    case measure=>simp[intOf];omega
   ·have HG:=hid (HY.out (qBC (by omega)));have HN2:=hn'.out;subst h;go_wp2
    go_round
    case rel=>exact⟨k+1,by omega,by go_num,hid HG.out⟩
    case measure=>simp[intOf];omega
   ·have HG:=hid (HN.out (qWF (by omega)));have HN2:=hn'.out;have er:r=false:=HR.out.trans HG.out;subst er;clear HG;have x1:(n == 46)=false:=by simp only[beq_eq_false_iff_ne];omega
    have x2:(n == 95)=false:=by simp only[beq_eq_false_iff_ne];omega
    have x3:(n == 43)=false:=by simp only[beq_eq_false_iff_ne];omega
    have x4:(n == 126)=false:=by simp only[beq_eq_false_iff_ne];omega
    have x5:(n == 94)=false:=by simp only[beq_eq_false_iff_ne];omega
    have y1:¬n=46:=by omega
    have y2:¬n=95:=by omega
    have y3:¬n=43:=by omega
    have y4:¬n=126:=by omega
    have y5:¬n=94:=by omega
    have u1:(n != 46)=true:=by simp only[bne_iff_ne,ne_eq];omega
    have u2:(n != 95)=true:=by simp only[bne_iff_ne,ne_eq];omega
    have u3:(n != 43)=true:=by simp only[bne_iff_ne,ne_eq];omega
    have u4:(n != 126)=true:=by simp only[bne_iff_ne,ne_eq];omega
    have u5:(n != 94)=true:=by simp only[bne_iff_ne,ne_eq];omega
    clear hx;rcases h with h|h|h|h
    ·skip
     go_wp2
     go_ret;exact⟨rfl,rfl⟩
    ·obtain⟨c1,c2⟩:=h;have d57:decide (n<=57)=false:=decide_eq_false (by omega);go_wp2
     go_ret;exact⟨rfl,rfl⟩
    ·obtain⟨c1,c2⟩:=h;have d90:decide (n<=90)=false:=decide_eq_false (by omega);have d57:decide (n<=57)=false:=decide_eq_false (by omega);go_wp2
     go_ret;exact⟨rfl,rfl⟩
    ·skip
     have d122:decide (n<=122)=false:=decide_eq_false (by omega);have d90:decide (n<=90)=false:=decide_eq_false (by omega);have d57:decide (n<=57)=false:=decide_eq_false (by omega);go_wp2
     go_ret;exact⟨rfl,rfl⟩
  ·have hks:k=s.size:=by omega
   by_cases z0:1<=s.size
   ·by_cases z1:s.size<=64
    ·have er:r=true:=by rw[HR.out];exact qKR (by omega) (by omega) (by have:=hK.out;rw[hks,<- qA7,List.take_length]at this;exact this)
     subst er;clear hks;have z2:(1:Int)<=(s.size:Int):=by omega
     have z3:(s.size:Int)<=64:=by omega
     have z4:decide ((s.size:Int)<=64)=true:=decide_eq_true z3;go_wp2
     go_ret;exact⟨rfl,rfl⟩
    ·have er:r=false:=by rw[HR.out];exact qKS (by omega)
     subst er;clear hks;have z2:(1:Int)<=(s.size:Int):=by omega
     have z3:(64:Int)<(s.size:Int):=by omega
     have z4:decide ((s.size:Int)<=64)=false:=decide_eq_false (by omega);go_wp2
     go_ret;exact⟨rfl,rfl⟩
   ·have er:r=false:=by rw[HR.out];exact qKT (by omega)
    subst er;clear hks;have z2:(s.size:Int)<1:=by omega
    go_wp2
    go_ret;exact⟨rfl,rfl⟩
