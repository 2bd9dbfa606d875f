/- EvShow, EvParse, AppendRd, PkA, SpOps, DepPlain, DepName -/
import Derived.Test.YteobmfpbgnmffaaGreatDoorT04
import Derived.Deep.RegionHeld3
import Derived.Lib.Join
set_option linter.unusedVariables false
set_option maxHeartbeats 8000000
set_option maxRecDepth 100000
open Go.Lib (hid)
set_option linter.unusedSimpArgs false
namespace Go.Proofs.YteobmfpbgnmffaaGreatDoor
open Go.RowKit Go.Shelf
section
theorem qJ6 (e:Evr)(dep:Bool)(w:World)(hw:e.wf) : Calls Tryz.prog 115 #[e.val,.bool dep] w fun r w'=>r=.returned (.bool (mayB e dep))/\Below w.heap.size w w' := by
 have WV:=hid (fun W=>qNM (bs e.ver) W (by rw[qAO];exact hw.2.1));have WR:=hid (fun W=>qNM (bs e.rel) W (by rw[qAO];exact hw.2.2));obtain⟨r,hr⟩:∃r,r=mayB e dep:=⟨_,rfl⟩;rw[<- hr];unfold mayB at hr;rw[qA3]at WV WR;have hx:(bs e.rel).toList=e.rel:=qA3 _;clear hw;unfold Evr.val;obtain⟨p,v,l⟩:=e;dsimp only at *;by_cases h0:0<=p
 ·by_cases h1:p<=2147483647
  ·rw[decide_eq_true h0,decide_eq_true h1]at hr;generalize qCI v=x at *;generalize qCI l=y at *
   cases x with
   | false =>
    obtain rfl:r=false:=hr;clear hx
    go_enter Tryz.func115,Tryz.ntmps115
    go_wp2_with (go_at_call 159;refine (WV.out _).mono ?_;rintro e' w' ⟨rfl,rfl⟩)
    go_ret;exact⟨rfl,bR.alloc lR _⟩
   | true =>
    cases y with
    | true =>
     obtain rfl:r=true:=hr;clear hx
     go_enter Tryz.func115,Tryz.ntmps115
     go_wp2_with ((first|(go_at_call 159;((with_reducible refine (WV.out _).mono ?_);rintro e' w' ⟨rfl,rfl⟩))|(go_at_call 159;refine (WR.out _).mono ?_;rintro e' w' ⟨rfl,rfl⟩)))
     go_ret;exact⟨rfl,bR.alloc lR _⟩
    | false =>
     cases dep with
     | false =>
      obtain rfl:r=false:=hr;clear hx
      go_enter Tryz.func115,Tryz.ntmps115
      go_wp2_with ((first|(go_at_call 159;((with_reducible refine (WV.out _).mono ?_);rintro e' w' ⟨rfl,rfl⟩))|(go_at_call 159;refine (WR.out _).mono ?_;rintro e' w' ⟨rfl,rfl⟩)))
      go_ret;exact⟨rfl,bR.alloc lR _⟩
     | true =>
      by_cases hl:l=[]
      ·have f1:(bs l).toList=[]:=by rw[hx,hl]
       obtain rfl:r=true:=by rw[hr,hl];rfl
       clear hx hl hr
       go_enter Tryz.func115,Tryz.ntmps115
       go_wp2_with ((first|(go_at_call 159;((with_reducible refine (WV.out _).mono ?_);rintro e' w' ⟨rfl,rfl⟩))|(go_at_call 159;refine (WR.out _).mono ?_;rintro e' w' ⟨rfl,rfl⟩)))
       go_ret;exact⟨rfl,bR.alloc lR _⟩
      ·have f1:¬(bs l).toList=[]:=by rw[hx];exact hl
       have f2:(bs l).toList.isEmpty=false:=by rw[hx];simpa using hl
       obtain rfl:r=false:=by rw[hr];simp[hl]
       clear hx hl hr
       go_enter Tryz.func115,Tryz.ntmps115
       go_wp2_with ((first|(go_at_call 159;((with_reducible refine (WV.out _).mono ?_);rintro e' w' ⟨rfl,rfl⟩))|(go_at_call 159;refine (WR.out _).mono ?_;rintro e' w' ⟨rfl,rfl⟩)))
       go_ret;exact⟨rfl,bR.alloc lR _⟩
  ·obtain rfl:r=false:=by rw[hr,decide_eq_false h1];simp
   have h2:2147483647<p:=by omega
   clear hx hr
   go_enter Tryz.func115,Tryz.ntmps115
   go_wp2_with fail
   go_ret;exact⟨rfl,bR.alloc lR _⟩
 ·obtain rfl:r=false:=by rw[hr,decide_eq_false h0];rfl
  have h2:p<0:=by omega
  clear hx hr
  go_enter Tryz.func115,Tryz.ntmps115
  go_wp2_with fail
  go_ret;exact⟨rfl,bR.alloc lR _⟩
end
section
def qW0 : Evr := ⟨0,[],[]⟩
end
section
open Go.RowKit
theorem qCU {α β:Type}{enc:α->List β}{size:Nat}(he:∀x,(enc x).length=size):∀D : List α,(D.flatMap enc).length=D.length * size
 | []=>by simp
 | x::D=>by rw[List.flatMap_cons,List.length_append,he,qCU he D,List.length_cons,Nat.add_mul];omega
section
variable {P:Program}{α:Type}{enc:α->List Value}(w:World)
theorem qCG (base:Nat)(t ty e:TypeId)(i:TypeInfo)(size:Nat)(ht:P.underlying t=some (.slice e))(hi:P.info? e=some i)
  (v:Value) (n:Nat) (xs:List Value) (hown:w.ownsRow base e size v n xs) (c:Nat):(Builtin.append_ #[t,t] ty #[v,.slice none 0 c]).run P w=.ok v w:=by
 rcases hown.2 with⟨rfl,rfl⟩|⟨g,cap,cur,rfl,_,_,hnc,_⟩
 ·simp[Builtin.append_,run_underlying ht,sizeOf,typeInfo,hi,Builtin.lenOf,Builtin.firstCells]
 ·simp[Builtin.append_,run_underlying ht,sizeOf,typeInfo,hi,Builtin.lenOf,Builtin.firstCells,hnc,storeCells]
theorem qCX (base:Nat)(t ty e:TypeId)(i:TypeInfo)(z:Value)(size bytes:Nat)(ht:P.underlying t=some (.slice e))(hi:P.info? e=some i)(hz:i.zero=some z)(hsize:i.size=size)(hby:i.bytes=bytes)(hzc:z.cells.size=size)(hs0:0<size)
  (he:∀x,(enc x).length=size) (h1:∀x,∀u∈enc x,u.oneCell'=true)
  (v:Value) (n:Nat) (xs:List Value) (hown:w.ownsRow base e size v n xs) (B:Nat) (A:Option Addr) (c:Nat) (D:List α) (hT:Rd enc size B A c D w) (hn:n+D.length<=1000000) (hbytes:bytes<=1000) (hbase:base<=w.heap.size) :
  ∃v' w',(Builtin.append_ #[t,t] ty #[v,.slice A D.length c]).run P w=.ok v' w'/\w'.ownsRow base e size v' (n+D.length) (xs++D.flatMap enc)/\w.grownBy w' v.ownBlock/\(v'.ownBlock=v.ownBlock \/ v'.ownBlock=some w.heap.size):=by
 cases A with
 | none =>
  have hD:D=[]:=by
   cases D with
   | nil=>rfl
   | cons x D=>obtain⟨b,o,e,_⟩:=hT.2.2 0 (by simp);cases e
  subst hD;exact⟨v,w,qCG w base t ty e i size ht hi v n xs hown c,by simpa using hown,World.grownBy.refl w _,.inl rfl⟩
 | some ad =>
  obtain⟨v',w',hrun,r1,r2,_,r4⟩:=run_append_own_at (P:=P) w base t ty e i z size bytes ht hi hz hsize hby hzc hs0 v n xs hown ad D.length c (D.flatMap enc) (qCU he D) (fun j u hu=>by
   have hj:j<D.length * size:=by
    have:=(List.getElem?_eq_some_iff.1 hu).1;rw[qCU he]at this;exact this
   have hk:j / size<D.length:=Nat.div_lt_of_lt_mul (by rw[Nat.mul_comm];exact hj);obtain⟨b,o,e2,_,hc⟩:=hT.2.2 (j / size) hk;cases e2
   rw[Addr.add_lit];have hd:=Nat.div_add_mod j size;have h3:=qBP enc size he D (j / size) hk (j % size) (Nat.mod_lt _ hs0);rw[show j / size * size+j % size=j by rw[Nat.mul_comm];exact hd,hu]at h3;have h4:=hc (j % size) u h3.symm;rw[show o+j / size * size+j % size=o+j by rw[Nat.add_assoc,Nat.mul_comm (j / size)];rw[hd]]at h4;exact h4) (fun u hu=>by obtain⟨x,_,hx⟩:=List.mem_flatMap.1 hu;exact h1 x u hx) (by unfold maxLen;omega) (by have:=Nat.mul_le_mul hn hbytes;omega) hbase
  exact⟨v',w',hrun,r1,r2,r4⟩
theorem qCH {ops:Array Oper}{o:Oper}{a:Act}{K:Act->World->Prop}{Q:Exit->Act->World->Prop}{E:Prop}(hgd:o.guard=none)(s x:Operand)(t:TypeId)
  (ho:o.op=.call { callee:=.builtin .append,args:=#[s,x],argTypes:=#[t,t] })
  (base:Nat) (e:TypeId) (i:TypeInfo) (z:Value) (size bytes:Nat) (ht:P.underlying t=some (.slice e)) (hi:P.info? e=some i) (hz:i.zero=some z) (hsize:i.size=size) (hby:i.bytes=bytes) (hzc:z.cells.size=size) (hs0:0<size)
  (he:∀x,(enc x).length=size) (h1:∀x,∀u∈enc x,u.oneCell'=true)
  (v:Value) (n:Nat) (xs:List Value) (hs:a.eval s=v) (hown:w.ownsRow base e size v n xs) (B:Nat) (A:Option Addr) (c:Nat) (D:List α) (m:Nat) (hm:m=D.length) (hx:a.eval x=.slice A m c) (hT:Rd enc size B A c D w) (hn:n+D.length<=1000000) (hbytes:bytes<=1000) (hbase:base<=w.heap.size)
  (h:∀v' w',w'.ownsRow base e size v' (n+D.length) (xs++D.flatMap enc)->w.grownBy w' v.ownBlock->(v'.ownBlock=v.ownBlock \/ v'.ownBlock=some w.heap.size)->K (a.put o.dst v') w') :
  if Region.wanted o (yielded ops a.tmps)=true then Oper.wp P o a w K Q else E:=by
 subst hm;have hw:Region.wanted o (yielded ops a.tmps)=true:=by simp[Region.wanted,hgd]
 rw[if_pos hw];obtain⟨v',w',hrun,r1,r2,r3⟩:=qCX (P:=P) w base t o.type e i z size bytes ht hi hz hsize hby hzc hs0 he h1 v n xs hown B A c D hT hn hbytes hbase;unfold Oper.wp;simp[execOp,ho,resolve,invoke,builtin,hs,hx,hrun,Result.andThen];exact h v' w' r1 r2 r3
end
end
section
theorem qC8 {B:Nat}{w W:World}{n:Nat}(h:Below B w W) : Below B w (W.drewN n) := ⟨h.os,h.tape,h.output,h.size,h.block⟩
structure Pk where
 name:ByteArray
 epoch:Int
 ver:ByteArray
 rel:ByteArray
 arch:Int
 vendor:ByteArray
 provA:Option Addr
 provC:Nat
 prov:List Dp
 reqA:Option Addr
 reqC:Nat
 req:List RV
 conA:Option Addr
 conC:Nat
 con:List RV
 obsA:Option Addr
 obsC:Nat
 obs:List Dp
 rcmA:Option Addr
 rcmC:Nat
 rcm:List RV
 supA:Option Addr
 supC:Nat
 sup:List RV
 sugA:Option Addr
 sugC:Nat
 sug:List RV
 enhA:Option Addr
 enhC:Nat
 enh:List RV
 filesA:Option Addr
 filesC:Nat
 files:List ByteArray
def Pk.val (p:Pk) : Value := .agg #[.string p.name,.int .i64 p.epoch,.string p.ver,.string p.rel,.int .u8 p.arch,.string p.vendor,.slice p.provA p.prov.length p.provC,.slice p.reqA p.req.length p.reqC,.slice p.conA p.con.length p.conC,.slice p.obsA p.obs.length p.obsC,.slice p.rcmA p.rcm.length p.rcmC,.slice p.supA p.sup.length p.supC,.slice p.sugA p.sug.length p.sugC,.slice p.enhA p.enh.length p.enhC,.slice p.filesA p.files.length p.filesC]
def Pk.evr (p:Pk) : Evr := ⟨p.epoch,p.ver.toList,p.rel.toList⟩
def Dp.small (d:Dp) : Prop := d.name.length<=500/\d.evr.ver.length<=500/\d.evr.rel.length<=500
structure Pk.small (p:Pk) : Prop where
 name:p.name.size<=1000
 ver:p.ver.size<=1000
 rel:p.rel.size<=1000
 vendor:p.vendor.size<=1000
 provN:p.prov.length<=100
 obsN:p.obs.length<=100
 filesN:p.files.length<=100
 prov:∀d∈p.prov,d.small
 obs:∀d∈p.obs,d.small
 files:∀s∈p.files,s.size<=500
structure Pk.Laid (B:Nat)(W:World)(p:Pk) : Prop where
 ar:(Lit.int .u8 p.arch).wf=true
 ep:(Lit.int .i64 p.epoch).wf=true
 n0:p.name.size<=maxLen
 n1:p.ver.size<=maxLen
 n2:p.rel.size<=maxLen
 n3:p.vendor.size<=maxLen
 prov:Rd encD 5 B p.provA p.provC p.prov W
 provW:∀d∈p.prov,d.wf
 obs:Rd encD 5 B p.obsA p.obsC p.obs W
 obsW:∀d∈p.obs,d.wf
 files:Rd (fun s=>[Value.string s]) 1 B p.filesA p.filesC p.files W
 filesW:∀s∈p.files,s.size<=maxLen
 req:RRow B W p.reqA p.reqC p.req
 con:RRow B W p.conA p.conC p.con
 rcm:RRow B W p.rcmA p.rcmC p.rcm
 sup:RRow B W p.supA p.supC p.sup
 sug:RRow B W p.sugA p.sugC p.sug
 enh:RRow B W p.enhA p.enhC p.enh
theorem Pk.Laid.below {B:Nat}{W W':World}{p:Pk}(h:p.Laid B W)(hb:Below B W W') : p.Laid B W' :=
 { h with prov:=h.prov.below hb,obs:=h.obs.below hb,files:=h.files.below hb,req:=h.req.below hb,con:=h.con.below hb,rcm:=h.rcm.below hb,sup:=h.sup.below hb,sug:=h.sug.below hb,enh:=h.enh.below hb }
theorem Pk.Laid.more {B B':Nat}{W:World}{p:Pk}(h:p.Laid B W)(hb:B<=B') : p.Laid B' W :=
 { h with prov:=h.prov.more hb,obs:=h.obs.more hb,files:=h.files.more hb,req:=h.req.more hb,con:=h.con.more hb,rcm:=h.rcm.more hb,sup:=h.sup.more hb,sug:=h.sug.more hb,enh:=h.enh.more hb }
theorem Pk.Laid.calls {W W':World}{p:Pk}(h:p.Laid W.heap.size W)(hb:Below W.heap.size W W') : p.Laid W'.heap.size W' := (h.below hb).more hb.size
theorem qE2 (d:Dp) : (encD d).length=5 := rfl
theorem qI5 (d:Dp):∀u∈encD d,u.oneCell'=true := by
 intro u hu;simp only[encD,List.mem_cons,List.not_mem_nil,or_false]at hu;rcases hu with rfl|rfl|rfl|rfl|rfl<;>rfl
end
section
def qKY (w:World) : Prop := 0<w.heap.size /\ ∃bm n,w.cell? ⟨2,0,none⟩=some (.map (some bm))/\2<w.heap.size/\bm<w.heap.size/\w.ownsMap Tryz.prog 9 (plainElem Tryz.prog 5) bm n (Rows.laid_chandlery_span_ops (H := Unit))
theorem qKY.below {w w':World}(h:qKY w)(hb:Below w.heap.size w w') : qKY w' := by
 obtain⟨h0,bm,n,hc,hg,hl,ho⟩:=h;exact⟨Nat.lt_of_lt_of_le h0 hb.size,bm,n,(hb.cell (p:=⟨2,0,none⟩) hg).trans hc,Nat.lt_of_lt_of_le hg hb.size,Nat.lt_of_lt_of_le hl hb.size,ho.kept (qAE hb) (by simp)⟩
theorem qWB : Maps.Keyed Tryz.prog 9 := Maps.string_keyed Tryz.underlying9
def qD9 (n:Int) : qAF := if n=1 then [60] else if n=2 then [61] else if n=3 then [60,61] else if n=4 then [62] else if n=6 then [62,61] else []
def qJV (n:Int) : Bool := n == 0 || n == 1 || n == 2 || n == 3 || n == 4 || n == 6
theorem qWH (x:qAF)(c:Int)(h:(Rows.laid_chandlery_span_ops (H := Unit)).atKey (.string x) .nil=.lit (.int .u8 c)) :
  (x=[]/\c=0) \/ (x=[60]/\c=1) \/ (x=[60,61]/\c=3) \/ (x=[61]/\c=2) \/ (x=[62]/\c=4) \/ (x=[62,61]/\c=6):=by
 unfold Rows.laid_chandlery_span_ops DataW.atKey at h;simp only[List.find?_cons,Lit.sameKey,List.find?_nil]at h;by_cases h0:x=[]
 ·subst h0;simp at h;simp[h]
 by_cases h1:x=[60]
 ·subst h1;simp at h;simp[h]
 by_cases h2:x=[60,61]
 ·subst h2;simp at h;simp[h]
 by_cases h3:x=[61]
 ·subst h3;simp at h;simp[h]
 by_cases h4:x=[62]
 ·subst h4;simp at h;simp[h]
 by_cases h5:x=[62,61]
 ·subst h5;simp at h;simp[h]
 ·have b0:(([]:qAF) == x)=false:=by simpa using Ne.symm h0
  have b1:(([60]:qAF) == x)=false:=by simpa using Ne.symm h1
  have b2:(([60,61]:qAF) == x)=false:=by simpa using Ne.symm h2
  have b3:(([61]:qAF) == x)=false:=by simpa using Ne.symm h3
  have b4:(([62]:qAF) == x)=false:=by simpa using Ne.symm h4
  have b5:(([62,61]:qAF) == x)=false:=by simpa using Ne.symm h5
  rw[b0,b1,b2,b3,b4,b5]at h;cases h
def qIU (op:Int)(left:Lit->Bool) : Prop := op=1 \/ op=2 \/ op=3 \/ op=4 \/ op=6->left (.string (qD9 op))=true
theorem qRI {op:Int}(h:¬(op=1 \/ op=2 \/ op=3 \/ op=4 \/ op=6)) : qD9 op=[] := by
 unfold qD9;rw[if_neg (fun e=>h (by simp[e])),if_neg (fun e=>h (by simp[e])),if_neg (fun e=>h (by simp[e])),if_neg (fun e=>h (by simp[e])),if_neg (fun e=>h (by simp[e]))]
theorem qKK (op:Int) : qIU op (Maps.has (Rows.laid_chandlery_span_ops (H := Unit))) := by
 intro h;rcases h with rfl|rfl|rfl|rfl|rfl<;>rfl
theorem qPB {op:Int}{left:Lit->Bool}(h:qIU op left)(hl:∀kl,left kl=false) : qD9 op=[] := by
 by_cases e:op=1 \/ op=2 \/ op=3 \/ op=4 \/ op=6
 ·have:=h e;rw[hl]at this;cases this
 ·exact qRI e
theorem qMB {op c:Int}{x:qAF}{left:Lit->Bool}(h:qIU op left)(hat:(Rows.laid_chandlery_span_ops (H := Unit)).atKey (.string x) .nil=.lit (.int .u8 c))(hne:¬c=op) :
  qIU op (fun z=>left z && !z.sameKey (.string x)):=by
 intro e;have h1:=h e;have h2:=qWH x c hat;simp only[h1,Bool.true_and,Bool.not_eq_true'];show (qD9 op == x)=false;rw[beq_eq_false_iff_ne];rintro rfl;rcases e with rfl|rfl|rfl|rfl|rfl<;>simp[qD9]at h2<;>exact hne h2
theorem qPC {c:Int}{x:qAF}(hat:(Rows.laid_chandlery_span_ops (H := Unit)).atKey (.string x) .nil=.lit (.int .u8 c)) : x=qD9 c := by
 rcases qWH x c hat with⟨rfl,rfl⟩|⟨rfl,rfl⟩|⟨rfl,rfl⟩|⟨rfl,rfl⟩|⟨rfl,rfl⟩|⟨rfl,rfl⟩<;>rfl
theorem qJF {P:Program}{k:TypeId}(hk:P.underlying k=some .string){key:Value}{kl:Lit}(h:keyOf P k key=some kl):∃x : qAF,key=.string (bs x)/\kl=.string x := by
 cases key<;>simp[keyOf,hk,mapKey]at h
 rename_i s
 obtain⟨hs,rfl⟩:=h;exact⟨s.toList,by rw[qCE],by rw[Lib.toList_data]⟩
theorem qH3 {P:Program}(w:World){ops:Array Oper}{rest:List Oper}{o:Oper}{a:Act}{Q:Exit->Act->World->Prop}
  (hg:o.guard=none) (it:Operand) (hop:o.op=Op.next it false) (k e:TypeId) (K:Maps.Keyed P k) (hk:P.underlying k=some .string) (he:P.underlying e=some (.int .u8))
  (b r n:Nat) (D:DataW Unit) (left:Lit->Bool) (cnt:Nat) (hit:a.eval it=.pointer (some ⟨r,0,none⟩)) (h:w.ranges P k (plainElem P e) b r n D left cnt)
  (hDone:cnt=0->(∀kl,left kl=false)->wpList P ops Q rest (a.put o.dst (.tuple #[.bool false])) w)
  (hMore:∀(x:qAF) (c:Int) (w':World) (cnt':Nat),left (.string x)=true->D.atKey (.string x) .nil=.lit (.int .u8 c)->w'.ranges P k (plainElem P e) b r n D (fun z=>left z && !z.sameKey (.string x)) cnt'->cnt'<cnt ->
   w.grownBy w' (some r)->w'.heap.size=w.heap.size->(Instr.entry (.pointer (some ⟨r,0,none⟩))).run P w'=.ok (.tuple #[.string (bs x),.int .u8 c]) w'->wpList P ops Q rest (a.put o.dst (.tuple #[.bool true,.string (bs x),.int .u8 c])) w') :
  wpList P ops Q (o::rest) a w :=
 wpList_next_ranges w hg it hop k K (plainElem P e) (fun l:qAF=>Value.string (bs l)) (Value.int .u8) (fun key kl hkey=>by obtain⟨x,rfl,_⟩:=qJF hk hkey;exact⟨x,rfl⟩) (fun v y hv=>by obtain⟨c,rfl,_⟩:=plainElem_int_inv he hv;exact⟨c,rfl⟩)
  b r n D left cnt hit h hDone (fun x c kl y w' cnt' hkey hlk hv hat hrg hlt hgr hsz hen=>by
   obtain⟨x',ex,rfl⟩:=qJF hk hkey;obtain rfl:x=x':=qYB (by injection ex);obtain⟨c',ec,rfl,hwc⟩:=plainElem_int_inv he hv;cases ec
   exact hMore x c w' cnt' hlk (hat .nil) hrg hlt hgr hsz hen)
theorem qVM (op:Int)(w:World)(hO:qKY w) : Calls Tryz.prog 188 #[.int .u8 op] w fun e w'=>e=.returned (.string (bs (qD9 op)))/\Below w.heap.size w w' := by
 obtain⟨_,bm,n,hc,_,hl,hown⟩:=hO
 go_enter Tryz.func188,Tryz.ntmps188
 go_wp2_with (first|(at_range;refine wpList_range_own _ rfl _ 227 rfl 9 5 qWB Tryz.underlying227 _ bm n _ rfl hown ?_;intro w0 hrg0 hg0 hs0)|fail)
 go_frame
 have B0:Below w.heap.size w w0:=⟨hg0.os,hg0.tape,hg0.output,hg0.size,fun k hk=>hg0.block k hk (by simp)⟩
 go_loopw[3] (fun _ wr => ∃left cnt,wr.ranges Tryz.prog 9 (plainElem Tryz.prog 5) bm w.heap.size n (Rows.laid_chandlery_span_ops (H:=Unit)) left cnt/\RowKit.Hid (qIU op left)/\Below w.heap.size w wr) (fun _ wr=>wr.rangeLeft bm w.heap.size)
 case atStart=>exact⟨_,_,hrg0,hid (qKK op),B0⟩
 case round =>
  obtain⟨left,cnt,hrg,hT,hB⟩:=hrel;go_wp2_with (first|(at_next;refine qH3 _ rfl _ rfl 9 5 qWB Tryz.underlying9 Tryz.underlying5 bm w.heap.size n _ _ _ rfl hrg ?_ ?_)|fail)
  ·intro _ hl0;have H:=hid (qPB hT.out hl0);clear hl0 hT;go_wp2
   go_ret;exact⟨qGH (by rw[H.out];rfl),hB⟩
  ·intro x c w1 cnt1 _ hat hrg1 hlt hg1 hs1 hen;have hB1:Below w.heap.size w w1:=hB.grown hg1 (by have:=hB.size;omega) (fun k e=>by cases e;exact Nat.le_refl _);clear hs1 hg1;by_cases e:c=op
   ·have H:=hid (qPC hat);subst e;clear hat hT hrg1 hrg;go_wp2
    go_ret;exact⟨qGH (by rw[H.out]),hB1⟩
   ·have H:=hid (qMB hT.out hat e);have e2:(c == op)=false:=by simpa using e
    clear hat hT;go_wp2
    go_roundw
    case rel=>exact⟨_,_,hrg1,H,hB1⟩
    case measure=>rw[hrg1.left_eq,hrg.left_eq];omega
theorem qX9 (op:Int)(w:World)(hO:qKY w) : Calls Tryz.prog 145 #[.int .u8 op] w fun e w'=>e=.returned (.bool (qJV op))/\Below w.heap.size w w' := by
 have T:=hid (qVM op w hO);have hm:qJV op=(op == 0 || !(qD9 op).isEmpty):=by
  unfold qJV qD9;by_cases h0:op=0
  ·simp[h0]
  by_cases h1:op=1
  ·simp[h1]
  by_cases h2:op=2
  ·simp[h2]
  by_cases h3:op=3
  ·simp[h3]
  by_cases h4:op=4
  ·simp[h4]
  by_cases h6:op=6
  ·simp[h6]
  ·have b:∀k:Int,¬op=k->(op == k)=false:=fun k h=>by simpa using h
   simp[h1,h2,h3,h4,h6,b 1 h1,b 2 h2,b 3 h3,b 4 h4,b 6 h6]
 have H:=hid hm;clear hm hO;generalize qJV op=r at *;by_cases h0:op=0
 ·subst h0
  go_enter Tryz.func145,Tryz.ntmps145
  go_wp2
  go_ret;exact⟨qA8 (by rw[H.out];rfl),Below.refl _ _⟩
 ·have e0:(op == 0)=false:=by simpa using h0
  generalize qD9 op=t at *;have H2:=hid (H.out.trans (by rw[e0,Bool.false_or]));clear H
  cases ht:t with
  | nil =>
   subst ht;have f1:(bs []).toList=[]:=qA3 []
   go_enter Tryz.func145,Tryz.ntmps145
   go_wp2_with fail
   go_at_call 188
   refine T.out.mono ?_;rintro e w5 ⟨rfl,h⟩;go_wp2
   go_ret;exact⟨qA8 (by rw[H2.out];rfl),h⟩
  | cons c r =>
   have f1:¬(bs t).toList=[]:=by rw[qA3,ht];simp
   have f2:(bs t).toList.isEmpty=false:=by rw[qA3,ht];rfl
   have H3:=hid (H2.out.trans (show (!t.isEmpty)=true by rw[ht];rfl));clear H2 ht
   go_enter Tryz.func145,Tryz.ntmps145
   go_wp2_with fail
   go_at_call 188
   refine T.out.mono ?_;rintro e w5 ⟨rfl,h⟩;go_wp2
   go_ret;exact⟨qA8 H3.out.symm,h⟩
end
section
open Go.RowKit
def sgnI (n:Int) : Bool := decide ((97<=n/\n<=122) \/ (65<=n/\n<=90) \/ (48<=n/\n<=57) \/ n=46 \/ n=95 \/ n=43 \/ n=45 \/ n=47 \/ n=58 \/ n=64 \/ n=126 \/ n=94)
def sgn (c:UInt8) : Bool := sgnI (c.toNat : Int)
def qD8 : List qAF := [[97,110,100],[111,114],[105,102],[101,108,115,101],[117,110,108,101,115,115],[119,105,116,104],[119,105,116,104,111,117,116]]
def qBM (l:qAF) : Bool := decide (1<=l.length) && (decide (l.length<=64) && (l.all sgn && !qD8.contains l))
def qCF (l:qAF) : Bool := qBM l && (l.head? == some 47)
def qDO (e:Evr) : Bool := e.epoch == 0 && (e.ver.isEmpty && e.rel.isEmpty)
def qAL (d:Dp) : Bool := qBM d.name && (qJV d.op && (if d.op=0 then qDO d.evr else !qCF d.name && mayB d.evr true))
theorem qDI {l:qAF} : qBM l=true ↔ 1<=l.length/\l.length<=64/\(∀c∈l,sgn c=true)/\l ∉ qD8 := by
 unfold qBM;simp[List.all_eq_true]
end
section
def qFR (w:World) : Prop := 1<w.heap.size/\w.cell? ⟨1,0,none⟩=some (.string ⟨#[97,110,100]⟩)/\w.cell? ⟨1,1,none⟩=some (.string ⟨#[111,114]⟩)/\w.cell? ⟨1,2,none⟩=some (.string ⟨#[105,102]⟩)/\w.cell? ⟨1,3,none⟩=some (.string ⟨#[101,108,115,101]⟩) /\
 w.cell? ⟨1,4,none⟩=some (.string ⟨#[117,110,108,101,115,115]⟩)/\w.cell? ⟨1,5,none⟩=some (.string ⟨#[119,105,116,104]⟩)/\w.cell? ⟨1,6,none⟩=some (.string ⟨#[119,105,116,104,111,117,116]⟩)
theorem qFR.below {w w':World}(h:qFR w)(hb:Below w.heap.size w w') : qFR w' := by
 obtain⟨h0,h1,h2,h3,h4,h5,h6,h7⟩:=h;have hs:=hb.size;exact⟨by omega,(hb.cell (p:=⟨_,0,none⟩) h0).trans h1,(hb.cell (p:=⟨_,1,none⟩) h0).trans h2,(hb.cell (p:=⟨_,2,none⟩) h0).trans h3,(hb.cell (p:=⟨_,3,none⟩) h0).trans h4,(hb.cell (p:=⟨_,4,none⟩) h0).trans h5,(hb.cell (p:=⟨_,5,none⟩) h0).trans h6,(hb.cell (p:=⟨_,6,none⟩) h0).trans h7⟩
def PkIn (w:World) : Prop := qKY w/\qFR w
theorem PkIn.below {w w':World}(h:PkIn w)(hb:Below w.heap.size w w') : PkIn w' := ⟨h.1.below hb,h.2.below hb⟩
def qKF : qAF := [97,98,99,100,101,102,103,104,105,106,107,108,109,110,111,112,113,114,115,116,117,118,119,120,121,122,65,66,67,68,69,70,71,72,73,74,75,76,77,78,79,80,81,82,83,84,85,86,87,88,89,90,48,49,50,51,52,53,54,55,56,57,46,95,43,45,47,58,64,126,94]
theorem qKG:∀k : Fin 256,(sgnI (k.val : Int)=true/\0<=Lib.indexByte qKF k.val.toUInt8) \/ (sgnI (k.val : Int)=false/\Lib.indexByte qKF k.val.toUInt8 = -1) := by decide +kernel
theorem qSJ {n:Int}(h:sgnI n=true) : 0<=n/\n<=126 := by
 unfold sgnI at h;have:=of_decide_eq_true h;omega
theorem qZ1 {n:Nat}(h:n<256)(hs:sgnI (n:Int)=true):∃i : Nat,Lib.indexByte qKF n.toUInt8=(i:Int) := by
 rcases qKG ⟨n,h⟩ with⟨_,h2⟩|⟨h1,_⟩
 ·exact Int.eq_ofNat_of_zero_le h2
 ·dsimp only at h1;rw[hs]at h1;cases h1
theorem qVF {n:Nat}(h:n<256)(hs:sgnI (n:Int)=false) : Lib.indexByte qKF n.toUInt8 = -1 := by
 rcases qKG ⟨n,h⟩ with⟨h1,_⟩|⟨_,h2⟩
 ·dsimp only at h1;rw[hs]at h1;cases h1
 ·exact h2
theorem qGP (n:Nat)(i:Int)(w:World)(h:Lib.indexByte qKF n.toUInt8=i) : Calls Tryz.prog 157 #[.string ⟨#[97,98,99,100,101,102,103,104,105,106,107,108,109,110,111,112,113,114,115,116,117,118,119,120,121,122,65,66,67,68,69,70,71,72,73,74,75,76,77,78,79,80,81,82,83,84,85,86,87,88,89,90,48,49,50,51,52,53,54,55,56,57,46,95,43,45,47,58,64,126,94]⟩,.int .u8 (n:Int)] w fun e w'=>e=.returned (.int .i64 i)/\w=w' := by
 refine (Tryz.strings_IndexByte _ (n:Int) w).mono ?_;rintro e w' ⟨rfl,rfl⟩;subst h;exact⟨rfl,rfl⟩
theorem qIF {s:ByteArray}{k:Nat}(hk:k<s.size)(hc:sgn s[k]=false) : qBM s.toList=false := by
 cases h:qBM s.toList with
 | false=>rfl
 | true =>
  have hm:s[k]∈s.toList:=by rw[<- qBU s k hk];exact List.getElem_mem _
  have:=(qDI.1 h).2.2.1 _ hm;rw[hc]at this;cases this
theorem qJT {s:ByteArray}(h:s.size=0) : qBM s.toList=false := by
 cases hw:qBM s.toList with
 | false=>rfl
 | true=>have:=(qDI.1 hw).1;rw[qA7]at this;omega
theorem qJS {s:ByteArray}(h:64<s.size) : qBM s.toList=false := by
 cases hw:qBM s.toList with
 | false=>rfl
 | true=>have:=(qDI.1 hw).2.1;rw[qA7]at this;omega
theorem qAW {l:qAF}(h:l∈qD8) : qBM l=false := by
 cases hw:qBM l with
 | false=>rfl
 | true=>exact absurd h (qDI.1 hw).2.2.2
theorem qJR {s:ByteArray}(h1:1<=s.size)(h2:s.size<=64)(h:∀c∈s.toList,sgn c=true)(h3:s.toList ∉ qD8) : qBM s.toList=true := qDI.2 ⟨by rw[qA7];exact h1,by rw[qA7];exact h2,h,h3⟩
theorem qNC {s:ByteArray}{k:Nat}(hk:k<s.size)(h:∀c∈s.toList.take k,sgn c=true)(hc:sgn s[k]=true):∀c∈s.toList.take (k+1),sgn c=true := by
 rw[qCZ s k hk];intro c hm;rcases List.mem_append.1 hm with hm|hm
 ·exact h c hm
 ·rw[List.mem_singleton]at hm;subst hm;exact hc
theorem qSK {s:ByteArray}{k:Nat}(hk:¬k<s.size)(h:∀c∈s.toList.take k,sgn c=true):∀c∈s.toList,sgn c=true := by
 rwa [List.take_of_length_le (by rw[qA7];omega)]at h
theorem qL9 (l:qAF) : Lib.hasPrefix l [47]=(l.head? == some 47) := by
 unfold Lib.hasPrefix
 cases l with
 | nil=>rfl
 | cons c l =>
  simp[List.isPrefixOf];rw[Bool.eq_iff_iff,beq_iff_eq,beq_iff_eq];exact eq_comm
theorem qJU {l:qAF}(q0:(l == [97,110,100])=false)(q1:(l == [111,114])=false)(q2:(l == [105,102])=false)(q3:(l == [101,108,115,101])=false)(q4:(l == [117,110,108,101,115,115])=false)(q5:(l == [119,105,116,104])=false)(q6:(l == [119,105,116,104,111,117,116])=false) : l ∉ qD8 := by
 unfold qD8;simp only[List.mem_cons,List.not_mem_nil,or_false,not_or];exact⟨beq_eq_false_iff_ne.1 q0,beq_eq_false_iff_ne.1 q1,beq_eq_false_iff_ne.1 q2,beq_eq_false_iff_ne.1 q3,beq_eq_false_iff_ne.1 q4,beq_eq_false_iff_ne.1 q5,beq_eq_false_iff_ne.1 q6⟩
theorem qVS (w:World) : (Instr.index 196 (.agg #[.string ⟨#[97,110,100]⟩,.string ⟨#[111,114]⟩,.string ⟨#[105,102]⟩,.string ⟨#[101,108,115,101]⟩,.string ⟨#[117,110,108,101,115,115]⟩,.string ⟨#[119,105,116,104]⟩,.string ⟨#[119,105,116,104,111,117,116]⟩]) (.int .i64 0)).run Tryz.prog w=.ok (.string ⟨#[97,110,100]⟩) w := by kernel_rfl
theorem qVT (w:World) : (Instr.index 196 (.agg #[.string ⟨#[97,110,100]⟩,.string ⟨#[111,114]⟩,.string ⟨#[105,102]⟩,.string ⟨#[101,108,115,101]⟩,.string ⟨#[117,110,108,101,115,115]⟩,.string ⟨#[119,105,116,104]⟩,.string ⟨#[119,105,116,104,111,117,116]⟩]) (.int .i64 1)).run Tryz.prog w=.ok (.string ⟨#[111,114]⟩) w := by kernel_rfl
theorem qVU (w:World) : (Instr.index 196 (.agg #[.string ⟨#[97,110,100]⟩,.string ⟨#[111,114]⟩,.string ⟨#[105,102]⟩,.string ⟨#[101,108,115,101]⟩,.string ⟨#[117,110,108,101,115,115]⟩,.string ⟨#[119,105,116,104]⟩,.string ⟨#[119,105,116,104,111,117,116]⟩]) (.int .i64 2)).run Tryz.prog w=.ok (.string ⟨#[105,102]⟩) w := by kernel_rfl
theorem qVV (w:World) : (Instr.index 196 (.agg #[.string ⟨#[97,110,100]⟩,.string ⟨#[111,114]⟩,.string ⟨#[105,102]⟩,.string ⟨#[101,108,115,101]⟩,.string ⟨#[117,110,108,101,115,115]⟩,.string ⟨#[119,105,116,104]⟩,.string ⟨#[119,105,116,104,111,117,116]⟩]) (.int .i64 3)).run Tryz.prog w=.ok (.string ⟨#[101,108,115,101]⟩) w := by kernel_rfl
theorem qVW (w:World) : (Instr.index 196 (.agg #[.string ⟨#[97,110,100]⟩,.string ⟨#[111,114]⟩,.string ⟨#[105,102]⟩,.string ⟨#[101,108,115,101]⟩,.string ⟨#[117,110,108,101,115,115]⟩,.string ⟨#[119,105,116,104]⟩,.string ⟨#[119,105,116,104,111,117,116]⟩]) (.int .i64 4)).run Tryz.prog w=.ok (.string ⟨#[117,110,108,101,115,115]⟩) w := by kernel_rfl
theorem qVX (w:World) : (Instr.index 196 (.agg #[.string ⟨#[97,110,100]⟩,.string ⟨#[111,114]⟩,.string ⟨#[105,102]⟩,.string ⟨#[101,108,115,101]⟩,.string ⟨#[117,110,108,101,115,115]⟩,.string ⟨#[119,105,116,104]⟩,.string ⟨#[119,105,116,104,111,117,116]⟩]) (.int .i64 5)).run Tryz.prog w=.ok (.string ⟨#[119,105,116,104]⟩) w := by kernel_rfl
theorem qVY (w:World) : (Instr.index 196 (.agg #[.string ⟨#[97,110,100]⟩,.string ⟨#[111,114]⟩,.string ⟨#[105,102]⟩,.string ⟨#[101,108,115,101]⟩,.string ⟨#[117,110,108,101,115,115]⟩,.string ⟨#[119,105,116,104]⟩,.string ⟨#[119,105,116,104,111,117,116]⟩]) (.int .i64 6)).run Tryz.prog w=.ok (.string ⟨#[119,105,116,104,111,117,116]⟩) w := by kernel_rfl
theorem qI3 (s:ByteArray)(w:World)(hs:s.size<=maxLen)(hI:PkIn w) : Calls Tryz.prog 113 #[.string s] w fun e w'=>e=.returned (.bool (qBM s.toList))/\Below w.heap.size w w' := by
 unfold maxLen at hs;by_cases h0:s.size=0
 ·have HW:=hid (qJT h0);have e0:s.toList=[]:=List.eq_nil_of_length_eq_zero (by rw[qA7];exact h0);rw[HW.out];clear HW hI;obtain rfl:s=⟨#[]⟩:=toList_inj (e0.trans (qA3 []).symm);clear e0 h0
  go_enter Tryz.func113,Tryz.ntmps113
  go_wp2
  go_ret;exact⟨rfl,Below.refl _ _⟩
 by_cases h64:64<s.size
 ·have HW:=hid (qJS h64);rw[HW.out];clear HW hI;have h65:(64:Int)<(s.size:Int):=by omega
  have h1:¬(s.size:Int)<1:=by omega
  go_enter Tryz.func113,Tryz.ntmps113
  go_wp2
  go_ret;exact⟨rfl,Below.refl _ _⟩
 have h65:¬(64:Int)<(s.size:Int):=by omega
 have h1:¬(s.size:Int)<1:=by omega
 obtain⟨r,hr⟩:∃r,r=qBM s.toList:=⟨_,rfl⟩;rw[<- hr];have HR:=hid hr;have WI:=hid hI.2;clear hr hI
 go_enter Tryz.func113,Tryz.ntmps113
 go_wp2
 go_loopw[] (fun wr => ∃k:Nat,k<=s.size/\wr=w.iter s k/\Hid (∀c∈s.toList.take k,sgn c=true)) (fun wr=>s.size - wr.iterPos w.heap.size)
 case atStart=>exact⟨0,by omega,rfl,hid (by intro c hc;cases hc)⟩
 case round =>
  obtain⟨k,hk,rfl,hS⟩:=hrel;by_cases hlt:k<s.size
  ·have hb:=UInt8.toNat_lt s[k];by_cases ha:(s[k]).toNat<128
   ·have hnx:=fun ty=>run_next_ascii (P:=Tryz.prog) w s k ty hlt ha
    cases hc:sgnI ((s[k]).toNat:Int) with
    | true =>
     have HT:=hid (qNC hlt hS.out hc);obtain⟨_,h126⟩:=qSJ hc;obtain⟨i,hi⟩:=qZ1 (by omega) hc;have IB:=hid (fun W=>qGP (s[k]).toNat i W hi);generalize (s[k]).toNat=c at *;have g1:¬(126:Int)<(c:Int):=by omega
     have g2:¬(i:Int)<0:=by omega
     clear hS hi hc;go_wp2_with (go_at_call 157;refine (IB.out _).mono ?_;rintro e w' ⟨rfl,rfl⟩)
     go_roundw
     case rel=>exact⟨k+1,by omega,rfl,HT⟩
     case measure=>simp;omega
    | false =>
     obtain rfl:r=false:=HR.out.trans (qIF hlt hc);have IB:=hid (fun W=>qGP (s[k]).toNat (-1) W (qVF (by omega) hc));generalize (s[k]).toNat=c at *;clear hS hc HR;by_cases g1:(126:Int)<(c:Int)
     ·go_wp2_with fail
      go_ret;exact⟨rfl,bR.alloc lR _⟩
     ·go_wp2_with (go_at_call 157;refine (IB.out _).mono ?_;rintro e w' ⟨rfl,rfl⟩)
      go_ret;exact⟨rfl,bR.alloc lR _⟩
   ·have hnx:=fun ty=>run_next_any (P:=Tryz.prog) w s k ty hlt;obtain⟨d1,d2⟩:=decode_high s k hlt (by omega);have hc:sgn s[k]=false:=by
     cases hc:sgn s[k] with
     | false=>rfl
     | true=>have:=qSJ hc;omega
    obtain rfl:r=false:=HR.out.trans (qIF hlt hc);generalize (Utf8.decode s k).1=c at *;generalize (Utf8.decode s k).2=d at *;have g1:(126:Int)<(c:Int):=by omega
    clear hS hc HR;go_wp2_with fail
    go_ret;exact⟨rfl,bR.alloc lR _⟩
  ·have HA:=hid (qSK hlt hS.out);have hnx:=fun ty=>run_next_end (P:=Tryz.prog) w s k ty hlt;have WJ:=hid (WI.out.below (w':=w.iter s k) (bR.alloc lR _));clear hS;obtain⟨W,hW⟩:∃W,W=w.iter s k:=⟨_,rfl⟩;have hBW:Below w.heap.size w W:=by rw[hW];exact bR.alloc lR _
   rw[<- hW]at hnx WJ |-;obtain⟨v0,v1,v2,v3,v4,v5,v6,v7⟩:=WJ.out;clear hW WJ WI;have i0:=qVS;have i1:=qVT;have i2:=qVU;have i3:=qVV;have i4:=qVW;have i5:=qVX;have i6:=qVY;go_wp2_with fail
   refine wp_loop_rounds 8 ?_;rw[rounds_succ];rcases Bool.eq_false_or_eq_true (s.toList == [97,110,100]) with q0|q0
   ·obtain rfl:r=false:=HR.out.trans (qAW (by rw[beq_iff_eq.1 q0];decide));clear HR HA;go_wp2_with fail
    go_ret;exact⟨rfl,hBW⟩
   go_wp2_with fail
   rw[rounds_succ];rcases Bool.eq_false_or_eq_true (s.toList == [111,114]) with q1|q1
   ·obtain rfl:r=false:=HR.out.trans (qAW (by rw[beq_iff_eq.1 q1];decide));clear HR HA;go_wp2_with fail
    go_ret;exact⟨rfl,hBW⟩
   go_wp2_with fail
   rw[rounds_succ];rcases Bool.eq_false_or_eq_true (s.toList == [105,102]) with q2|q2
   ·obtain rfl:r=false:=HR.out.trans (qAW (by rw[beq_iff_eq.1 q2];decide));clear HR HA;go_wp2_with fail
    go_ret;exact⟨rfl,hBW⟩
   go_wp2_with fail
   rw[rounds_succ];rcases Bool.eq_false_or_eq_true (s.toList == [101,108,115,101]) with q3|q3
   ·obtain rfl:r=false:=HR.out.trans (qAW (by rw[beq_iff_eq.1 q3];decide));clear HR HA;go_wp2_with fail
    go_ret;exact⟨rfl,hBW⟩
   go_wp2_with fail
   rw[rounds_succ];rcases Bool.eq_false_or_eq_true (s.toList == [117,110,108,101,115,115]) with q4|q4
   ·obtain rfl:r=false:=HR.out.trans (qAW (by rw[beq_iff_eq.1 q4];decide));clear HR HA;go_wp2_with fail
    go_ret;exact⟨rfl,hBW⟩
   go_wp2_with fail
   rw[rounds_succ];rcases Bool.eq_false_or_eq_true (s.toList == [119,105,116,104]) with q5|q5
   ·obtain rfl:r=false:=HR.out.trans (qAW (by rw[beq_iff_eq.1 q5];decide));clear HR HA;go_wp2_with fail
    go_ret;exact⟨rfl,hBW⟩
   go_wp2_with fail
   rw[rounds_succ];rcases Bool.eq_false_or_eq_true (s.toList == [119,105,116,104,111,117,116]) with q6|q6
   ·obtain rfl:r=false:=HR.out.trans (qAW (by rw[beq_iff_eq.1 q6];decide));clear HR HA;go_wp2_with fail
    go_ret;exact⟨rfl,hBW⟩
   go_wp2_with fail
   rw[rounds_succ];obtain rfl:r=true:=HR.out.trans (qJR (by omega) (by omega) HA.out (qJU q0 q1 q2 q3 q4 q5 q6));clear HR HA;go_wp2_with fail
   go_ret;exact⟨rfl,hBW⟩
theorem qI2 (s:ByteArray)(w:World)(hs:s.size<=maxLen)(hI:PkIn w) : Calls Tryz.prog 114 #[.string s] w fun e w'=>e=.returned (.bool (qCF s.toList))/\Below w.heap.size w w' := by
 have NA:=hid (qI3 s w hs hI);have HP:=hid (fun W=>Tryz.strings_HasPrefix s ⟨#[47]⟩ W);obtain⟨r,hr⟩:∃r,r=qCF s.toList:=⟨_,rfl⟩;rw[<- hr];unfold qCF at hr;clear hI hs
 cases hn:qBM s.toList with
 | false =>
  rw[hn]at NA hr;obtain rfl:r=false:=hr;clear HP hn
  go_enter Tryz.func114,Tryz.ntmps114
  go_wp2_with (go_at_call 113;refine NA.out.mono ?_;rintro e w1 ⟨rfl,h⟩)
  go_ret;exact⟨rfl,h⟩
 | true =>
  rw[hn]at NA hr;have HR:=hid (show Lib.hasPrefix s.data.toList [47]=r from by rw[hr,Bool.true_and,qL9];exact congrArg (fun l:qAF=>l.head? == some 47) (Lib.toList_data s).symm);clear hn hr
  go_enter Tryz.func114,Tryz.ntmps114
  go_wp2_with fail
  go_at_call 113
  refine NA.out.mono ?_;rintro e w1 ⟨rfl,h⟩;go_wp2_with fail
  go_at_call 158
  refine (HP.out _).mono ?_;rintro e w2 ⟨rfl,rfl⟩;go_wp2_with fail
  go_ret;exact⟨qA8 HR.out,h⟩
