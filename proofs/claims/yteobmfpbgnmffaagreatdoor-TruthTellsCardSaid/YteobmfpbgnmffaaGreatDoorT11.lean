/- PkIter, ShTell -/
import Derived.Test.YteobmfpbgnmffaaGreatDoorT10
set_option linter.unusedVariables false
set_option maxHeartbeats 16000000
set_option maxRecDepth 100000
open Go.Lib (hid)
set_option linter.unusedSimpArgs false
namespace Go.Proofs.YteobmfpbgnmffaaGreatDoor
section
open Go.RowKit Go.Shelf
attribute [local go_sem] Oper.semAt_some
attribute [local go_sem ↓ high] qBI
structure LX where
 wh:Int
 A:Option Addr
 c:Nat
 l:List RV
def LS (p:Pk) : List LX := [⟨1,p.reqA,p.reqC,p.req⟩,⟨2,p.conA,p.conC,p.con⟩,⟨1,p.rcmA,p.rcmC,p.rcm⟩,⟨3,p.supA,p.supC,p.sup⟩,⟨1,p.sugA,p.sugC,p.sug⟩,⟨3,p.enhA,p.enhC,p.enh⟩]
abbrev LXof (p:Pk) := { x : LX // x∈LS p }
def lx0 (p:Pk) : LXof p := ⟨⟨1,p.reqA,p.reqC,p.req⟩,by simp[LS]⟩
def lx1 (p:Pk) : LXof p := ⟨⟨2,p.conA,p.conC,p.con⟩,by simp[LS]⟩
def lx2 (p:Pk) : LXof p := ⟨⟨1,p.rcmA,p.rcmC,p.rcm⟩,by simp[LS]⟩
def lx3 (p:Pk) : LXof p := ⟨⟨3,p.supA,p.supC,p.sup⟩,by simp[LS]⟩
def lx4 (p:Pk) : LXof p := ⟨⟨1,p.sugA,p.sugC,p.sug⟩,by simp[LS]⟩
def lx5 (p:Pk) : LXof p := ⟨⟨3,p.enhA,p.enhC,p.enh⟩,by simp[LS]⟩
def LSA (p:Pk) : List (LXof p) := [lx0 p,lx1 p,lx2 p,lx3 p,lx4 p,lx5 p]
def qE5 {p:Pk}(x:LXof p) : Array Value := #[.int .u8 x.1.wh,.slice x.1.A x.1.l.length x.1.c]
def KP (Bs:Nat)(W W':World) : Prop := (∀i,W'.cell? ⟨Bs,i,none⟩=W.cell? ⟨Bs,i,none⟩)/\W.heap.size<=W'.heap.size
theorem qR2 (n:Nat)(l Bs:Nat)(p:Pk)(J Jx:List (LXof p)->World->Prop)
  (hY:∀pre x W,J pre W->pre.length<6->YieldAt Fence.wide (n - 1) Tryz.prog l (qE5 x) W fun e W' =>
   (e=.returned (.bool true)/\J (pre++[x]) W'/\KP Bs W W') \/ (e=.returned (.bool false)/\Jx (pre++[x]) W'))
  (W:World) (hBs:PkAt W Bs p) (h0:J [] W) :
  CallsIn Fence.wide n Tryz.prog 123 #[.func (.yield l) #[] #[],.pointer (some ⟨Bs,0,none⟩)] W fun e W'=>(∃v,e=.returned v) /\
   ((∃ys,ys=LSA p/\J ys W') \/ (∃pre,pre <+: LSA p/\Jx pre W')):=by
 refine callsIn_of_wp Tryz.func123 rfl trivial ?_ rfl;simp only[Tryz.ntmps123,List.size_toArray,List.length_cons,List.length_nil,Nat.reduceAdd,Nat.reduceSub,Array.replicate_succ,Array.replicate_zero,List.push_toArray,List.append_toArray,List.nil_append,List.cons_append];obtain⟨hl,c0,c1,c2,c3,c4,c5,c6,f7,f8,c9,f10,f11,f12,f13,c14⟩:=hBs;clear c0 c1 c2 c3 c4 c5 c6 c9 c14;obtain⟨fn0,tm0,as0,bd0,hy0,hR0⟩:=hY [] (lx0 p) W h0 (by simp);unfold qE5 lx0 at hy0;dsimp only at hy0;gi_wp2
 refine⟨fun h=>absurd h (by decide),hR0.mono ?_⟩;rintro e W1 (⟨rfl,hJ1,hk1⟩|⟨rfl,hJx⟩)
 rotate_left
 ·gi_wp2
  repeat (refine⟨fun _ h=>(by cases h),?_⟩;gi_wp2)
  refine bodyPost_end (results_none rfl _ _ _) rfl ?_;exact⟨⟨_,rfl⟩,.inr ⟨_,⟨_,rfl⟩,hJx⟩⟩
 have f8:=(hk1.1 8).trans f8;have f10:=(hk1.1 10).trans f10;have f11:=(hk1.1 11).trans f11;have f12:=(hk1.1 12).trans f12;have f13:=(hk1.1 13).trans f13;clear hR0 hy0 hk1;obtain⟨fn1,tm1,as1,bd1,hy1,hR1⟩:=hY [lx0 p] (lx1 p) W1 hJ1 (by simp);unfold qE5 lx1 at hy1;dsimp only at hy1;gi_wp2
 refine⟨fun h=>absurd h (by decide),hR1.mono ?_⟩;rintro e W2 (⟨rfl,hJ2,hk2⟩|⟨rfl,hJx⟩)
 rotate_left
 ·gi_wp2
  repeat (refine⟨fun _ h=>(by cases h),?_⟩;gi_wp2)
  refine bodyPost_end (results_none rfl _ _ _) rfl ?_;exact⟨⟨_,rfl⟩,.inr ⟨_,⟨_,rfl⟩,hJx⟩⟩
 have f10:=(hk2.1 10).trans f10;have f11:=(hk2.1 11).trans f11;have f12:=(hk2.1 12).trans f12;have f13:=(hk2.1 13).trans f13;clear hR1 hy1 hk2;obtain⟨fn2,tm2,as2,bd2,hy2,hR2⟩:=hY [lx0 p,lx1 p] (lx2 p) W2 hJ2 (by simp);unfold qE5 lx2 at hy2;dsimp only at hy2;gi_wp2
 refine⟨fun h=>absurd h (by decide),hR2.mono ?_⟩;rintro e W3 (⟨rfl,hJ3,hk3⟩|⟨rfl,hJx⟩)
 rotate_left
 ·gi_wp2
  repeat (refine⟨fun _ h=>(by cases h),?_⟩;gi_wp2)
  refine bodyPost_end (results_none rfl _ _ _) rfl ?_;exact⟨⟨_,rfl⟩,.inr ⟨_,⟨_,rfl⟩,hJx⟩⟩
 have f11:=(hk3.1 11).trans f11;have f12:=(hk3.1 12).trans f12;have f13:=(hk3.1 13).trans f13;clear hR2 hy2 hk3;obtain⟨fn3,tm3,as3,bd3,hy3,hR3⟩:=hY [lx0 p,lx1 p,lx2 p] (lx3 p) W3 hJ3 (by simp);unfold qE5 lx3 at hy3;dsimp only at hy3;gi_wp2
 refine⟨fun h=>absurd h (by decide),hR3.mono ?_⟩;rintro e W4 (⟨rfl,hJ4,hk4⟩|⟨rfl,hJx⟩)
 rotate_left
 ·gi_wp2
  repeat (refine⟨fun _ h=>(by cases h),?_⟩;gi_wp2)
  refine bodyPost_end (results_none rfl _ _ _) rfl ?_;exact⟨⟨_,rfl⟩,.inr ⟨_,⟨_,rfl⟩,hJx⟩⟩
 have f12:=(hk4.1 12).trans f12;have f13:=(hk4.1 13).trans f13;clear hR3 hy3 hk4;obtain⟨fn4,tm4,as4,bd4,hy4,hR4⟩:=hY [lx0 p,lx1 p,lx2 p,lx3 p] (lx4 p) W4 hJ4 (by simp);unfold qE5 lx4 at hy4;dsimp only at hy4;gi_wp2
 refine⟨fun h=>absurd h (by decide),hR4.mono ?_⟩;rintro e W5 (⟨rfl,hJ5,hk5⟩|⟨rfl,hJx⟩)
 rotate_left
 ·gi_wp2
  repeat (refine⟨fun _ h=>(by cases h),?_⟩;gi_wp2)
  refine bodyPost_end (results_none rfl _ _ _) rfl ?_;exact⟨⟨_,rfl⟩,.inr ⟨_,⟨_,rfl⟩,hJx⟩⟩
 have f13:=(hk5.1 13).trans f13;clear hR4 hy4 hk5;obtain⟨fn5,tm5,as5,bd5,hy5,hR5⟩:=hY [lx0 p,lx1 p,lx2 p,lx3 p,lx4 p] (lx5 p) W5 hJ5 (by simp);unfold qE5 lx5 at hy5;dsimp only at hy5;gi_wp2
 refine⟨fun h=>absurd h (by decide),hR5.mono ?_⟩;rintro e W6 (⟨rfl,hJ6,hk6⟩|⟨rfl,hJx⟩)
 rotate_left
 ·gi_wp2
  repeat (refine⟨fun _ h=>(by cases h),?_⟩;gi_wp2)
  refine bodyPost_end (results_none rfl _ _ _) rfl ?_;exact⟨⟨_,rfl⟩,.inr ⟨_,⟨_,rfl⟩,hJx⟩⟩
 clear hR5 hy5 hk6;gi_wp2
 refine bodyPost_end (results_none rfl _ _ _) rfl ?_;exact⟨⟨_,rfl⟩,.inl ⟨_,rfl,hJ6⟩⟩
end
section
open Go.RowKit Go.Shelf
attribute [local go_sem] Oper.semAt_some
attribute [local go_sem ↓ high] qBI
def KC (R:Nat)(W W':World) : Prop := (∀a v,a.block≠R->W.cell? a=some v->W'.cell? a=some v/\W'.frozen? a=W.frozen? a)/\W.heap.size<=W'.heap.size
theorem KC.refl (R:Nat)(W:World) : KC R W W := ⟨fun _ _ _ h=>⟨h,rfl⟩,Nat.le_refl _⟩
theorem KC.trans {R:Nat}{A B C:World}(h:KC R A B)(k:KC R B C) : KC R A C := ⟨fun a v ha hv=>by
 obtain⟨h1,h2⟩:=h.1 a v ha hv;obtain⟨k1,k2⟩:=k.1 a v ha h1;exact⟨k1,k2.trans h2⟩,Nat.le_trans h.2 k.2⟩
theorem KC.of {R:Nat}{W W':World}(h:Below W.heap.size W W') : KC R W W' := ⟨fun a v _ hv=>by
 have hl:=World.block_lt_of_cell? W _ hv;exact⟨(h.cell hl).trans hv,h.frozen hl⟩,h.size⟩
theorem KC.alloc {R:Nat}(W:World)(o:Obj) : KC R W (W.alloc o) := KC.of (bR.alloc lR o)
theorem KC.set {R:Nat}(W:World)(i:Nat)(v:Value) : KC R W (W.setCell ⟨R,i,none⟩ v) := ⟨fun a u ha hu=>⟨(World.cell?_setCell_other _ _ _ _ (fun e=>ha (by rw[<- e]))).trans hu,World.frozen?_setCell _ _ _ _⟩,by simp[World.setCell]⟩
theorem kc_t {R:Nat}{A B C:World}(h:KC R A B)(k:KC R B C) : KC R A C := h.trans k
theorem kc_b {R:Nat}(W:World)(l:Nat)(o o':Obj)(h:W.heap[l]?=some o)(hc:o.isCells=false) : KC R W (W.putObj l o') :=
 ⟨fun a v _ hv=>⟨cell_kept hv (grownBy_putObj' W l o') (fun r e=>by cases e;exact⟨o,h,hc⟩),frozen_kept hv (grownBy_putObj' W l o') (fun r e=>by cases e;exact⟨o,h,hc⟩)⟩,(grownBy_putObj' W l o').size⟩
theorem KC.cell {R b i:Nat}{W W':World}{v:Value}(h:KC R W W')(hb:b≠R)(hv:W.cell? ⟨b,i,none⟩=some v) : W'.cell? ⟨b,i,none⟩=some v := (h.1 ⟨b,i,none⟩ v hb hv).1
theorem TQ.kc {R:Nat}{W W':World}{t:RV}(h:TQ (· ≠ R) W t)(k:KC R W W') : TQ (· ≠ R) W' t := by
 induction h with
 | mk h1 h2 h3 h4 _ ih =>
  refine .mk h1 h2 h3 (fun q hq => ?_) ih;obtain⟨b,o,e,hb,hc⟩:=h4 q hq;exact⟨b,o,e,hb,fun j u hu=>k.cell hb (hc j u hu)⟩
theorem TQ.wf {Q:Nat->Prop}{W:World}{t:RV}(h:TQ Q W t) : t.dep.wf := by cases h;assumption
theorem TQ.sub {Q:Nat->Prop}{W:World}{t:RV}(h:TQ Q W t):∀a∈t.args,TQ Q W a := by cases h;assumption
theorem TQ.at_ {Q:Nat->Prop}{W:World}{t:RV}(h:TQ Q W t){k:Nat}(hk:k<t.args.length):∃b o,t.addr=some ⟨b,o,none⟩/\W.cell? ⟨b,o+k * 7,none⟩=some (.int .u8 t.args[k].kind)/\W.cell? ⟨b,o+k * 7+1,none⟩=some (.string (bs t.args[k].dep.name))/\W.cell? ⟨b,o+k * 7+2,none⟩=some (.int .u8 t.args[k].dep.op)/\W.cell? ⟨b,o+k * 7+3,none⟩=some (.int .i64 t.args[k].dep.evr.epoch)/\W.cell? ⟨b,o+k * 7+4,none⟩=some (.string (bs t.args[k].dep.evr.ver))/\W.cell? ⟨b,o+k * 7+5,none⟩=some (.string (bs t.args[k].dep.evr.rel))/\W.cell? ⟨b,o+k * 7+6,none⟩=some (.slice t.args[k].addr t.args[k].args.length t.args[k].cap) := by
 cases h with
 | mk h1 h2 h3 h4 h5 =>
  obtain⟨b,o,e,_,hc⟩:=h4 k hk;exact⟨b,o,e,hc 0 _ rfl,hc 1 _ rfl,hc 2 _ rfl,hc 3 _ rfl,hc 4 _ rfl,hc 5 _ rfl,hc 6 _ rfl⟩
def alone (al:Bool)(k:Int) : Bool := al || (k == 6 || k == 7)
mutual
def pl (al:Bool) : RV->List (RV × Bool) | .node k d A c l=>(.node k d A c l,al)::plL (alone al k) l
def plL (al:Bool) : List RV->List (RV × Bool)|[]=>[]|a::l=>pl al a++plL al l
end
theorem qYS (al:Bool)(t:RV) : pl al t=(t,al)::plL (alone al t.kind) t.args := by cases t;rfl
theorem qDW (al:Bool):∀l r : List RV,plL al (l++r)=plL al l++plL al r
 | [],r=>rfl
 | a::l,r=>by rw[List.cons_append,plL,plL,qDW al l r,List.append_assoc]
theorem qFM (al:Bool)(l:List RV)(i:Nat)(h:i<l.length) : plL al (l.take (i+1))=plL al (l.take i)++pl al l[i] := by
 rw[qAX l i h,qDW,plL,plL,List.append_nil]
theorem qII (al:Bool)(l:List RV)(i:Nat) : (plL al (l.take i)).length<=(plL al l).length := by
 have h:=qDW al (l.take i) (l.drop i);rw[List.take_append_drop]at h;rw[h,List.length_append];omega
inductive KO : RV->Prop where
 | mk {t:RV} : 0<=t.kind/\t.kind<=255->(∀a∈t.args,KO a)->KO t
theorem KO.byte {t:RV}(h:KO t) : 0<=t.kind/\t.kind<=255 := by cases h;assumption
theorem KO.sub {t:RV}(h:KO t):∀a∈t.args,KO a := by cases h;assumption
abbrev PtX := { x : RV × Bool // x.1.dep.wf/\KO x.1 }
def qHL (x:PtX) : Array Value := #[x.1.1.val,.bool x.1.2]
def qB8 (l:List PtX) : List (RV × Bool) := l.map (·.1)
theorem qDH (a b:List PtX) : qB8 (a++b)=qB8 a++qB8 b := List.map_append
theorem qCM (l:List PtX) : (qB8 l).length=l.length := List.length_map _
def qGR (tb:Nat) : Value := .func (.func 143) #[] #[.pointer (some ⟨tb,0,none⟩)]
def qTJ (R:Nat)(J Jx:List PtX->World->Prop)(al:Bool)(T:RV)(pre:List PtX)(W:World)(e:Ending)(W':World) : Prop :=
 (e=.returned (.bool true)/\(∃ys,qB8 ys=pl al T/\J (pre++ys) W')/\KC R W W') \/ (e=.returned (.bool false) /\ ∃q,qB8 q <+: pl al T/\Jx (pre++q) W')
theorem qSR (l R tb N:Nat)(htb:tb≠R)(J Jx:List PtX->World->Prop)(hAl:∀pre W o,J pre W->J pre (W.alloc o))
  (hY:∀m pre (x:PtX) W,J pre W->pre.length<N->R<W.heap.size->YieldAt Fence.wide m Tryz.prog l (qHL x) W fun e W'=>(e=.returned (.bool true)/\J (pre++[x]) W'/\KC R W W') \/ (e=.returned (.bool false)/\Jx (pre++[x]) W')) :
  ∀(f:Nat) (T:RV) (al:Bool) (n:Nat) (pre:List PtX) (W:World),T.ht<=f->KO T->TQ (· ≠ R) W T->R<W.heap.size->W.cell? ⟨tb,0,none⟩=some (qGR tb)->J pre W->pre.length+(pl al T).length<=N ->
   CallsIn Fence.wide n Tryz.prog 143 #[T.val,.bool al,.func (.yield l) #[] #[],.pointer (some ⟨tb,0,none⟩)] W (qTJ R J Jx al T pre W)
 |0,T,_,_,_,_,hf,_,_,_,_,_,_=>absurd hf (by rw[qAN];omega)
 | f+1,T,al,n,pre,W,hf,hko,hT,hRl,hc,hJ,hN=>by
  have IH:=hid (fun x al' pre' W' h1 h2 h3 h4 h5 h6 h7=>qSR l R tb N htb J Jx hAl hY f x al' (n - 1) pre' W' h1 h2 h3 h4 h5 h6 h7);have HF:=hid (show htL T.args<=f by rw[qAN]at hf;omega);have HN:=hid (show pre.length+1+(plL (alone al T.kind) T.args).length<=N by rw[qYS,List.length_cons]at hN;omega);obtain⟨x,hx⟩:∃x:PtX,x.1=(T,al):=⟨⟨(T,al),hT.wf,hko⟩,rfl⟩;have HKO:=hid hko.sub;have PE:=hid (qYS al T);obtain⟨W1,hW1⟩:∃W1,W1=W.alloc (.cells #[.int .u8 T.kind,.string (bs T.dep.name),.int .u8 T.dep.op,.int .i64 T.dep.evr.epoch,.string (bs T.dep.evr.ver),.string (bs T.dep.evr.rel),.slice T.addr T.args.length T.cap] 39):=⟨_,rfl⟩;have hb1:Below W.heap.size W W1:=by rw[hW1];exact bR.alloc lR _
  obtain⟨fn,tm,as_,bd,hy,hRd⟩:=hY (n - 1) pre x W1 (by rw[hW1];exact hAl _ _ _ hJ) (by have:=HN.out;omega) (Nat.lt_of_lt_of_le hRl hb1.size);have hB7:=Box7.new W (.int .u8 T.kind) (.string (bs T.dep.name)) (.int .u8 T.dep.op) (.int .i64 T.dep.evr.epoch) (.string (bs T.dep.evr.ver)) (.string (bs T.dep.evr.rel)) (.slice T.addr T.args.length T.cap) 39;rw[<- hW1]at hB7;unfold qHL at hy;rw[hx]at hy;unfold RV.val at hy |-;dsimp only at hy;have HT:=hid (hT.kc (KC.of (R:=R) hb1));have HC:=hid ((KC.of (R:=R) hb1).cell htb hc);have HB:=hid hB7;have HX:=hid hx;have HRl:=hid hRl;have K1:=hid (KC.of (R:=R) hb1);have hlm:T.args.length<=maxLen:=by cases hT with|mk _ h2 h3 _ _=>omega
  unfold maxLen at hlm;clear hf hko hT hc hJ hN hx hb1 hB7;subst hW1;refine callsIn_of_wp Tryz.func143 rfl trivial ?_ rfl;simp only[Tryz.ntmps143,List.size_toArray,List.length_cons,List.length_nil,Nat.reduceAdd,Nat.reduceSub,Array.replicate_succ,Array.replicate_zero,List.push_toArray,List.append_toArray,List.nil_append,List.cons_append];gi_wp2
  refine⟨fun h=>absurd h (by decide),hRd.mono ?_⟩;rintro e W2 (⟨rfl,hJ2,hk2⟩|⟨rfl,hJx⟩)
  rotate_left
  ·gi_wp2
   go_ret;exact .inr ⟨rfl,[x],⟨plL (alone al T.kind) T.args,by rw[PE.out];simp[qB8,HX.out]⟩,hJx⟩
  have hne:W.heap.size≠R:=by have:=HRl.out;omega
  have c0:=hk2.cell hne HB.out.1.1;have c6:=hk2.cell hne HB.out.1.2.2.2.2.2.2;have K2:=hid (K1.out.trans hk2);have HT2:=hid (HT.out.kc hk2);have HC2:=hid (hk2.cell htb HC.out);have HJ2:=hid hJ2;have HR2:=hid (show R<W2.heap.size by have:=K2.out.2;have:=HRl.out;omega);have HAl:=hid hAl;clear hk2 hJ2 hy hRd HT HC HB HRl K1 hne;cases al
  ·by_cases k6:T.kind=6
   ·rw[show alone false T.kind=true by unfold alone;rw[k6];rfl]at HN PE;have k6b:(T.kind == 6)=true:=by simpa using k6
    clear k6;gi_wp2
    gi_loopw [29] (fun iv wr => ∃(i:Nat) (ys:List PtX),i<=T.args.length/\iv=.int .i64 (i:Int)/\qB8 ys=plL true (T.args.take i)/\J (pre++x::ys) wr/\KC R W2 wr) (fun iv _=>T.args.length - (intOf iv).toNat)
    case atStart=>exact⟨0,[],Nat.zero_le _,rfl,rfl,HJ2.out,KC.refl _ _⟩
    case round =>
     obtain⟨i,ys,hi,rfl,hys,hJ3,hk3⟩:=hrel;rename World=>wr
     have HYS:=hid hys;have HJ3:=hid hJ3;have K3:=hid hk3;clear hys hJ3 hk3 HJ2 c0 c6;by_cases hlt:i<T.args.length
     ·obtain⟨b,o,hadr,e0,e1,e2,e3,e4,e5,e6⟩:=(HT2.out.kc K3.out).at_ hlt
      have ct:wr.cell? ⟨tb,0,none⟩=some (qGR tb):=K3.out.cell htb HC2.out;have ctl:tb<wr.heap.size:=World.block_lt_of_cell? wr _ ct;have hsn:=qFM true T.args i hlt;have HSN:=hid hsn;have hln:(pre++x::ys).length+(pl true T.args[i]).length<=N:=by
       have h1:=HN.out;have h2:=qII true T.args (i+1);have h3:=congrArg List.length hsn;have h4:=congrArg List.length HYS.out;rw[List.length_append]at h3;rw[qCM]at h4;rw[List.length_append,List.length_cons];omega
      have IC:=hid (fun ob=>IH.out T.args[i] true (pre++x::ys) (wr.alloc ob) (Nat.le_trans (qBN (List.getElem_mem hlt)) HF.out) (HKO.out _ (List.getElem_mem hlt)) (((HT2.out.kc K3.out).sub _ (List.getElem_mem hlt)).kc (KC.alloc _ ob)) (by have:=HR2.out;have:=K3.out.2;simp;omega) ((KC.alloc _ ob).cell htb ct) (hAl _ _ ob HJ3.out) hln);rw[hadr];unfold RV.val at IC;unfold qGR at ct;have i0:(0:Int)<=(i:Int):=by omega
      have i1:(i:Int)<(T.args.length:Int):=by omega
      clear hsn hln hadr IH HJ3;generalize T.args[i]=y at *;gi_wp2
      refine⟨trivial,fun h=>absurd h (by decide),?_⟩;gi_at_call 143
      refine (IC.out _).mono ?_;rintro e W4 (⟨rfl,⟨zs,hzs,hJ4⟩,hk4⟩|⟨rfl,q,hq,hJx⟩)
      ·have HZ:=hid hzs;have HJ4:=hid hJ4;have K4:=hid ((K3.out.trans (KC.alloc _ _)).trans hk4);clear hzs hJ4 hk4 IC e0 e1 e2 e3 e4 e5 e6 ct ctl;gi_wp2
       go_roundw
       case rel=>exact⟨i+1,ys++zs,by omega,by go_num,by rw[qDH,HYS.out,HZ.out,HSN.out],by have:=HJ4.out;simpa using this,K4.out⟩
       case measure=>simp[intOf];omega
      ·have HQ:=hid hq;have HJX:=hid hJx;clear hq hJx IC e0 e1 e2 e3 e4 e5 e6 ct ctl;gi_wp2
       go_ret;refine .inr ⟨rfl,x::ys++q,?_,by have:=HJX.out;simpa using this⟩;obtain⟨t,ht⟩:=HQ.out;have h5:=qDW true (T.args.take (i+1)) (T.args.drop (i+1));rw[List.take_append_drop,HSN.out,<- HYS.out,<- ht]at h5;refine⟨t++plL true (T.args.drop (i+1)),?_⟩;rw[PE.out,h5];simp[qB8,HX.out]
     ·obtain rfl:i=T.args.length:=by omega
      clear IH;gi_wp2
      go_ret;refine .inl ⟨rfl,⟨x::ys,?_,HJ3.out⟩,K2.out.trans K3.out⟩;have h6:=HYS.out;rw[List.take_of_length_le lR]at h6;rw[PE.out,<- h6];simp[qB8,HX.out]
   ·have k6b:(T.kind == 6)=false:=by simpa using k6
    by_cases k7:T.kind=7
    ·rw[show alone false T.kind=true by unfold alone;rw[k7];rfl]at HN PE;have k7b:(T.kind == 7)=true:=by simpa using k7
     clear k6 k7;gi_wp2
     gi_loopw [29] (fun iv wr => ∃(i:Nat) (ys:List PtX),i<=T.args.length/\iv=.int .i64 (i:Int)/\qB8 ys=plL true (T.args.take i)/\J (pre++x::ys) wr/\KC R W2 wr) (fun iv _=>T.args.length - (intOf iv).toNat)
     case atStart=>exact⟨0,[],Nat.zero_le _,rfl,rfl,HJ2.out,KC.refl _ _⟩
     case round =>
      obtain⟨i,ys,hi,rfl,hys,hJ3,hk3⟩:=hrel;rename World=>wr
      have HYS:=hid hys;have HJ3:=hid hJ3;have K3:=hid hk3;clear hys hJ3 hk3 HJ2 c0 c6;by_cases hlt:i<T.args.length
      ·obtain⟨b,o,hadr,e0,e1,e2,e3,e4,e5,e6⟩:=(HT2.out.kc K3.out).at_ hlt
       have ct:wr.cell? ⟨tb,0,none⟩=some (qGR tb):=K3.out.cell htb HC2.out;have ctl:tb<wr.heap.size:=World.block_lt_of_cell? wr _ ct;have hsn:=qFM true T.args i hlt;have HSN:=hid hsn;have hln:(pre++x::ys).length+(pl true T.args[i]).length<=N:=by
        have h1:=HN.out;have h2:=qII true T.args (i+1);have h3:=congrArg List.length hsn;have h4:=congrArg List.length HYS.out;rw[List.length_append]at h3;rw[qCM]at h4;rw[List.length_append,List.length_cons];omega
       have IC:=hid (fun ob=>IH.out T.args[i] true (pre++x::ys) (wr.alloc ob) (Nat.le_trans (qBN (List.getElem_mem hlt)) HF.out) (HKO.out _ (List.getElem_mem hlt)) (((HT2.out.kc K3.out).sub _ (List.getElem_mem hlt)).kc (KC.alloc _ ob)) (by have:=HR2.out;have:=K3.out.2;simp;omega) ((KC.alloc _ ob).cell htb ct) (hAl _ _ ob HJ3.out) hln);rw[hadr];unfold RV.val at IC;unfold qGR at ct;have i0:(0:Int)<=(i:Int):=by omega
       have i1:(i:Int)<(T.args.length:Int):=by omega
       clear hsn hln hadr IH HJ3;generalize T.args[i]=y at *;gi_wp2
       refine⟨trivial,fun h=>absurd h (by decide),?_⟩;gi_at_call 143
       refine (IC.out _).mono ?_;rintro e W4 (⟨rfl,⟨zs,hzs,hJ4⟩,hk4⟩|⟨rfl,q,hq,hJx⟩)
       ·have HZ:=hid hzs;have HJ4:=hid hJ4;have K4:=hid ((K3.out.trans (KC.alloc _ _)).trans hk4);clear hzs hJ4 hk4 IC e0 e1 e2 e3 e4 e5 e6 ct ctl;gi_wp2
        go_roundw
        case rel=>exact⟨i+1,ys++zs,by omega,by go_num,by rw[qDH,HYS.out,HZ.out,HSN.out],by have:=HJ4.out;simpa using this,K4.out⟩
        case measure=>simp[intOf];omega
       ·have HQ:=hid hq;have HJX:=hid hJx;clear hq hJx IC e0 e1 e2 e3 e4 e5 e6 ct ctl;gi_wp2
        go_ret;refine .inr ⟨rfl,x::ys++q,?_,by have:=HJX.out;simpa using this⟩;obtain⟨t,ht⟩:=HQ.out;have h5:=qDW true (T.args.take (i+1)) (T.args.drop (i+1));rw[List.take_append_drop,HSN.out,<- HYS.out,<- ht]at h5;refine⟨t++plL true (T.args.drop (i+1)),?_⟩;rw[PE.out,h5];simp[qB8,HX.out]
      ·obtain rfl:i=T.args.length:=by omega
       clear IH;gi_wp2
       go_ret;refine .inl ⟨rfl,⟨x::ys,?_,HJ3.out⟩,K2.out.trans K3.out⟩;have h6:=HYS.out;rw[List.take_of_length_le lR]at h6;rw[PE.out,<- h6];simp[qB8,HX.out]
    ·rw[show alone false T.kind=false by unfold alone;rw[k6b,show (T.kind == 7)=false by simpa using k7];rfl]at HN PE;have k7b:(T.kind == 7)=false:=by simpa using k7
     clear k6 k7;gi_wp2
     gi_loopw [29] (fun iv wr => ∃(i:Nat) (ys:List PtX),i<=T.args.length/\iv=.int .i64 (i:Int)/\qB8 ys=plL false (T.args.take i)/\J (pre++x::ys) wr/\KC R W2 wr) (fun iv _=>T.args.length - (intOf iv).toNat)
     case atStart=>exact⟨0,[],Nat.zero_le _,rfl,rfl,HJ2.out,KC.refl _ _⟩
     case round =>
      obtain⟨i,ys,hi,rfl,hys,hJ3,hk3⟩:=hrel;rename World=>wr
      have HYS:=hid hys;have HJ3:=hid hJ3;have K3:=hid hk3;clear hys hJ3 hk3 HJ2 c0 c6;by_cases hlt:i<T.args.length
      ·obtain⟨b,o,hadr,e0,e1,e2,e3,e4,e5,e6⟩:=(HT2.out.kc K3.out).at_ hlt
       have ct:wr.cell? ⟨tb,0,none⟩=some (qGR tb):=K3.out.cell htb HC2.out;have ctl:tb<wr.heap.size:=World.block_lt_of_cell? wr _ ct;have hsn:=qFM false T.args i hlt;have HSN:=hid hsn;have hln:(pre++x::ys).length+(pl false T.args[i]).length<=N:=by
        have h1:=HN.out;have h2:=qII false T.args (i+1);have h3:=congrArg List.length hsn;have h4:=congrArg List.length HYS.out;rw[List.length_append]at h3;rw[qCM]at h4;rw[List.length_append,List.length_cons];omega
       have IC:=hid (fun ob=>IH.out T.args[i] false (pre++x::ys) (wr.alloc ob) (Nat.le_trans (qBN (List.getElem_mem hlt)) HF.out) (HKO.out _ (List.getElem_mem hlt)) (((HT2.out.kc K3.out).sub _ (List.getElem_mem hlt)).kc (KC.alloc _ ob)) (by have:=HR2.out;have:=K3.out.2;simp;omega) ((KC.alloc _ ob).cell htb ct) (hAl _ _ ob HJ3.out) hln);rw[hadr];unfold RV.val at IC;unfold qGR at ct;have i0:(0:Int)<=(i:Int):=by omega
       have i1:(i:Int)<(T.args.length:Int):=by omega
       clear hsn hln hadr IH HJ3;generalize T.args[i]=y at *;gi_wp2
       refine⟨trivial,fun h=>absurd h (by decide),?_⟩;gi_at_call 143
       refine (IC.out _).mono ?_;rintro e W4 (⟨rfl,⟨zs,hzs,hJ4⟩,hk4⟩|⟨rfl,q,hq,hJx⟩)
       ·have HZ:=hid hzs;have HJ4:=hid hJ4;have K4:=hid ((K3.out.trans (KC.alloc _ _)).trans hk4);clear hzs hJ4 hk4 IC e0 e1 e2 e3 e4 e5 e6 ct ctl;gi_wp2
        go_roundw
        case rel=>exact⟨i+1,ys++zs,by omega,by go_num,by rw[qDH,HYS.out,HZ.out,HSN.out],by have:=HJ4.out;simpa using this,K4.out⟩
        case measure=>simp[intOf];omega
       ·have HQ:=hid hq;have HJX:=hid hJx;clear hq hJx IC e0 e1 e2 e3 e4 e5 e6 ct ctl;gi_wp2
        go_ret;refine .inr ⟨rfl,x::ys++q,?_,by have:=HJX.out;simpa using this⟩;obtain⟨t,ht⟩:=HQ.out;have h5:=qDW false (T.args.take (i+1)) (T.args.drop (i+1));rw[List.take_append_drop,HSN.out,<- HYS.out,<- ht]at h5;refine⟨t++plL false (T.args.drop (i+1)),?_⟩;rw[PE.out,h5];simp[qB8,HX.out]
      ·obtain rfl:i=T.args.length:=by omega
       clear IH;gi_wp2
       go_ret;refine .inl ⟨rfl,⟨x::ys,?_,HJ3.out⟩,K2.out.trans K3.out⟩;have h6:=HYS.out;rw[List.take_of_length_le lR]at h6;rw[PE.out,<- h6];simp[qB8,HX.out]
  ·rw[show alone true T.kind=true from rfl]at HN PE;gi_wp2
   gi_loopw [29] (fun iv wr => ∃(i:Nat) (ys:List PtX),i<=T.args.length/\iv=.int .i64 (i:Int)/\qB8 ys=plL true (T.args.take i)/\J (pre++x::ys) wr/\KC R W2 wr) (fun iv _=>T.args.length - (intOf iv).toNat)
   case atStart=>exact⟨0,[],Nat.zero_le _,rfl,rfl,HJ2.out,KC.refl _ _⟩
   case round =>
    obtain⟨i,ys,hi,rfl,hys,hJ3,hk3⟩:=hrel;rename World=>wr
    have HYS:=hid hys;have HJ3:=hid hJ3;have K3:=hid hk3;clear hys hJ3 hk3 HJ2 c0 c6;by_cases hlt:i<T.args.length
    ·obtain⟨b,o,hadr,e0,e1,e2,e3,e4,e5,e6⟩:=(HT2.out.kc K3.out).at_ hlt
     have ct:wr.cell? ⟨tb,0,none⟩=some (qGR tb):=K3.out.cell htb HC2.out;have ctl:tb<wr.heap.size:=World.block_lt_of_cell? wr _ ct;have hsn:=qFM true T.args i hlt;have HSN:=hid hsn;have hln:(pre++x::ys).length+(pl true T.args[i]).length<=N:=by
      have h1:=HN.out;have h2:=qII true T.args (i+1);have h3:=congrArg List.length hsn;have h4:=congrArg List.length HYS.out;rw[List.length_append]at h3;rw[qCM]at h4;rw[List.length_append,List.length_cons];omega
     have IC:=hid (fun ob=>IH.out T.args[i] true (pre++x::ys) (wr.alloc ob) (Nat.le_trans (qBN (List.getElem_mem hlt)) HF.out) (HKO.out _ (List.getElem_mem hlt)) (((HT2.out.kc K3.out).sub _ (List.getElem_mem hlt)).kc (KC.alloc _ ob)) (by have:=HR2.out;have:=K3.out.2;simp;omega) ((KC.alloc _ ob).cell htb ct) (hAl _ _ ob HJ3.out) hln);rw[hadr];unfold RV.val at IC;unfold qGR at ct;have i0:(0:Int)<=(i:Int):=by omega
     have i1:(i:Int)<(T.args.length:Int):=by omega
     clear hsn hln hadr IH HJ3;generalize T.args[i]=y at *;gi_wp2
     refine⟨trivial,fun h=>absurd h (by decide),?_⟩;gi_at_call 143
     refine (IC.out _).mono ?_;rintro e W4 (⟨rfl,⟨zs,hzs,hJ4⟩,hk4⟩|⟨rfl,q,hq,hJx⟩)
     ·have HZ:=hid hzs;have HJ4:=hid hJ4;have K4:=hid ((K3.out.trans (KC.alloc _ _)).trans hk4);clear hzs hJ4 hk4 IC e0 e1 e2 e3 e4 e5 e6 ct ctl;gi_wp2
      go_roundw
      case rel=>exact⟨i+1,ys++zs,by omega,by go_num,by rw[qDH,HYS.out,HZ.out,HSN.out],by have:=HJ4.out;simpa using this,K4.out⟩
      case measure=>simp[intOf];omega
     ·have HQ:=hid hq;have HJX:=hid hJx;clear hq hJx IC e0 e1 e2 e3 e4 e5 e6 ct ctl;gi_wp2
      go_ret;refine .inr ⟨rfl,x::ys++q,?_,by have:=HJX.out;simpa using this⟩;obtain⟨t,ht⟩:=HQ.out;have h5:=qDW true (T.args.take (i+1)) (T.args.drop (i+1));rw[List.take_append_drop,HSN.out,<- HYS.out,<- ht]at h5;refine⟨t++plL true (T.args.drop (i+1)),?_⟩;rw[PE.out,h5];simp[qB8,HX.out]
    ·obtain rfl:i=T.args.length:=by omega
     clear IH;gi_wp2
     go_ret;refine .inl ⟨rfl,⟨x::ys,?_,HJ3.out⟩,K2.out.trans K3.out⟩;have h6:=HYS.out;rw[List.take_of_length_le lR]at h6;rw[PE.out,<- h6];simp[qB8,HX.out]
