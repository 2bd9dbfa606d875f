/- ShParts, ShCount, ShDepth, ShOf -/
import Derived.Test.YteobmfpbgnmffaaGreatDoorT11
import Derived.Laws.EntriesVeiled
import Derived.Deep.Cut
import Derived.Deep.WholeRow
set_option linter.unusedVariables false
set_option maxHeartbeats 16000000
set_option maxRecDepth 100000
open Go.Lib (hid)
set_option linter.unusedSimpArgs false
namespace Go.Proofs.YteobmfpbgnmffaaGreatDoor
open Go.RowKit Go.Shelf
section
attribute [local go_sem] Oper.semAt_some
attribute [local go_sem ↓ high] qBI
theorem qS9 {F:Fence}(hd:F.depth=none)(k:Nat) : F.room k := fun d h=>by rw[hd]at h;cases h
theorem qSA {F:Fence}(hd:F.depth=none){m m':Nat}{P:Program}{l:Nat}{f:FuncId}{tmps:Array Value}{assign body:Code}{w:World}{R:Ending->World->Prop}
  (h:RoundIn F m P l f tmps assign body w R):RoundIn F m' P l f tmps assign body w R:=⟨h.1,fun c cs _=>h.2 c cs (qS9 hd _)⟩
theorem qTF {F:Fence}(hd:F.depth=none){m:Nat}(m':Nat){P:Program}{l:Nat}{args:Array Value}{W:World}{R:Ending->World->Prop}(h:YieldAt F m P l args W R) : YieldAt F m' P l args W R := by
 obtain⟨fn,tmps,assign,body,hy,hR⟩:=h;exact⟨fn,tmps,assign,body,hy,qSA hd hR⟩
def qEN (T:RV)(rb tb:Nat)(W:World) : Prop :=
 Box7 rb (.int .u8 T.kind) (.string (bs T.dep.name)) (.int .u8 T.dep.op) (.int .i64 T.dep.evr.epoch) (.string (bs T.dep.evr.ver)) (.string (bs T.dep.evr.rel)) (.slice T.addr T.args.length T.cap) W/\W.cell? ⟨tb,0,none⟩=some (qGR tb)/\tb<W.heap.size
theorem qEN.then {T:RV}{rb tb:Nat}{W W':World}(h:qEN T rb tb W)(hb:Below W.heap.size W W') : qEN T rb tb W' :=
 ⟨h.1.past (hb.mono h.1.2.2),(hb.cell (p:=⟨tb,0,none⟩) h.2.2).trans h.2.1,Nat.lt_of_lt_of_le h.2.2 hb.size⟩
theorem qM8 (l R rb tb n:Nat)(T:RV)(J Jx:List PtX->World->Prop)(hrb:rb≠R)(htb:tb≠R)(hAl:∀pre W o,J pre W->J pre (W.alloc o))
  (hY:∀pre (x:PtX) W,J pre W->pre.length<(pl false T).length->YieldAt Fence.wide (n - 1) Tryz.prog l (qHL x) W fun e W'=>(e=.returned (.bool true)/\J (pre++[x]) W'/\KC R W W') \/ (e=.returned (.bool false)/\Jx (pre++[x]) W'))
  (W:World) (hKO:KO T) (hP:qEN T rb tb W) (hT:TQ (· ≠ R) W T) (hR:R<W.heap.size) (h0:J [] W) :
  CallsIn Fence.wide n Tryz.prog 144 #[.func (.yield l) #[] #[],.pointer (some ⟨tb,0,none⟩),.pointer (some ⟨rb,0,none⟩)] W fun e W'=>(∃v,e=.returned v) /\
   ((∃ys,qB8 ys=pl false T/\J ys W') \/ (∃pre,qB8 pre <+: pl false T/\Jx pre W')):=by
 have hp:=hid (qSR l R tb (pl false T).length htb J Jx hAl (fun m pre x W hj hl _=>qTF rfl m (hY pre x W hj hl)) T.ht T false (n - 1) [] W lR hKO hT hR hP.2.1 h0 (by simp));obtain⟨⟨⟨c0,c1,c2,c3,c4,c5,c6⟩,_,hl⟩,ct,ctl⟩:=hP;unfold qGR at ct;unfold RV.val at hp;clear hT h0 hY;refine callsIn_of_wp Tryz.func144 rfl trivial ?_ rfl;simp only[Tryz.ntmps144,List.size_toArray,List.length_cons,List.length_nil,Nat.reduceAdd,Nat.reduceSub,Array.replicate_succ,Array.replicate_zero,List.push_toArray,List.append_toArray,List.nil_append,List.cons_append];gi_wp2
 refine⟨trivial,fun h=>absurd h (by decide),?_⟩;gi_at_call 143
 refine hp.out.mono ?_;rintro e W4 (⟨rfl,⟨zs,hzs,hJ4⟩,_⟩|⟨rfl,q,hq,hJx⟩)
 ·have HZ:=hid hzs;have HJ:=hid hJ4;clear hzs hJ4 hp;gi_wp2
  go_end0
  exact⟨⟨_,rfl⟩,.inl ⟨_,HZ.out,by simpa using HJ.out⟩⟩
 ·have HQ:=hid hq;have HJ:=hid hJx;clear hq hJx hp;gi_wp2
  go_end0
  exact⟨⟨_,rfl⟩,.inr ⟨q,HQ.out,by simpa using HJ.out⟩⟩
theorem qEG (n R rb tb:Nat)(T:RV)(w:World)(hrb:rb≠R)(htb:tb≠R)(hKO:KO T)(hP:qEN T rb tb w)(hT:TQ (· ≠ R) w T)(hR:R<w.heap.size) :
  SeqStopsK Fence.wide n Tryz.prog 144 #[.pointer (some ⟨tb,0,none⟩),.pointer (some ⟨rb,0,none⟩)] qHL (KC R) (fun ys=>qB8 ys=pl false T) (fun pre=>qB8 pre <+: pl false T) (pl false T).length w :=
 fun l J Jx W hW hA _ hY h0=>qM8 l R rb tb n T J Jx hrb htb (fun pre W' o hj=>hA pre W' _ none hj (World.grownBy_alloc W' o none) (fun _ h=>by cases h)) hY W hKO (hP.then hW) (hT.kc (KC.of hW)) (Nat.lt_of_lt_of_le hR hW.size) h0
theorem qGO (T:RV)(w:World) : Calls Tryz.prog 99 #[T.val] w fun e w'=>e=.returned (.func (.func 144) #[] #[.pointer (some ⟨w.heap.size+1,0,none⟩),.pointer (some ⟨w.heap.size,0,none⟩)])/\qEN T w.heap.size (w.heap.size+1) w'/\Below w.heap.size w w'/\w'.heap.size=w.heap.size+2 := by
 have hb:=hid (Box7.new w (.int .u8 T.kind) (.string (bs T.dep.name)) (.int .u8 T.dep.op) (.int .i64 T.dep.evr.epoch) (.string (bs T.dep.evr.ver)) (.string (bs T.dep.evr.rel)) (.slice T.addr T.args.length T.cap) 39);unfold RV.val
 go_enter Tryz.func99,Tryz.ntmps99
 go_wp2_with fail
 refine bodyPost_ret (results_tmp rfl _ _ _) rfl ?_;refine⟨rfl,⟨?_,?_,?_⟩,?_,?_⟩
 ·exact hb.out.past ((Below.refl _ (w.alloc _)).alloc (by rw[World.size_alloc];exact Nat.le_refl _) _)
 ·exact (World.cell?_alloc_at _ _ _ _ (by rw[World.size_alloc])).trans rfl
 ·rw[World.size_alloc,World.size_alloc];omega
 ·exact (bR.alloc lR _).alloc (by rw[World.size_alloc];omega) _
 ·rw[World.size_alloc,World.size_alloc]
end
section
attribute [local go_sem] Oper.semAt_some
attribute [local go_sem ↓ high] qBI
mutual
theorem qRW (al:Bool):∀T : RV,(pl al T).length=T.tree.parts
 | .node k d A c l=>by rw[pl,List.length_cons,qJZ,RV.tree,RT.parts];omega
theorem qJZ (al:Bool):∀l : List RV,(plL al l).length=qA9 (qA1 l)
 | []=>rfl
 | a::l=>by rw[plL,List.length_append,qRW,qJZ,qA1,qA9]
end
theorem qVB {B:Nat}{W:World}{t:RV}(h:RTree B W t) : TQ (fun b=>b<B) W t := by
 induction h with
 | mk h1 h2 _ ih =>
  refine .mk h1 h2.1 h2.2.1 (fun k hk => ?_) ih;obtain⟨b,o,e,q,hc⟩:=h2.2.2 k hk;exact⟨b,o,e,q,hc⟩
theorem qT3 {R:Nat}{w W:World}{T:RV}(h:RTree w.heap.size w T)(hb:Below w.heap.size w W)(hR:w.heap.size<=R) : TQ (· ≠ R) W T :=
 (qVB h).keep (fun b hq=>by omega) fun b hq=>hb.block b hq
theorem qEP {W W':World}{B:Nat}{t:TypeId}{v:Value}(h:Boxed W B t v)(hb:Below W.heap.size W W') : Boxed W' B t v := (hb.block B h.lt).trans h
def CI (w:World)(R:Nat)(pre:List PtX)(W:World) : Prop := Boxed W R 3 (.int .i64 (pre.length : Int))/\Below w.heap.size w W
theorem qXY (w w2:World)(R:Nat)(h:w.heap.size<=w2.heap.size) : OwnFrom w2.heap.size (CI w R) := by
 refine OwnFrom.and (fun s A B row hs hg hr => ?_) (ownFrom_below lR h);refine (hg.block R hs.lt (fun e2 => ?_)).trans hs;obtain⟨_,o,ho,hc⟩:=hr R e2.symm;have hs':A.heap[R]?=some (.cells #[.int .i64 (s.length:Int)] 3 (0,0)):=hs;rw[hs']at ho;cases ho
 cases hc
theorem qP8 (T:RV)(w:World)(hKO:KO T)(hp:T.tree.parts<=1000000)(hT:RTree w.heap.size w T) : CallsIn Fence.wide 8 Tryz.prog 97 #[T.val] w fun e w'=>e=.returned (.int .i64 (T.tree.parts : Int))/\Below w.heap.size w w' := by
 have HKO:=hid hKO;have HT:=hid hT;have HP:=hid hp;have z1:(w.alloc (.cells #[.int .u8 T.kind,.string (bs T.dep.name),.int .u8 T.dep.op,.int .i64 T.dep.evr.epoch,.string (bs T.dep.evr.ver),.string (bs T.dep.evr.rel),.slice T.addr T.args.length T.cap] 39)).heap.size=w.heap.size+1:=by simp
 have z2:((w.alloc (.cells #[.int .u8 T.kind,.string (bs T.dep.name),.int .u8 T.dep.op,.int .i64 T.dep.evr.epoch,.string (bs T.dep.evr.ver),.string (bs T.dep.evr.rel),.slice T.addr T.args.length T.cap] 39)).alloc (.cells #[.int .i64 0] 3)).heap.size=w.heap.size+2:=by simp
 have l2:=qGO T ((w.alloc (.cells #[.int .u8 T.kind,.string (bs T.dep.name),.int .u8 T.dep.op,.int .i64 T.dep.evr.epoch,.string (bs T.dep.evr.ver),.string (bs T.dep.evr.rel),.slice T.addr T.args.length T.cap] 39)).alloc (.cells #[.int .i64 0] 3));rw[z2]at l2;have bn:=Boxed.new (w.alloc (.cells #[.int .u8 T.kind,.string (bs T.dep.name),.int .u8 T.dep.op,.int .i64 T.dep.evr.epoch,.string (bs T.dep.evr.ver),.string (bs T.dep.evr.rel),.slice T.addr T.args.length T.cap] 39)) 3 (.int .i64 0);rw[z1]at bn;have LI:=hid l2;have BN:=hid bn;have B1:=hid (((Below.refl w.heap.size w).alloc lR (.cells #[.int .u8 T.kind,.string (bs T.dep.name),.int .u8 T.dep.op,.int .i64 T.dep.evr.epoch,.string (bs T.dep.evr.ver),.string (bs T.dep.evr.rel),.slice T.addr T.args.length T.cap] 39)).alloc (by simp) (.cells #[.int .i64 0] 3));clear hKO hT hp l2 bn z1 z2;unfold RV.val;unfold RV.val at LI;refine callsIn_of_wp_marks Tryz.func97 rfl trivial ?_ rfl;simp only[Tryz.ntmps97,List.size_toArray,List.length_cons,List.length_nil,Nat.reduceAdd,Nat.reduceSub,Array.replicate_succ,Array.replicate_zero,List.push_toArray,List.append_toArray,List.nil_append,List.cons_append];gi_wp2_with fail
 refine⟨trivial,?_⟩;gi_at_call 99
 refine (callsIn_wide.2 LI.out).mono ?_;rintro e w2 ⟨rfl,hP,hb,hz⟩;have B2:=hid (B1.out.trans (hb.mono (by omega)));have BN2:=hid (qEP BN.out (hb.mono (by simp)));have HPA:=hid hP;have HZ:=hid hz;clear hP hb hz BN B1 LI;gi_wp2_with fail
 refine wpIn_rangeFunc_ownG rfl (by decide) (gf:=144) (lb:=#[.pointer (some ⟨w.heap.size+2+1,0,none⟩),.pointer (some ⟨w.heap.size+2,0,none⟩)]) rfl trivial (enters_of Tryz.func144 (by kernel_rfl) rfl)
  (qEG 7 (w.heap.size+1) (w.heap.size+2) (w.heap.size+2+1) T w2 (by omega) (by omega) HKO.out HPA.out (qT3 HT.out B2.out (by omega)) (by have:=HZ.out;omega)) kc_t (fun W l o o' _ h hc _=>kc_b W l o o' h hc) bR (fun _=>rfl)
  (CI w (w.heap.size+1)) (fun _ _ _=>False) (qXY w w2 _ B2.out.size) (fun _ _ _ _ _ h _ _=>h) ⟨BN2.out,B2.out⟩
  (fun x => { tmps:=#[.agg #[.int .u8 T.kind,.string (bs T.dep.name),.int .u8 T.dep.op,.int .i64 T.dep.evr.epoch,.string (bs T.dep.evr.ver),.string (bs T.dep.evr.rel),.slice T.addr T.args.length T.cap],.pointer (some ⟨w.heap.size,0,none⟩),.int .i64 0,.pointer (some ⟨w.heap.size+1,0,none⟩),.agg #[.int .u8 T.kind,.string (bs T.dep.name),.int .u8 T.dep.op,.int .i64 T.dep.evr.epoch,.string (bs T.dep.evr.ver),.string (bs T.dep.evr.rel),.slice T.addr T.args.length T.cap],.func (.func 144) #[] #[.pointer (some ⟨w.heap.size+2+1,0,none⟩),.pointer (some ⟨w.heap.size+2,0,none⟩)],x.1.1.val,.bool x.1.2,undef,undef,undef],defers:=[] }) ?assign ?body ?done ?stop
 case assign =>
  intro l x W K hK;gi_wp2
  simpa [qHL] using hK
 case body =>
  rintro l pre x W ⟨hb,hB⟩ hlt;have hc:=hb.cell;have hf:=hb.frozen;have HB:=hid hb;have HBe:=hid hB;have hlt2:(pre.length:Int)<=1000000:=by rw[qRW]at hlt;have:=HP.out;omega
  clear hb hB hlt;generalize x.1.1.val=vx at *;gi_wp2
  refine⟨(KeepsOthers.setCell _ _ _).from _,KC.set _ _ _,?_,HBe.out.setCell (p:=⟨w.heap.size+1,0,none⟩) (by show w.heap.size<=w.heap.size+1;omega) _⟩;rw[List.length_append];exact HB.out.set _
 case done =>
  rintro D ys W hD hys ⟨hb,hB⟩ hK;have hc:=hb.cell;have HBe:=hid hB;have HL:=hid (show ys.length=T.tree.parts by rw[<- qCM,hys,qRW]);have HD:=hid hD;have HK:=hid hK;clear hb hB hys hD hK;gi_wp2
  refine⟨by simp,.inl ⟨_,_,rfl,run_takeDeferred HK.out,?_⟩⟩;refine⟨_,results_tmp rfl _ _ _,by rw[<- HL.out];rfl,HBe.out.trans (belowK_b (w:=w) lR W D _ _ (Nat.le_trans B2.out.size HD.out) HK.out rfl rfl)⟩
 case stop =>
  rintro D c pre W hD hpre h hK;exact h.elim
theorem qM7 (T:RV)(w:World)(hKO:KO T)(hp:T.tree.parts<=1000000)(hT:RTree w.heap.size w T) : Calls Tryz.prog 97 #[T.val] w fun e w'=>e=.returned (.int .i64 (T.tree.parts : Int))/\Below w.heap.size w w' := callsIn_wide.1 (qP8 T w hKO hp hT)
end
section
theorem qWU {t:RV}(h:t.kind≠1) : t.tree.deep=qBH (qA1 t.args)+1 := by rw[qAD t,RT.deep,if_neg h]
theorem qGN:∀(f:Nat) (t:RV) (w:World),t.ht<=f->t.tree.parts<=1000000->RTree w.heap.size w t->Calls Tryz.prog 98 #[t.val] w fun e w'=>e=.returned (.int .i64 (t.tree.deep : Int))/\Below w.heap.size w w'
 |0,t,w,hf,_,_=>absurd hf (by rw[qAN];omega)
 | f+1,t,w,hf,hp,ha=>by
  have IH:=hid (fun x W h1 h2 h3=>qGN f x W h1 h2 h3);have HA:=hid ha.rrow;have HF:=hid (show htL t.args<=f by rw[qAN]at hf;omega);have HP:=hid (show 1+qA9 (qA1 t.args)<=1000000 by rw[qAD t,RT.parts]at hp;exact hp);have HD1:=hid (show t.kind=1->t.tree.deep=0 from fun h=>by rw[qAD t,RT.deep,if_pos h]);have HD2:=hid (show t.kind≠1->t.tree.deep=qBH (qA1 t.args)+1 from fun h=>qWU h);have HDP:=hid (Nat.le_trans (qB6 t.tree) hp);have hm:=ha.row.len;have B0:=hid (BX.new ha);unfold RV.val;clear ha hf hp;by_cases k1:t.kind=1
  ·have HE:=hid (HD1.out k1);have kb:(t.kind == 1)=true:=by simpa using k1
   clear k1 HD1 HD2 IH HA
   go_enter Tryz.func98,Tryz.ntmps98
   go_wp2_with fail
   go_ret;exact⟨by rw[HE.out];rfl,bR.alloc lR _⟩
  have HE:=hid (HD2.out k1);have kb:(t.kind == 1)=false:=by simpa using k1
  clear k1 HD1 HD2
  go_enter Tryz.func98,Tryz.ntmps98
  go_wp2_with fail
  go_loopw[3,12] (fun cv iv wr => ∃(i c:Nat),i<=t.args.length/\iv=.int .i64 (i:Int)/\cv=.int .i64 (c:Int)/\c=qBH ((qA1 t.args).take i)/\Below w.heap.size w wr/\BX t w.heap.size wr) (fun _ iv _=>t.args.length - (intOf iv).toNat)
  case atStart=>exact⟨0,0,Nat.zero_le _,rfl,rfl,by simp[qBH],bR.alloc lR _,B0.out⟩
  case round =>
   obtain⟨i,c,hi,rfl,rfl,hc,hB,hX⟩:=hrel;rename World=>wr
   have B:=hid hB;have X:=hid hX;have HC:=hid hc;clear hB hX hc B0;by_cases hlt:i<t.args.length
   ·have TA:=((HA.out.below B.out).2 _ (List.getElem_mem hlt)).more B.out.size;have hht:=Nat.le_trans (qBN (List.getElem_mem hlt)) HF.out;have hkt:i<(qA1 t.args).length:=by rw[qA5];exact hlt
    have hpp:=qBR (l:=qA1 t.args) hkt;have hd2:=qDG hkt;rw[qAI t.args i hlt]at hpp hd2;have NC:=hid (fun o=>IH.out t.args[i] (wr.alloc o) hht (by have:=HP.out;omega) ((TA.keeps (bR.alloc lR o)).more (by simp)));have HC2:=hid (show max c t.args[i].tree.deep=qBH ((qA1 t.args).take (i+1)) by rw[hd2,HC.out]);obtain⟨b,o,hadr,hb,e0,e1,e2,e3,e4,e5,e6⟩:=(HA.out.below B.out).at_ hlt
    rw[hadr];have i0:(0:Int)<=(i:Int):=by omega
    have i1:(i:Int)<(t.args.length:Int):=by omega
    unfold RV.val at NC;clear TA hht hkt hpp hd2 IH hadr;generalize t.args[i]=x at *;generalize x.tree.deep=dx at *;generalize t.args.length=n at *;go_wp2_with fail
    go_at_call 98
    refine (NC.out _).mono ?_;rintro e w2 ⟨rfl,hb2⟩;have B2:=hid ((B.out.alloc B.out.size _).trans (hb2.mono (Nat.le_trans B.out.size (by simp))));have X2:=hid ((X.out.alloc _).then hb2);clear hb2 NC e0 e1 e2 e3 e4 e5 e6;go_wp2_with fail
    go_roundw
    case rel=>exact⟨i+1,max c dx,by omega,by go_num,qT8 (by omega),HC2.out,B2.out,X2.out⟩
    case measure=>simp[intOf];omega
   ·obtain rfl:i=t.args.length:=by omega
    have HE2:=hid (show (c:Int)+1=(t.tree.deep:Int) by rw[HE.out,HC.out,List.take_of_length_le (by rw[qA5];exact Nat.le_refl _)];omega);have hcb:(c:Int)<=1000000:=by have h1:=HE2.out;have h2:=HDP.out;omega
    have i1:¬(t.args.length:Int)<(t.args.length:Int):=by omega
    clear hlt IH HC;go_wp2_with fail
    go_ret;exact⟨congrArg (fun z=>Ending.returned (.int .i64 z)) HE2.out,B.out⟩
end
section
structure Ask where
 least:Int
 most:Int
 alone:Bool
 wh:Int
def qB3 (k:Int) : Ask :=
 if k=1 then ⟨0,0,true,3⟩ else if k=2 \/ k=3 \/ k=6 then ⟨2,24,true,3⟩ else if k=4 then ⟨2,3,false,1⟩ else if k=5 then ⟨2,3,false,2⟩ else if k=7 then ⟨2,2,true,3⟩ else ⟨0,0,false,0⟩
def askV (a:Ask) : Value := .agg #[.int .i64 a.least,.int .i64 a.most,.bool a.alone,.int .u8 a.wh]
theorem qD0 {P:Program}{w:World}{ops:Array Oper}{rest:List Oper}{o:Oper}{a:Act}{Q:Exit->Act->World->Prop}(hgd:o.guard=none)(t:TypeId)(p x:Operand)(ho:o.op=.store t p x)
  (w0:World) (c c':Array Value) (hw:w=w0.alloc (.cells c t)) (b:Nat) (hb:b=w0.heap.size) (hp:a.eval p=.pointer (some ⟨b,0,none⟩)) (hx:a.eval x=.agg c') (hi:(P.info? t).map (·.size)=some c'.size) (hc:c.size=c'.size) (h1:c'.all (·.oneCell')=true)
  (h:wpList P ops Q rest (a.put o.dst undef) (w0.alloc (.cells c' t))):wpList P ops Q (o::rest) a w:=by
 subst hw;subst hb;refine wpList_plain hgd fun K hK => ?_;have hr:=run_storeAt_new (P:=P) w0 t c c' hi hc h1;unfold Oper.wp;simp only[execOp,ho,hp,hx];simp[hr,Result.andThen];exact hK _ _ h
theorem qJ0 (w:World)(m:Nat)(hm:m<8):∃V,V=((w.alloc (.cells #[.int .i64 0,.int .i64 0,.bool false,.int .u8 0] 157)).alloc (.cells #[.int .i64 0,.int .i64 0,.bool false,.int .u8 0,.int .i64 0,.int .i64 0,.bool true,.int .u8 3,.int .i64 2,.int .i64 24,.bool true,.int .u8 3,.int .i64 2,.int .i64 24,.bool true,.int .u8 3,.int .i64 2,.int .i64 3,.bool false,.int .u8 1,.int .i64 2,.int .i64 3,.bool false,.int .u8 2,.int .i64 2,.int .i64 24,.bool true,.int .u8 3,.int .i64 2,.int .i64 2,.bool true,.int .u8 3] 187))/\V.heap.size=w.heap.size+2/\Below w.heap.size w V /\
  (V.cell? ⟨w.heap.size+1,m * 4,none⟩=some (.int .i64 (qB3 m).least)/\V.cell? ⟨w.heap.size+1,m * 4+1,none⟩=some (.int .i64 (qB3 m).most)/\V.cell? ⟨w.heap.size+1,m * 4+2,none⟩=some (.bool (qB3 m).alone)/\V.cell? ⟨w.heap.size+1,m * 4+3,none⟩=some (.int .u8 (qB3 m).wh)) /\
  (V.cell? ⟨w.heap.size,0,none⟩=some (.int .i64 0)/\V.cell? ⟨w.heap.size,1,none⟩=some (.int .i64 0)/\V.cell? ⟨w.heap.size,2,none⟩=some (.bool false)/\V.cell? ⟨w.heap.size,3,none⟩=some (.int .u8 0)) /\
  (V.frozen? ⟨w.heap.size,0,none⟩=false/\V.frozen? ⟨w.heap.size,1,none⟩=false/\V.frozen? ⟨w.heap.size,2,none⟩=false/\V.frozen? ⟨w.heap.size,3,none⟩=false):=by
 have z1:(w.alloc (.cells #[.int .i64 0,.int .i64 0,.bool false,.int .u8 0] 157)).heap.size=w.heap.size+1:=by simp
 refine⟨_,rfl,by rw[World.size_alloc,z1],(bR.alloc lR _).alloc (by rw[z1];omega) _,?_,?_,?_⟩
 ·obtain rfl|rfl|rfl|rfl|rfl|rfl|rfl|rfl:m=0 \/ m=1 \/ m=2 \/ m=3 \/ m=4 \/ m=5 \/ m=6 \/ m=7:=by omega
  all_goals exact⟨(World.cell?_alloc_at _ _ _ _ z1.symm).trans rfl,(World.cell?_alloc_at _ _ _ _ z1.symm).trans rfl,(World.cell?_alloc_at _ _ _ _ z1.symm).trans rfl,(World.cell?_alloc_at _ _ _ _ z1.symm).trans rfl⟩
 ·have h:∀i,((w.alloc (.cells #[.int .i64 0,.int .i64 0,.bool false,.int .u8 0] 157)).alloc (.cells #[.int .i64 0,.int .i64 0,.bool false,.int .u8 0,.int .i64 0,.int .i64 0,.bool true,.int .u8 3,.int .i64 2,.int .i64 24,.bool true,.int .u8 3,.int .i64 2,.int .i64 24,.bool true,.int .u8 3,.int .i64 2,.int .i64 3,.bool false,.int .u8 1,.int .i64 2,.int .i64 3,.bool false,.int .u8 2,.int .i64 2,.int .i64 24,.bool true,.int .u8 3,.int .i64 2,.int .i64 2,.bool true,.int .u8 3] 187)).cell? ⟨w.heap.size,i,none⟩=(w.alloc (.cells #[.int .i64 0,.int .i64 0,.bool false,.int .u8 0] 157)).cell? ⟨w.heap.size,i,none⟩:=fun i=>World.cell?_alloc_lt _ _ ⟨w.heap.size,i,none⟩ (by rw[z1];exact Nat.lt_succ_self _);exact⟨(h 0).trans ((World.cell?_alloc_at _ _ _ _ rfl).trans rfl),(h 1).trans ((World.cell?_alloc_at _ _ _ _ rfl).trans rfl),(h 2).trans ((World.cell?_alloc_at _ _ _ _ rfl).trans rfl),(h 3).trans ((World.cell?_alloc_at _ _ _ _ rfl).trans rfl)⟩
 ·have hb:(World.heap ((w.alloc (.cells #[.int .i64 0,.int .i64 0,.bool false,.int .u8 0] 157)).alloc (.cells #[.int .i64 0,.int .i64 0,.bool false,.int .u8 0,.int .i64 0,.int .i64 0,.bool true,.int .u8 3,.int .i64 2,.int .i64 24,.bool true,.int .u8 3,.int .i64 2,.int .i64 24,.bool true,.int .u8 3,.int .i64 2,.int .i64 3,.bool false,.int .u8 1,.int .i64 2,.int .i64 3,.bool false,.int .u8 2,.int .i64 2,.int .i64 24,.bool true,.int .u8 3,.int .i64 2,.int .i64 2,.bool true,.int .u8 3] 187)))[w.heap.size]?=(w.alloc (.cells #[.int .i64 0,.int .i64 0,.bool false,.int .u8 0] 157)).heap[w.heap.size]?:=Below.heap_alloc _ _ _ (by rw[z1];exact Nat.lt_succ_self _);have h:∀i,((w.alloc (.cells #[.int .i64 0,.int .i64 0,.bool false,.int .u8 0] 157)).alloc (.cells #[.int .i64 0,.int .i64 0,.bool false,.int .u8 0,.int .i64 0,.int .i64 0,.bool true,.int .u8 3,.int .i64 2,.int .i64 24,.bool true,.int .u8 3,.int .i64 2,.int .i64 24,.bool true,.int .u8 3,.int .i64 2,.int .i64 3,.bool false,.int .u8 1,.int .i64 2,.int .i64 3,.bool false,.int .u8 2,.int .i64 2,.int .i64 24,.bool true,.int .u8 3,.int .i64 2,.int .i64 2,.bool true,.int .u8 3] 187)).frozen? ⟨w.heap.size,i,none⟩=(w.alloc (.cells #[.int .i64 0,.int .i64 0,.bool false,.int .u8 0] 157)).frozen? ⟨w.heap.size,i,none⟩:=fun i=>World.frozen?_of_block (w:=w.alloc (.cells #[.int .i64 0,.int .i64 0,.bool false,.int .u8 0] 157)) (a:=⟨w.heap.size,i,none⟩) hb;exact⟨(h 0).trans (World.frozen?_alloc_at _ _ _ _ rfl),(h 1).trans (World.frozen?_alloc_at _ _ _ _ rfl),(h 2).trans (World.frozen?_alloc_at _ _ _ _ rfl),(h 3).trans (World.frozen?_alloc_at _ _ _ _ rfl)⟩
theorem qXP (m:Nat)(h8:m<8)(w:World) : Calls Tryz.prog 100 #[.int .u8 (m:Int)] w fun e w'=>e=.returned (askV (qB3 m))/\Below w.heap.size w w' := by
 have hm:True:=trivial;obtain⟨V,hV,hz,hb,⟨d0,d1,d2,d3⟩,⟨r0,r1,r2,r3⟩,f0,f1,f2,f3⟩:=qJ0 w m h8;have HV:=hid hV;have HZ:=hid hz;have HB:=hid hb;unfold askV;generalize (qB3 m).least=al at *;generalize (qB3 m).most=am at *;generalize (qB3 m).alone=aa at *;generalize (qB3 m).wh=aw at *;have hl1:w.heap.size<V.heap.size:=by omega
 have hl2:w.heap.size+1<V.heap.size:=by omega
 have i0:(0:Int)<=(m:Int):=by omega
 have i1:(m:Int)<8:=by omega
 clear hV hz hb hm h8
 go_enter Tryz.func100,Tryz.ntmps100
 go_upto_region 4 with (refine qD0 (by rfl) 187 (.tmp 3) (.tmp 11) (by rfl) (w.alloc (.cells #[.int .i64 0,.int .i64 0,.bool false,.int .u8 0] 157)) _ _ (by rfl) (w.heap.size+1) (by simp) (by rfl) (by rfl) (by kernel_rfl) (by rfl) (by simp[Value.oneCell']) ?_)
 rw[<- HV.out];go_wp2
 exact bodyPost_ret (v:=.agg #[.int .i64 al,.int .i64 am,.bool aa,.int .u8 aw]) (by simp[results,Tryz.results100,go_sem,r0,r1,r2,r3]) rfl ⟨rfl,(((HB.out.setCell (p:=⟨w.heap.size,0,none⟩) lR _).setCell (p:=⟨w.heap.size,1,none⟩) lR _).setCell (p:=⟨w.heap.size,2,none⟩) lR _).setCell (p:=⟨w.heap.size,3,none⟩) lR _⟩
theorem qXO (m:Nat)(hm:m<=255)(h8:¬m<8)(w:World) : Calls Tryz.prog 100 #[.int .u8 (m:Int)] w fun e w'=>e=.returned (askV (qB3 m))/\Below w.heap.size w w' := by
 have e0:qB3 (m:Int)=⟨0,0,false,0⟩:=by
  unfold qB3
  repeat rw[if_neg (by omega)]
 obtain⟨V,hV,hz,hb,_,⟨r0,r1,r2,r3⟩,f0,f1,f2,f3⟩:=qJ0 w 0 (by omega);have HV:=hid hV;have HB:=hid hb;rw[e0];unfold askV;have i1:¬(m:Int)<8:=by omega
 have i0:(0:Int)<=(m:Int):=by omega
 have i2:(m:Int)<=255:=by omega
 have i3:IntKind.i64.wrap (m:Int)=(m:Int):=IntWalk.i64_in _ (by omega);have hl1:w.heap.size<V.heap.size:=by omega
 clear hV hz hb hm h8 e0
 go_enter Tryz.func100,Tryz.ntmps100
 go_upto_region 3 with (refine qD0 (by rfl) 187 (.tmp 3) (.tmp 11) (by rfl) (w.alloc (.cells #[.int .i64 0,.int .i64 0,.bool false,.int .u8 0] 157)) _ _ (by rfl) (w.heap.size+1) (by simp) (by rfl) (by rfl) (by kernel_rfl) (by rfl) (by simp[Value.oneCell']) ?_)
 rw[<- HV.out];go_wp2
 exact bodyPost_ret (v:=.agg #[.int .i64 0,.int .i64 0,.bool false,.int .u8 0]) (by simp[results,Tryz.results100,go_sem,r0,r1,r2,r3]) rfl ⟨rfl,(((HB.out.setCell (p:=⟨w.heap.size,0,none⟩) lR _).setCell (p:=⟨w.heap.size,1,none⟩) lR _).setCell (p:=⟨w.heap.size,2,none⟩) lR _).setCell (p:=⟨w.heap.size,3,none⟩) lR _⟩
theorem qVH (m:Nat)(hm:m<=255)(w:World) : Calls Tryz.prog 100 #[.int .u8 (m:Int)] w fun e w'=>e=.returned (askV (qB3 m))/\Below w.heap.size w w' := by
 by_cases h8:m<8
 ·exact qXP m h8 w
 ·exact qXO m hm h8 w
