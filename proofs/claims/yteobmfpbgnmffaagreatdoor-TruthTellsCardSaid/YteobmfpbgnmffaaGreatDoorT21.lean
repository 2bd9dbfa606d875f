/- PoolAdd -/
import Derived.Test.YteobmfpbgnmffaaGreatDoorT20
set_option linter.unusedVariables false
set_option maxHeartbeats 16000000
set_option maxRecDepth 100000
open Go.Lib (hid)
set_option linter.unusedSimpArgs false
namespace Go.Proofs.YteobmfpbgnmffaaGreatDoor
open Go.RowKit Go.Shelf
def RelR (v:Value)(a b:World) : Prop := a.grownBy b v.ownBlock
theorem RelR.size {v:Value}{a b:World}(h:RelR v a b) : a.heap.size<=b.heap.size := World.grownBy.size h
theorem RelR.block {v:Value}{a b:World}(h:RelR v a b)(k:Nat)(hk:k<a.heap.size)(hne:some k≠v.ownBlock) : b.heap[k]?=a.heap[k]? := World.grownBy.block h k hk hne
def namP (w:World)(P mb base N hz n:Nat)(No No2:Nat->Prop)(key:ByteArray)(A2:Option Addr)(c2:Nat)(i:Nat)(v:Value)(W:World) : Prop := match i with
 |0=>v=.pointer (some ⟨P,0,none⟩)
 |1=>v=.pointer (some ⟨P,0,none⟩)
 |2=>v=.pointer (some ⟨P,2,none⟩)
 |3=>v=.map (some mb)
 |4=>v=.pointer (some ⟨hz,0,none⟩)
 |5=>v=.string key
 |6=>v=.pointer (some ⟨P,0,none⟩)
 |7=>v=.pointer (some ⟨P,0,none⟩)
 |8=>v=.pointer (some ⟨P,2,none⟩)
 |9=>v=.map (some mb)
 |10=>v=.pointer (some ⟨hz,0,none⟩)
 |11=>v=.string key
 |12=>Below w.heap.size w W->LK base mb N key (.string key.data.toList) No v W
 |13=>v=.pointer (some ⟨P,0,none⟩)
 |14=>v=.pointer (some ⟨P,0,none⟩)
 |15=>v=.pointer (some ⟨P,0,none⟩)
 |16=>v=.slice A2 n c2
 |17=>v=.int .i64 (n:Int)
 | 18 => ∃g,v=.slice (some ⟨g,0,none⟩) 1 1/\w.heap.size<=g/\g<W.heap.size/\W.cell? ⟨g,0,none⟩=some (.int .i64 (n:Int))
 |19=>AP w base mb N key (.string key.data.toList) No No2 (n:Int) v W
 | _=>False
theorem qR6 (w:World)(P mb base N hz n:Nat)(No No2:Nat->Prop)(key:ByteArray)(A2:Option Addr)(c2:Nat):∀i v w' w'',(Below w.heap.size w w' \/ RelN w base No w w')->namP w P mb base N hz n No No2 key A2 c2 i v w'->Below w'.heap.size w' w''->namP w P mb base N hz n No No2 key A2 c2 i v w'' := by
 intro i v w' w'' hB h hb
 match i,h with
 |0,h|1,h|2,h|3,h|4,h|5,h|6,h|7,h|8,h|9,h|10,h|11,h=>exact h
 |12,h=>exact fun hb2=>(h (hB.elim id fun hr=>qFU hr hb hb2)).below hb
 |13,h|14,h|15,h|16,h|17,h=>exact h
 |18,h=>obtain⟨g,e,h1,h2,h3⟩:=h;exact⟨g,e,h1,Nat.lt_of_lt_of_le h2 hb.size,(hb.cell (p:=⟨g,0,none⟩) h2).trans h3⟩
 |19,h=>exact h.below hb
 | (k+20),h=>exact h.elim
theorem qOJ (w:World)(P mb base N hz n:Nat)(No No2:Nat->Prop)(key:ByteArray)(A2:Option Addr)(c2:Nat)(hr:∀g,¬No g->g<w.heap.size):∀i v w' w'',i≠19->Below w.heap.size w w'->namP w P mb base N hz n No No2 key A2 c2 i v w'->RelN w base No w' w''->namP w P mb base N hz n No No2 key A2 c2 i v w'' := by
 intro i v w' w'' hne hB h hS
 match i,h with
 |0,h|1,h|2,h|3,h|4,h|5,h|6,h|7,h|8,h|9,h|10,h|11,h=>exact h
 |12,h=>exact fun hb2=>(h hB).below (hS.none_ hB hr hb2)
 |13,h|14,h|15,h|16,h|17,h=>exact h
 |18,h=>obtain⟨g,e,h1,h2,h3⟩:=h;obtain⟨row,k1,k2⟩:=hS;have hg:some g≠row:=fun e2=>by { have:=hr g (k1 g e2.symm).2;omega };exact⟨g,e,h1,Nat.lt_of_lt_of_le h2 k2.size,(World.cell?_of_block (a:=⟨g,0,none⟩) (k2.block g h2 hg)).trans h3⟩
 |19,h=>exact absurd rfl hne
 | (k+20),h=>exact h.elim
def rowP (w:World)(P base n:Nat)(x:Pk)(rp pr:Int)(Lc:List Pr)(A2:Option Addr)(c2:Nat)(i:Nat)(v:Value)(W:World) : Prop := match i with
 |0=>v=.pointer (some ⟨P,0,none⟩)
 |1=>v=.pointer (some ⟨P,0,none⟩)
 |2=>v=.pointer (some ⟨P,0,none⟩)
 |3=>v=.pointer (some ⟨P,0,none⟩)
 |4=>v=.slice A2 n c2
 |5=>v=.agg #[.string x.name,.int .i64 x.epoch,.string x.ver,.string x.rel,.int .u8 x.arch,.string x.vendor,.slice x.provA x.prov.length x.provC,.slice x.reqA x.req.length x.reqC,.slice x.conA x.con.length x.conC,.slice x.obsA x.obs.length x.obsC,.slice x.rcmA x.rcm.length x.rcmC,.slice x.supA x.sup.length x.supC,.slice x.sugA x.sug.length x.sugC,.slice x.enhA x.enh.length x.enhC,.slice x.filesA x.files.length x.filesC]
 | 6 => ∃q:Pk,v=q.val/\Alike x q/\PkOwn w.heap.size q W
 |7=>v=.int .i64 rp
 |8=>v=.int .i64 pr
 | 9 => ∃q:Pk,v=.agg (Pr.cells ⟨q,rp,pr⟩).toArray/\Alike x q/\PkOwn w.heap.size q W
 | 10 => ∃(q:Pk) (g:Nat),v=.slice (some ⟨g,0,none⟩) 1 1/\Alike x q/\PkOwn w.heap.size q W/\Rd Pr.cells 17 W.heap.size (some ⟨g,0,none⟩) 1 [⟨q,rp,pr⟩] W/\w.heap.size<=g/\g<W.heap.size
 | 11 => ∃(q:Pk) (NoQ:Nat->Prop),Own Pr.cells 17 base 161 v (Lc++[(⟨q,rp,pr⟩:Pr)]) W/\Alike x q/\Hangs NoQ q W/\(∀b,NoQ b->w.heap.size<=b)/\(∀g,v.ownBlock=some g -> ¬NoQ g)/\(v.ownBlock=(Value.slice A2 n c2).ownBlock \/ ∃g,v.ownBlock=some g/\w.heap.size<=g)
 | _=>False
theorem qSB (w:World)(P base n:Nat)(x:Pk)(rp pr:Int)(Lc:List Pr)(A2:Option Addr)(c2:Nat):∀i v w' w'',(Below w.heap.size w w' \/ RelR (Value.slice A2 n c2) w w')->rowP w P base n x rp pr Lc A2 c2 i v w'->Below w'.heap.size w' w''->rowP w P base n x rp pr Lc A2 c2 i v w'' := by
 intro i v w' w'' hB h hb
 match i,h with
 |0,h|1,h|2,h|3,h|4,h|5,h=>exact h
 |6,h=>obtain⟨q,e,ha,hq⟩:=h;exact⟨q,e,ha,hq.keepB hb.size fun b _ h2=>hb.block b h2⟩
 |7,h|8,h=>exact h
 |9,h=>obtain⟨q,e,ha,hq⟩:=h;exact⟨q,e,ha,hq.keepB hb.size fun b _ h2=>hb.block b h2⟩
 |10,h=>obtain⟨q,g,e,ha,hq,hr,h1,h2⟩:=h;exact⟨q,g,e,ha,hq.keepB hb.size (fun b _ h2=>hb.block b h2),qDM hr (hb.block g h2) hb.size,h1,Nat.lt_of_lt_of_le h2 hb.size⟩
 |11,h=>obtain⟨q,NoQ,ho,ha,hq,h1,h2,h3⟩:=h;exact⟨q,NoQ,qAP ho lR (fun g hg=>hb.block g (World.ownsRow.lt ho g hg).2),ha,hq.keep hb.size (fun b hN=>hb.block b (hq.lt b hN)) (fun _ hN=>hN) (fun b hN=>Nat.lt_of_lt_of_le (hq.lt b hN) hb.size),h1,h2,h3⟩
 | (k+12),h=>exact h.elim
theorem qP2 (w:World)(P base n:Nat)(x:Pk)(rp pr:Int)(Lc:List Pr)(A2:Option Addr)(c2:Nat)(hr:∀g,(Value.slice A2 n c2).ownBlock=some g->g<w.heap.size):∀i v w' w'',i≠11->Below w.heap.size w w'->rowP w P base n x rp pr Lc A2 c2 i v w'->RelR (Value.slice A2 n c2) w' w''->rowP w P base n x rp pr Lc A2 c2 i v w'' := by
 intro i v w' w'' hne hB h hS
 match i,h with
 |0,h|1,h|2,h|3,h|4,h|5,h=>exact h
 |6,h=>obtain⟨q,e,ha,hq⟩:=h;exact⟨q,e,ha,hq.keepB hS.size fun b h1 h2=>hS.block b h2 fun e=>by { have:=hr b e.symm;omega }⟩
 |7,h|8,h=>exact h
 |9,h=>obtain⟨q,e,ha,hq⟩:=h;exact⟨q,e,ha,hq.keepB hS.size fun b h1 h2=>hS.block b h2 fun e=>by { have:=hr b e.symm;omega }⟩
 |10,h=>obtain⟨q,g,e,ha,hq,hd,h1,h2⟩:=h;exact⟨q,g,e,ha,hq.keepB hS.size (fun b h1 h2=>hS.block b h2 fun e=>by { have:=hr b e.symm;omega }),qDM hd (hS.block g h2 fun e=>by { have:=hr g e.symm;omega }) hS.size,h1,Nat.lt_of_lt_of_le h2 hS.size⟩
 |11,h=>exact absurd rfl hne
 | (k+12),h=>exact h.elim
def qCK (l:List Pk)(L:List Pr)(rp pr:Int) : Prop := L.length=l.length /\ ∀(i:Nat) (h:i<l.length) (h':i<L.length),Alike l[i] L[i].pk/\L[i].repo=rp/\L[i].prio=pr
theorem qCK.nil (rp pr:Int) : qCK [] [] rp pr := ⟨rfl,fun i h=>absurd h (Nat.not_lt_zero _)⟩
theorem qCK.snoc {l:List Pk}{i:Nat}{L:List Pr}{rp pr:Int}(h:qCK (l.take i) L rp pr)(hi:i<l.length){q:Pk}(hq:Alike l[i] q) : qCK (l.take (i+1)) (L++[⟨q,rp,pr⟩]) rp pr := by
 have hl:L.length=i:=by rw[h.1,List.length_take];omega
 refine⟨by rw[List.length_append,List.length_take,hl];simp;omega,fun k hk hk' => ?_⟩;rw[List.getElem_take];by_cases hki:k<i
 ·have h2:=h.2 k (by rw[List.length_take];omega) (by omega);rw[List.getElem_take]at h2;rw[List.getElem_append_left (by omega)];exact h2
 ·obtain rfl:k=i:=by rw[List.length_take]at hk;omega
  rw[List.getElem_append_right (by omega)];simp only[hl,Nat.sub_self,List.getElem_cons_zero];exact⟨hq,trivial,trivial⟩
theorem qUI {l:List Pk}{i:Nat}(h:∀y∈l.take i,mayP y=true)(hi:i<l.length)(hm:mayP l[i]=true):∀y∈l.take (i+1),mayP y=true := by
 intro y hy;rw[List.take_succ_eq_append_getElem hi]at hy;rcases List.mem_append.1 hy with hy|hy
 ·exact h y hy
 ·simp at hy;subst hy;exact hm
theorem qXA {l:List Pk}{i:Nat}(hi:i<l.length)(hm:mayP l[i]=false) : l.all mayP=false := by
 rw[Bool.eq_false_iff];intro h;have:=List.all_eq_true.1 h _ (List.getElem_mem hi);rw[hm]at this;cases this
theorem qCP {W:World}{g:Nat}{x:Int}(hg:g<W.heap.size)(hc:W.cell? ⟨g,0,none⟩=some (.int .i64 x)) : Rd encI 1 W.heap.size (some ⟨g,0,none⟩) 1 [x] W := by
 refine⟨by simp,by unfold maxLen;omega,fun k hk=>⟨g,0,rfl,hg,fun j u hu => ?_⟩⟩;obtain rfl:k=0:=by simp at hk;exact hk
 match j,hu with
 |0,hu=>rw[show u=.int .i64 x from (Option.some.inj hu).symm];exact hc
 | j+1,hu=>cases hu
theorem qYY (W:World)(y:Pr) : Rd Pr.cells 17 (W.alloc (.cells y.cells.toArray 161)).heap.size (some ⟨W.heap.size,0,none⟩) 1 [y] (W.alloc (.cells y.cells.toArray 161)) := by
 refine⟨by simp,by unfold maxLen;omega,fun k hk=>⟨W.heap.size,0,rfl,by simp,fun j u hu => ?_⟩⟩;obtain rfl:k=0:=by simp at hk;exact hk
 refine (World.cell?_alloc_at _ _ _ _ rfl).trans ?_
 simpa using hu
theorem qV8 {w0 V W w9:World}{P mb base N n c2:Nat}{I:Int}{Lc:List Pr}{No:Nat->Prop}{A2:Option Addr}{x q:Pk}{rp pr:Int}{v9:Value}(hS:PoolSt w0 P mb base I N Lc No (.slice A2 n c2) V)(hb:Below V.heap.size V W)(ha:Alike x q)(hq:PkOwn V.heap.size q W)(hx:x.Laid V.heap.size V)(hn:Lc.length=n)
  (ho:w9.ownsRow base 161 17 v9 (n+[(⟨q,rp,pr⟩:Pr)].length) (Lc.flatMap Pr.cells++[(⟨q,rp,pr⟩:Pr)].flatMap Pr.cells)) (hg:W.grownBy w9 (Value.slice A2 n c2).ownBlock) (hl:v9.ownBlock=(Value.slice A2 n c2).ownBlock \/ v9.ownBlock=some W.heap.size) :
  ∃(q:Pk) (NoQ:Nat->Prop),Own Pr.cells 17 base 161 v9 (Lc++[⟨q,rp,pr⟩]) w9/\Alike x q/\Hangs NoQ q w9/\(∀b,NoQ b->V.heap.size<=b)/\(∀g,v9.ownBlock=some g -> ¬NoQ g)/\(v9.ownBlock=(Value.slice A2 n c2).ownBlock \/ ∃g,v9.ownBlock=some g/\V.heap.size<=g):=by
 have hr:=World.ownsRow.lt hS.own;refine⟨q,fun b=>V.heap.size<=b/\b<W.heap.size,?_,ha,(hq.hangs ha hx).keep hg.size (fun b hN=>hg.block b hN.2 fun e=>by have:=(hr b e.symm).2;omega) (fun _ hN=>hN) (fun b hN=>Nat.lt_of_lt_of_le hN.2 hg.size),fun b hN=>hN.1,fun g e hN => ?_,hl.imp id fun e=>⟨_,e,hb.size⟩⟩
 ·unfold Own;rw[List.length_append,hn,List.flatMap_append];exact ho
 ·rcases hl with e2|e2
  ·rw[e2]at e;have:=(hr g e).2;omega
  ·rw[e2]at e;cases e;omega
theorem PoolSt.big {w0:World}{P mb base:Nat}{I:Int}{N:Nat}{L:List Pr}{No:Nat->Prop}{v:Value}{W W':World}(h:PoolSt w0 P mb base I N L No v W)(hb:Below W.heap.size W W') : W'.Shuns mb (fun g=>(No g \/ v.ownBlock=some g) \/ W.heap.size<=g) := by
 obtain⟨D,hD⟩:=h.grp;exact (h.shun.reno hD fun g hg=>hg).kept (qAC hb none) (Nat.lt_of_lt_of_le h.hM h.hb) (by simp)
theorem PoolSt.big_then {w0:World}{P mb base:Nat}{I:Int}{N:Nat}{L:List Pr}{No No':Nat->Prop}{v:Value}{W W':World}(h:PoolSt w0 P mb base I N L No v W)(hs:W.Shuns mb No')(hb:Below W.heap.size W W') : W'.Shuns mb No' :=
 hs.kept (qAC hb none) (Nat.lt_of_lt_of_le h.hM h.hb) (by simp)
def qWJ (w0:World)(P mb base:Nat)(I:Int)(L:List Pr)(l:List Pk)(rp pr:Int)(e:Ending)(w':World) : Prop :=
 (l.all mayP=true->e=.returned (.int .i64 0) /\ ∃(L':List Pr) (No:Nat->Prop) (v:Value),PoolSt w0 P mb base I (L++L').length (L++L') No v w'/\qCK l L' rp pr)/\(l.all mayP=false->e=.returned (.int .i64 4))/\Below w0.heap.size w0 w'
theorem qLT {w0:World}(hI:PkIn w0){P mb base:Nat}{I:Int}{L:List Pr}{No0:Nat->Prop}{v0:Value}(A:Option Addr)(c:Nat)(l:List Pk)(rp pr:Int)(w:World)(hl:PRow w0.heap.size w0 A c l)(hd:∀x∈l,x.deepOk/\x.few)(hS:PoolSt w0 P mb base I L.length L No0 v0 w)(hbd:L.length+l.length<=1000) :
  Calls Tryz.prog 82 #[.pointer (some ⟨P,0,none⟩),.slice A l.length c,.int .i64 rp,.int .i64 pr] w (qWJ w0 P mb base I L l rp pr):=by
 have HI:=hid (fun W (hb:Below w0.heap.size w0 W)=>hI.below hb);have HL:=hid (fun W (hb:Below w0.heap.size w0 W)=>(hl.below hb).more hb.size);have HD:=hid hd;have MY:=hid (fun (x:Pk) (hx:x.deepOk) W (hb:Below w0.heap.size w0 W) (h:x.Laid W.heap.size W)=>qOM x W (hI.below hb) h hx);have CPX:=hid (fun (x:Pk) (hx:x.few) W (h:x.Laid W.heap.size W)=>qHJ x W h hx);have HS0:=hid hS;have HB9:=hid hbd;unfold Pk.val at MY;obtain⟨nl,hnl⟩:∃nl,nl=l.length:=⟨_,rfl⟩;rw[<- hnl];have HNL0:=hid hnl;have hnb:nl<=1000:=by omega
 clear hI hl hd hS hbd hnl
 go_enter Tryz.func82,Tryz.ntmps82
 go_wp2_with fail
 go_loopw[13] (fun iv wr => ∃(i:Nat) (L':List Pr) (No:Nat->Prop) (v:Value),i<=nl/\iv=.int .i64 (i:Int)/\PoolSt w0 P mb base I (L++L').length (L++L') No v wr/\qCK (l.take i) L' rp pr/\(∀y∈l.take i,mayP y=true)) (fun iv _=>nl - (intOf iv).toNat)
 case atStart=>exact⟨0,[],No0,v0,Nat.zero_le _,rfl,by simpa using HS0.out,qCK.nil _ _,by simp⟩
 case round =>
  obtain⟨i,L',No,v,hi,rfl,hS,hC,hM⟩:=hrel;rename World=>wr
  have S0:=hid hS;have CO:=hid hC;have MA:=hid hM;clear hS hC hM HS0;by_cases hlt:i<nl
  ·have hil:i<l.length:=by have:=HNL0.out;omega
   have PR:=HL.out wr S0.out.old;obtain⟨b,o,hadr,hbl,e0,e1,e2,e3,e4,e5,e6,e7,e8,e9,e10,e11,e12,e13,e14⟩:=PR.at_ hil;have HX:=hid (HD.out _ (List.getElem_mem hil));have LXR:=hid (fun W (hb:Below w0.heap.size w0 W)=>(HL.out W hb).2 _ (List.getElem_mem hil));have CN:=hid (fun (q:Pk) (h:Alike l[i] q)=>qCK.snoc CO.out hil h);have MN:=hid (fun (h:mayP l[i]=true)=>qUI MA.out hil h);have MF:=hid (fun (h:mayP l[i]=false)=>qXA hil h);subst hadr;clear PR;generalize l[i]=x at *;have j0:(0:Int)<=(i:Int):=by omega
   have j1:(i:Int)<(nl:Int):=by omega
   clear hil;go_wp2_with fail
   have B1:=(Below.refl wr.heap.size wr).alloc lR (.cells #[.string x.name,.int .i64 x.epoch,.string x.ver,.string x.rel,.int .u8 x.arch,.string x.vendor,.slice x.provA x.prov.length x.provC,.slice x.reqA x.req.length x.reqC,.slice x.conA x.con.length x.conC,.slice x.obsA x.obs.length x.obsC,.slice x.rcmA x.rcm.length x.rcmC,.slice x.supA x.sup.length x.supC,.slice x.sugA x.sug.length x.sugC,.slice x.enhA x.enh.length x.enhC,.slice x.filesA x.files.length x.filesC] 28);have XB:=hid (show qAJ wr.heap.size x (wr.alloc (.cells #[.string x.name,.int .i64 x.epoch,.string x.ver,.string x.rel,.int .u8 x.arch,.string x.vendor,.slice x.provA x.prov.length x.provC,.slice x.reqA x.req.length x.reqC,.slice x.conA x.con.length x.conC,.slice x.obsA x.obs.length x.obsC,.slice x.rcmA x.rcm.length x.rcmC,.slice x.supA x.sup.length x.supC,.slice x.sugA x.sug.length x.sugC,.slice x.enhA x.enh.length x.enhC,.slice x.filesA x.files.length x.filesC] 28)) from⟨PkAt.new wr x,fun i hi=>by simp[go_sem],by simp⟩);have S1:=hid (S0.out.then B1);have SHB:=hid (S0.out.big B1);clear B1 e0 e1 e2 e3 e4 e5 e6 e7 e8 e9 e10 e11 e12 e13 e14;generalize wr.alloc (.cells #[.string x.name,.int .i64 x.epoch,.string x.ver,.string x.rel,.int .u8 x.arch,.string x.vendor,.slice x.provA x.prov.length x.provC,.slice x.reqA x.req.length x.reqC,.slice x.conA x.con.length x.conC,.slice x.obsA x.obs.length x.obsC,.slice x.rcmA x.rcm.length x.rcmC,.slice x.supA x.sup.length x.supC,.slice x.sugA x.sug.length x.sugC,.slice x.enhA x.enh.length x.enhC,.slice x.filesA x.files.length x.filesC] 28)=wx at *;have HMZ:=hid (Nat.lt_of_lt_of_le S0.out.hM S0.out.hb);have HRZ:=hid (fun j (hj:v.ownBlock=some j)=>(World.ownsRow.lt S0.out.own j hj).2);obtain⟨hz,hhz⟩:∃hz,hz=wr.heap.size:=⟨_,rfl⟩;rw[<- hhz]at XB SHB HMZ HRZ |-;clear hhz;go_at_call 65
   refine (MY.out x HX.out.1 wx S1.out.old (LXR.out _ S1.out.old)).mono ?_;rintro en V ⟨rfl,h⟩;have S:=hid (S1.out.then h);have XV:=hid (XB.out.then h);have SHV:=hid (S1.out.big_then SHB.out h);clear h XB SHB S1 S0;cases hm:mayP x
   ·have MF9:=hid (MF.out hm);clear hm;go_wp2_with fail
    go_ret;exact⟨(fun h=>by rw[MF9.out]at h;cases h),fun _=>rfl,S.out.old⟩
   ·have MN9:=hid (MN.out hm);clear hm;obtain⟨A2,c2,hv⟩:=qAG S.out.own;subst hv;obtain⟨Lc,hLc⟩:∃Lc,Lc=L++L':=⟨_,rfl⟩;rw[<- hLc]at S SHV HRZ;have HLC:=hid hLc;have hlc:Lc.length<=1000:=by rw[hLc,List.length_append,CO.out.1,List.length_take];have:=HB9.out;have:=HNL0.out;omega
    clear hLc;obtain⟨n,hn⟩:∃n,n=Lc.length:=⟨_,rfl⟩;rw[<- hn]at S SHV HRZ hlc;have HNL:=hid hn.symm;have HNN:=hid hlc;clear hn hlc;obtain⟨key,hkey⟩:∃key,key=x.name:=⟨_,rfl⟩;have HKEY:=hid hkey;have HKL:=hid (show key.size<=maxLen by rw[hkey];exact (LXR.out _ S.out.old).n0);clear hkey;have HWF:=hid (show (Lit.int .i64 (n:Int)).wf=true by have:=HNN.out;exact decide_eq_true (by simp[IntKind.signed,IntKind.bits];omega));have HN:=hid (show n<maxLen by have:=HNN.out;unfold maxLen;omega);obtain⟨NB,hNB⟩:∃NB:Nat->Prop,NB=fun g=>(No g \/ (Value.slice A2 n c2).ownBlock=some g) \/ hz<=g:=⟨_,rfl⟩;obtain⟨No2,hNo2⟩:∃No2:Nat->Prop,No2=fun g=>No g \/ (Value.slice A2 n c2).ownBlock=some g:=⟨_,rfl⟩;have HZ:=hid (show hz<V.heap.size from XV.out.2.2);have N1:=hid (show ∀g,¬NB g->g<V.heap.size from fun g hg=>by rw[hNB]at hg;have:=HZ.out;have h2:¬hz<=g:=fun e=>hg (.inr e);omega);have N2:=hid (show ∀g,No2 g->NB g from fun g hg=>by rw[hNB];rw[hNo2]at hg;exact .inl hg);have N3:=hid (show ∀g,No2 g->g<V.heap.size from fun g hg=>by rw[hNo2]at hg;exact hg.elim (fun h=>(S.out.noB g h).2) (fun h=>(World.ownsRow.lt S.out.own g h).2));have N4:=hid (show NB hz from by rw[hNB];exact .inr lR);have SH:=hid (fun (W:World) (hb:Below V.heap.size V W)=>show W.Shuns mb NB from by rw[hNB];exact SHV.out.kept (qAC hb none) (Nat.lt_of_lt_of_le S.out.hM S.out.hb) (by simp));have NN:=hid (show ∀g,¬NB g -> ¬No g/\(Value.slice A2 n c2).ownBlock≠some g from fun g hg=>by rw[hNB]at hg;exact⟨fun h=>hg (.inl (.inl h)),fun h=>hg (.inl (.inr h))⟩);have NW:=hid (show ∀W:World,W.Shuns mb No2->W.Shuns mb (fun g=>No g \/ (Value.slice A2 n c2).ownBlock=some g) from fun W h=>by rw[hNo2]at h;exact h);have HPV:=hid (show P<V.heap.size from Nat.lt_of_lt_of_le S.out.hP S.out.hb);have PZ:=hid S.out.hP;clear hNB hNo2 SHV;obtain⟨N,hN9⟩:∃N,N=n:=⟨_,rfl⟩;have S:=hid (show PoolSt w0 P mb base I N Lc No (.slice A2 n c2) V from by rw[hN9];exact S.out);have HN:=hid (show N<maxLen by rw[hN9];exact HN.out);have HNQ:=hid hN9;have HNN:=hid (show n<=1000/\N<=1000 from⟨HNN.out,by rw[hN9];exact HNN.out⟩);clear hN9;go_wp2_with fail
    refine qB7 (PP:=namP V P mb base N hz n NB No2 key A2 c2) (RelS:=RelN V base NB) 20 19 rfl (by kernel_rfl) (by kernel_rfl) (by decide) (by decide) (by decide) (qR6 V P mb base N hz n NB No2 key A2 c2) (qOJ V P mb base N hz n NB No2 key A2 c2 N1.out) (fun b c h1 h2=>h1.two h2) (fun b c h1 h2=>RelN.three h1 h2) (fun i=>match i with|0=>u20|1=>u21|2=>u22|3=>u23|4=>u24|5=>u25|6=>u26|7=>u27|8=>u28|9=>u29|10=>u30|11=>u31|12=>u32|13=>u33|14=>u34|15=>u35|16=>u36|17=>u37|18=>u38|_=>u39) (by simp[qA4,gQ]) ?_ ?_ ?_
    ·intro i o vs W hi hne ho he hBW hdep K hK;simp only[gT,qA4,gQ]at hK |-;have HSZ:=hid (qFN hBW);have pP:=qC5 hBW HPV.out (.inl PZ.out);have C0W:=hid ((World.cell?_of_block (w:=V) (a:=⟨P,0,none⟩) pP).trans S.out.c0);have C2W:=hid ((World.cell?_of_block (w:=V) (a:=⟨P,2,none⟩) pP).trans S.out.c2);have CNW:=hid (show W.cell? ⟨hz,0,none⟩=some (.string key) from (World.cell?_of_block (w:=V) (a:=⟨hz,0,none⟩) (qC5 hBW HZ.out (.inr N4.out))).trans (by rw[HKEY.out];exact XV.out.1.2.1));have DEP:=hid hdep;clear pP hdep;obtain rfl|rfl|rfl|rfl|rfl|rfl|rfl|rfl|rfl|rfl|rfl|rfl|rfl|rfl|rfl|rfl|rfl|rfl|rfl|rfl:=c20_ hi<;>simp only[gE]at ho<;>subst ho
     ·rw[if_pos (by rfl)];simp only[gQ]at hK;have HK:=hid hK;clear hK he hBW hi hne;go_simp;exact HK.out _ _ (by first|rfl|simp[namP]) bR
     ·have e0:vs 0=_:=dq he 0;rw[e0]at hK |-;rw[if_pos (by rfl)];simp only[gQ]at hK;have HK:=hid hK;clear hK he hBW hi hne;go_simp;exact HK.out _ _ (by first|rfl|simp[namP]) bR
     ·have e1:vs 1=_:=dq he 1;rw[e1]at hK |-;rw[if_pos (by rfl)];simp only[gQ]at hK;have HK:=hid hK;clear hK he hBW hi hne;go_simp;exact HK.out _ _ (by first|rfl|simp[namP]) bR
     ·have e2:vs 2=_:=dq he 2;rw[e2]at hK |-;rw[if_pos (by rfl)];simp only[gQ]at hK;have HK:=hid hK;clear hK he hBW hi hne;have c2':=C2W.out;go_simp;exact HK.out _ _ rfl bR
     ·rw[if_pos (by rfl)];simp only[gQ]at hK;have HK:=hid hK;clear hK he hBW hi hne;go_simp;exact HK.out _ _ (by first|rfl|simp[namP]) bR
     ·have e4:vs 4=_:=dq he 4;rw[e4]at hK |-;rw[if_pos (by rfl)];simp only[gQ]at hK;have HK:=hid hK;clear hK he hBW hi hne;have cn:=CNW.out;go_simp;exact HK.out _ _ rfl bR
     ·rw[if_pos (by rfl)];simp only[gQ]at hK;have HK:=hid hK;clear hK he hBW hi hne;go_simp;exact HK.out _ _ (by first|rfl|simp[namP]) bR
     ·have e6:vs 6=_:=dq he 6;rw[e6]at hK |-;rw[if_pos (by rfl)];simp only[gQ]at hK;have HK:=hid hK;clear hK he hBW hi hne;go_simp;exact HK.out _ _ (by first|rfl|simp[namP]) bR
     ·have e7:vs 7=_:=dq he 7;rw[e7]at hK |-;rw[if_pos (by rfl)];simp only[gQ]at hK;have HK:=hid hK;clear hK he hBW hi hne;go_simp;exact HK.out _ _ (by first|rfl|simp[namP]) bR
     ·have e8:vs 8=_:=dq he 8;rw[e8]at hK |-;rw[if_pos (by rfl)];simp only[gQ]at hK;have HK:=hid hK;clear hK he hBW hi hne;have c2':=C2W.out;go_simp;exact HK.out _ _ rfl bR
     ·rw[if_pos (by rfl)];simp only[gQ]at hK;have HK:=hid hK;clear hK he hBW hi hne;go_simp;exact HK.out _ _ (by first|rfl|simp[namP]) bR
     ·have e10:vs 10=_:=dq he 10;rw[e10]at hK |-;rw[if_pos (by rfl)];simp only[gQ]at hK;have HK:=hid hK;clear hK he hBW hi hne;have cn:=CNW.out;go_simp;exact HK.out _ _ rfl bR
     ·have e9:vs 9=_:=dq he 9;rw[e9]at hK |-;have e11:vs 11=_:=dq he 11;rw[e11]at hK |-;rw[if_pos (by rfl)];simp only[gQ]at hK;have HK:=hid hK;clear hK he hBW hi hne;exact qG5 W _ _ rfl (mb:=mb) rfl rfl HKL.out HN.out (S.out.then (DEP.out (by kernel_rfl))).grp (SH.out _ (DEP.out (by kernel_rfl))) fun u hu=>HK.out _ _ (fun _=>hu) bR
     ·rw[if_pos (by rfl)];simp only[gQ]at hK;have HK:=hid hK;clear hK he hBW hi hne;go_simp;exact HK.out _ _ (by first|rfl|simp[namP]) bR
     ·have e13:vs 13=_:=dq he 13;rw[e13]at hK |-;rw[if_pos (by rfl)];simp only[gQ]at hK;have HK:=hid hK;clear hK he hBW hi hne;go_simp;exact HK.out _ _ (by first|rfl|simp[namP]) bR
     ·have e14:vs 14=_:=dq he 14;rw[e14]at hK |-;rw[if_pos (by rfl)];simp only[gQ]at hK;have HK:=hid hK;clear hK he hBW hi hne;go_simp;exact HK.out _ _ (by first|rfl|simp[namP]) bR
     ·have e15:vs 15=_:=dq he 15;rw[e15]at hK |-;rw[if_pos (by rfl)];simp only[gQ]at hK;have HK:=hid hK;clear hK he hBW hi hne;have c0':=C0W.out;go_simp;exact HK.out _ _ rfl bR
     ·have e16:vs 16=_:=dq he 16;rw[e16]at hK |-;rw[if_pos (by rfl)];simp only[gQ]at hK;have HK:=hid hK;clear hK he hBW hi hne;go_simp;exact HK.out _ _ (by first|rfl|simp[namP]) bR
     ·have e17:vs 17=_:=dq he 17;rw[e17]at hK |-;rw[if_pos (by rfl)];simp only[gQ]at hK;have HK:=hid hK;clear hK he hBW hi hne;go_simp;exact HK.out _ _ ⟨W.heap.size,rfl,HSZ.out,by simp,(World.cell?_alloc_at _ _ _ _ rfl).trans rfl⟩ (bR.alloc lR _)
     ·exact absurd rfl hne
    ·intro o vs W ho he hBW K hK;simp only[gT,qA4,gQ]at hK |-;have BW:=hid hBW;simp only[gE]at ho;subst ho;have LK12:=hid ((dq he 12:namP V P mb base N hz n NB No2 key A2 c2 12 (vs 12) W) hBW);obtain⟨g18,e18,_,hg18,hc18⟩:=dq he 18;rw[e18]at hK |-;have RD18:=hid (qCP hg18 hc18);rw[if_pos (by rfl)];simp only[gQ]at hK;have HK:=hid hK;clear hK he hBW;obtain⟨zs,DD,l1,l2,l3,l4,l5,l6⟩:=LK12.out;refine qAM (P:=Tryz.prog) W _ _ 42 rfl base 3 _ _ 1 _ (by rfl) (by rfl) (by rfl) (by rfl) (by rfl) (by rfl) (by decide) qAZ qBW (vs 12) zs.length (zs.map (Value.int .i64)) rfl l2.1 W.heap.size (some ⟨g18,0,none⟩) 1 [(n:Int)] 1 rfl rfl RD18.out (by have:=HN.out;have:=HNN.out;simp;omega) (by decide) (Nat.le_trans S.out.hb BW.out.size) ?_;intro v9 w9 ho9 hg9 hl9;exact HK.out _ _ (AP.mk BW.out l1 l2 l3 l4 l5 l6 N2.out N3.out HWF.out ho9 hg9 hl9) ⟨_,fun j hj=>⟨(l2.1.lt j hj).1,l6 j hj⟩,hg9⟩
    ·intro vs W hall hRel;have e3:vs 3=.map (some mb):=hall 3 (by decide);have e5:vs 5=.string key:=hall 5 (by decide);have hAP:AP V base mb N key (.string key.data.toList) NB No2 (n:Int) (vs 19) W:=hall 19 (by decide);simp only[gT,qA4,gQ];rw[e3,e5];obtain⟨W2,u,zs,DD,h0,g1,g2,g3,g4,g5,g6,g7,g8,g9,g10⟩:=hAP;have SW:=hid (S.out.then h0);have HR:=hid (show ∀j,u.ownBlock=some j->base<=j /\ ¬No j/\(Value.slice A2 n c2).ownBlock≠some j from fun j e=>⟨(g2.1.lt j e).1,(NN.out j (g6 j e)).1,(NN.out j (g6 j e)).2⟩);have XB2:=hid (show W.heap[hz]?=W2.heap[hz]? from g7.block hz (Nat.lt_of_lt_of_le HZ.out h0.size) (fun e=>g6 hz e.symm N4.out));have XW2:=hid (XV.out.then h0);have LN:=hid (show (zs++[(n:Int)]).length<=N+1 by simp;omega);have G1:=hid g1;have G2:=hid g2;have G4:=hid g4;have G5:=hid g5;have G7:=hid g7;have G8:=hid g8;have G9:=hid g9;have G10:=hid g10;generalize vs 19=v9 at *;generalize vs 0=u120,vs 1=u121,vs 2=u122,vs 4=u124,vs 6=u126,vs 7=u127,vs 8=u128,vs 9=u129,vs 10=u130,vs 11=u131,vs 12=u132,vs 13=u133,vs 14=u134,vs 15=u135,vs 16=u136,vs 17=u137,vs 18=u138;clear hall hRel e3 e5 h0 g1 g2 g3 g4 g5 g6 g7 g8 g9 g10;go_wp2_with (at_mapUpdate;refine wpList_mapUpdate_back_shuns (H:=Unit) W rfl _ _ _ 122 rfl (Maps.string_keyed (P:=Tryz.prog) Tryz.underlying9) Tryz.underlying122 (WideMaps.keyOf_string_mk (P:=Tryz.prog) Tryz.underlying9 HKL.out) G1.out HN.out G2.out (qDD G5.out N2.out) G10.out G4.out rfl rfl rfl G7.out G8.out LN.out G9.out ?_;intro w3 hown3 hgrow3 hsh3;go_frame)
     have S2:=hid (SW.out.named HR.out G7.out hgrow3 hown3 (NW.out _ hsh3));have X2:=hid (qBG XW2.out ((hgrow3.block hz (Nat.lt_of_lt_of_le XW2.out.2.2 G7.out.size) (fun e=>by have:=HMZ.out;have e2:=Option.some.inj e;omega)).trans XB2.out) (Nat.le_trans G7.out.size hgrow3.size));clear hown3 hgrow3 hsh3 SW HR XB2 XW2 LN G1 G2 G4 G5 G7 G8 G9 G10 N1 N2 N3 N4 SH NN NW HPV S XV HZ HMZ HWF;have CP:=hid (fun W (h:x.Laid W.heap.size W)=>CPX.out x HX.out.2 W h);have LX:=hid (LXR.out _ S2.out.old);have HPV:=hid (show P<w3.heap.size from Nat.lt_of_lt_of_le S2.out.hP S2.out.hb);have HRB:=hid (show ∀g,(Value.slice A2 n c2).ownBlock=some g->base<=g/\g<w3.heap.size from World.ownsRow.lt S2.out.own);have FZ:=hid (S2.out.fz 0 (by omega));refine qB7 (PP:=rowP w3 P base n x rp pr Lc A2 c2) (RelS:=RelR (.slice A2 n c2)) 12 11 rfl (by kernel_rfl) (by kernel_rfl) (by decide) (by decide) (by decide) (qSB w3 P base n x rp pr Lc A2 c2) (qP2 w3 P base n x rp pr Lc A2 c2 (fun g hg=>(HRB.out g hg).2)) (fun b c h1 h2=>World.grownBy.trans h1 (qAC h2 _)) (fun b c h1 h2=>World.grownBy.trans (qAC h1 _) h2) (fun i=>match i with|0=>u40|1=>u41|2=>u42|3=>u43|4=>u44|5=>u45|6=>u46|7=>u47|8=>u48|9=>u49|10=>u50|_=>u51) (by simp[qA4,gQ]) ?_ ?_ ?_
     ·intro i o vs W hi hne ho he hBW hdep K hK;simp only[gT,qA4,gQ]at hK |-;have HSZ:=hid (show w3.heap.size<=W.heap.size from hBW.elim (fun h=>h.size) (fun h=>h.size));have pB:=fun (k:Nat) (hk:k<w3.heap.size) (hne:(Value.slice A2 n c2).ownBlock≠some k)=>(show W.heap[k]?=w3.heap[k]? from hBW.elim (fun h=>h.block k hk) (fun h=>h.block k hk fun e=>hne e.symm));have C0W:=hid ((World.cell?_of_block (w:=w3) (a:=⟨P,0,none⟩) (pB P HPV.out (fun e=>by have:=(HRB.out P e).1;have:=PZ.out;omega))).trans S2.out.c0);have XW:=hid (qBG X2.out (pB hz X2.out.2.2 (fun e=>by have:=HRZ.out hz e;omega)) HSZ.out);have LXW:=hid (fun (hb:Below w3.heap.size w3 W)=>LX.out.calls hb);have DEP:=hid hdep;clear pB hdep;obtain rfl|rfl|rfl|rfl|rfl|rfl|rfl|rfl|rfl|rfl|rfl|rfl:=c12_ hi<;>simp only[gE]at ho<;>subst ho
      iterate 2 ·rw[if_pos (by rfl)];simp only[gQ]at hK;have HK:=hid hK;clear hK he hBW hi hne;go_simp;exact HK.out _ _ (by first|rfl|simp[rowP]) bR
      ·have e1:vs 1=_:=dq he 1;rw[e1]at hK |-;rw[if_pos (by rfl)];simp only[gQ]at hK;have HK:=hid hK;clear hK he hBW hi hne;go_simp;exact HK.out _ _ (by first|rfl|simp[rowP]) bR
      ·have e2:vs 2=_:=dq he 2;rw[e2]at hK |-;rw[if_pos (by rfl)];simp only[gQ]at hK;have HK:=hid hK;clear hK he hBW hi hne;go_simp;exact HK.out _ _ (by first|rfl|simp[rowP]) bR
      ·have e3:vs 3=_:=dq he 3;rw[e3]at hK |-;rw[if_pos (by rfl)];simp only[gQ]at hK;have HK:=hid hK;clear hK he hBW hi hne;have c0':=C0W.out;go_simp;exact HK.out _ _ rfl bR
      ·rw[if_pos (by rfl)];simp only[gQ]at hK;have HK:=hid hK;clear hK he hBW hi hne;obtain⟨⟨_,c0,c1,c2,c3,c4,c5,c6,c7,c8,c9,c10,c11,c12,c13,c14⟩,_,_⟩:=XW.out;go_simp;exact HK.out _ _ rfl bR
      ·have e5:vs 5=_:=dq he 5;rw[e5]at hK |-;rw[if_pos (by rfl)];simp only[gQ]at hK;have HK:=hid hK;clear hK he hBW hi hne;have CPW:=CP.out W (LXW.out (DEP.out (by kernel_rfl)));unfold Pk.val at CPW;go_simp;go_at_call 16
       refine CPW.mono ?_;rintro en w9 ⟨q,rfl,ha,hq,h⟩;go_simp;exact HK.out _ _ ⟨q,rfl,ha,hq.more HSZ.out⟩ h
      iterate 2 ·rw[if_pos (by rfl)];simp only[gQ]at hK;have HK:=hid hK;clear hK he hBW hi hne;go_simp;exact HK.out _ _ (by first|rfl|simp[rowP]) bR
      ·obtain⟨q6,e6,ha6,ho6⟩:=dq he 6;rw[e6]at hK |-;have A6:=hid ha6;have O6:=hid ho6;clear ha6 ho6;have e7:vs 7=_:=dq he 7;rw[e7]at hK |-;have e8:vs 8=_:=dq he 8;rw[e8]at hK |-;rw[if_pos (by rfl)];simp only[gQ]at hK;have HK:=hid hK;clear hK he hBW hi hne;unfold Pk.val;go_simp;exact HK.out _ _ ⟨q6,rfl,A6.out,O6.out⟩ bR
      ·obtain⟨q9,e9,ha9,ho9⟩:=dq he 9;rw[e9]at hK |-;have A9:=hid ha9;have O9:=hid ho9;clear ha9 ho9;rw[if_pos (by rfl)];simp only[gQ]at hK;have HK:=hid hK;clear hK he hBW hi hne;unfold Pr.cells Pk.cells;go_simp;have BA:=(Below.refl W.heap.size W).alloc lR (.cells (Pr.cells ⟨q9,rp,pr⟩).toArray 161);exact HK.out _ _ ⟨q9,W.heap.size,rfl,A9.out,O9.out.keepB BA.size (fun b _ h2=>BA.block b h2),qYY W _,HSZ.out,by simp⟩ BA
      ·exact absurd rfl hne
     ·intro o vs W ho he hBW K hK;simp only[gT,qA4,gQ]at hK |-;have BW:=hid hBW;simp only[gE]at ho;subst ho;have e4:vs 4=_:=dq he 4;rw[e4]at hK |-;obtain⟨q10,g10,e10,ha10,ho10,hr10,_,_⟩:=dq he 10;rw[e10]at hK |-;have A10:=hid ha10;have O10:=hid ho10;have R10:=hid hr10;clear ha10 ho10 hr10;rw[if_pos (by rfl)];simp only[gQ]at hK;have HK:=hid hK;clear hK he hBW;have OW:=(S2.out.then BW.out).own;refine qAM (P:=Tryz.prog) W _ _ 124 rfl base 161 _ _ 17 _ (by rfl) (by rfl) (by rfl) (by rfl) (by rfl) (by rfl) (by decide) qG7 qG8 (.slice A2 n c2) n (Lc.flatMap Pr.cells) rfl (HNL.out ▸ OW) W.heap.size (some ⟨g10,0,none⟩) 1 [⟨q10,rp,pr⟩] 1 rfl rfl R10.out (by have:=HNN.out;simp;omega) (by decide) (Nat.le_trans S2.out.hb BW.out.size) ?_;intro v9 w9 ho9 hg9 hl9;exact HK.out _ _ (qV8 S2.out BW.out A10.out O10.out LX.out HNL.out ho9 hg9 hl9) hg9
     ·intro vs W hall hRel;obtain⟨q,NoQ,ho,ha,hq,k1,k2,k3⟩:∃(q:Pk) (NoQ:Nat->Prop),Own Pr.cells 17 base 161 (vs 11) (Lc++[(⟨q,rp,pr⟩:Pr)]) W/\Alike x q/\Hangs NoQ q W/\(∀b,NoQ b->w3.heap.size<=b)/\(∀g,(vs 11).ownBlock=some g -> ¬NoQ g)/\((vs 11).ownBlock=(Value.slice A2 n c2).ownBlock \/ ∃g,(vs 11).ownBlock=some g/\w3.heap.size<=g):=hall 11 (by decide);have e0:vs 0=.pointer (some ⟨P,0,none⟩):=hall 0 (by decide);simp only[gT,qA4,gQ];rw[e0];have pP:W.heap[P]?=w3.heap[P]?:=hRel.block P HPV.out (fun e=>by have:=(HRB.out P e.symm).1;have:=PZ.out;omega);have cP:=(World.cell?_of_block (w:=w3) (a:=⟨P,0,none⟩) pP).trans S2.out.c0;have fP:=(World.frozen?_of_block (w:=w3) (a:=⟨P,0,none⟩) pP).trans FZ.out;have S3:=S2.out.more (q:=q) (r:=rp) (p:=pr) hRel ho hq k1 k2 k3;obtain⟨A9,c9,e11⟩:=qAG ho;rw[e11]at S3 |-;have S4:=hid (show PoolSt w0 P mb base I (L++(L'++[(⟨q,rp,pr⟩:Pr)])).length (L++(L'++[(⟨q,rp,pr⟩:Pr)])) (fun b=>No b \/ NoQ b) (.slice A9 (Lc++[(⟨q,rp,pr⟩:Pr)]).length c9) (W.setCell ⟨P,0,none⟩ (.slice A9 (Lc++[(⟨q,rp,pr⟩:Pr)]).length c9)) from by
       have e1:L++(L'++[(⟨q,rp,pr⟩:Pr)])=Lc++[(⟨q,rp,pr⟩:Pr)]:=by rw[<- List.append_assoc,<- HLC.out]
       have e2:N+1=(Lc++[(⟨q,rp,pr⟩:Pr)]).length:=by rw[List.length_append,HNL.out,HNQ.out];rfl
       rw[e1,<- e2];rw[<- e2]at S3;exact S3)
      have C4:=hid (CN.out q ha);generalize (Lc++[(⟨q,rp,pr⟩:Pr)]).length=n4 at *;generalize vs 1=u141,vs 2=u142,vs 3=u143,vs 4=u144,vs 5=u145,vs 6=u146,vs 7=u147,vs 8=u148,vs 9=u149,vs 10=u150;clear hall hRel ho ha hq k1 k2 k3 e0 e11 pP S3 S2 X2 CP LX;go_wp2_with fail
      go_roundw
      case rel=>exact⟨i+1,L'++[(⟨q,rp,pr⟩:Pr)],_,_,by omega,by go_num,S4.out,C4.out,MN9.out⟩
      case measure=>simp[intOf];omega
  ·obtain rfl:i=nl:=by omega
   have j1:¬(i:Int)<(i:Int):=by omega
   have CF:=hid (show qCK l L' rp pr by have:=CO.out;rwa [List.take_of_length_le (by have:=HNL0.out;omega)]at this);have MF:=hid (show l.all mayP=true from List.all_eq_true.2 fun y hy=>MA.out y (by rw[List.take_of_length_le (by have:=HNL0.out;omega)];exact hy));clear CO MA;go_wp2_with fail
   go_ret;exact⟨fun _=>⟨rfl,L',No,v,S0.out,CF.out⟩,(fun h=>by rw[MF.out]at h;cases h),S0.out.old⟩
