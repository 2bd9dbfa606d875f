/- PoolNew, PoolGet, IxGet -/
import Derived.Test.YteobmfpbgnmffaaGreatDoorT21
set_option linter.unusedVariables false
set_option maxHeartbeats 16000000
set_option maxRecDepth 100000
open Go.Lib (hid)
set_option linter.unusedSimpArgs false
namespace Go.Proofs.YteobmfpbgnmffaaGreatDoor
open Go.RowKit Go.Shelf
section
def rpOk (r:Rp) : Bool := decide (0<=r.prio) && decide (r.prio<=1024) && r.pk.all mayP
def qB4 (repos:List Rp)(ins:List Pk) : Int := if 16<repos.length \/ 256<ins.length+qBD repos then 40 else if ins.all mayP && repos.all rpOk then 0 else 4
theorem qCS {repos:List Rp}{ins:List Pk}(h:16<repos.length \/ 256<ins.length+qBD repos) : qB4 repos ins=40 := if_pos h
theorem qDS {repos:List Rp}{ins:List Pk}(h:¬(16<repos.length \/ 256<ins.length+qBD repos)) : qB4 repos ins=if ins.all mayP && repos.all rpOk then 0 else 4 := if_neg h
def allP (repos:List Rp)(ins:List Pk) : List Pk := ins++repos.flatMap Rp.pk
def qB9 (l:List Pk)(L:List Pr) : Prop := L.length=l.length /\ ∀(i:Nat) (h:i<l.length) (h':i<L.length),Alike l[i] L[i].pk
theorem qB9.of {l:List Pk}{L:List Pr}{rp pr:Int}(h:qCK l L rp pr) : qB9 l L := ⟨h.1,fun i h1 h2=>(h.2 i h1 h2).1⟩
theorem qB9.app {l l2:List Pk}{L L2:List Pr}{rp pr:Int}(h:qB9 l L)(h2:qCK l2 L2 rp pr) : qB9 (l++l2) (L++L2) := by
 refine⟨by rw[List.length_append,List.length_append,h.1,h2.1],fun i hi hi' => ?_⟩;by_cases hlt:i<l.length
 ·rw[List.getElem_append_left hlt,List.getElem_append_left (by rw[h.1];exact hlt)];exact h.2 i hlt (by rw[h.1];exact hlt)
 ·rw[List.getElem_append_right (by omega),List.getElem_append_right (by rw[h.1];omega)];rw[List.length_append]at hi hi';have h3:=h2.2 (i - l.length) (by omega) (by have:=h2.1;omega);simp only[h.1];exact h3.1
theorem qHW (l:List Rp)(ins:List Pk) : (allP l ins).length=ins.length+qBD l := by
 unfold allP qBD;rw[List.length_append,List.length_flatMap]
theorem qIV {l:List Rp}{ins:List Pk}{k:Nat}(hk:k<l.length) : allP (l.take (k+1)) ins=allP (l.take k) ins++l[k].pk := by
 unfold allP;rw[List.take_succ_eq_append_getElem hk,List.flatMap_append];simp
theorem qN0 {l:List Rp}{ins:List Pk}{r:Rp}(hr:r∈l){x:Pk}(hx:x∈r.pk) : x∈allP l ins := List.mem_append_right _ (List.mem_flatMap.2 ⟨r,hr,hx⟩)
theorem qDJ (l:List Rp)(k:Nat) : qBD (l.take k)<=qBD l := by
 have h:qBD l=qBD (l.take k)+qBD (l.drop k):=by
  unfold qBD;rw[<- List.sum_append,<- List.map_append,List.take_append_drop]
 omega
def qCQ (repos:List Rp)(ins:List Pk)(w:World)(e:Ending)(w':World) : Prop :=
 (qB4 repos ins=0 -> ∃(P:Nat) (L:List Pr),e=.returned (.tuple #[.pointer (some ⟨P,0,none⟩),.int .i64 0])/\PoolAt P (ins.length:Int) L w'/\qB9 (allP repos ins) L)/\(qB4 repos ins≠0->e=.returned (.tuple #[.pointer none,.int .i64 (qB4 repos ins)]))/\Below w.heap.size w w'
theorem qCQ.no {repos:List Rp}{ins:List Pk}{w w':World}{n:Int}(h:qB4 repos ins=n)(hn:n≠0)(hb:Below w.heap.size w w') : qCQ repos ins w (.returned (.tuple #[.pointer none,.int .i64 n])) w' :=
 ⟨fun e=>absurd (h.symm.trans e) hn,fun _=>by rw[h],hb⟩
theorem PoolSt.start {w0 W:World}(hb:Below w0.heap.size w0 W)(I:Int) : PoolSt w0 (W.heap.size+1) W.heap.size (W.heap.size+2) I 0 [] (fun _=>False) (.slice none 0 0) ((W.alloc (.map #[] 0)).alloc (.cells #[.slice none 0 0,.int .i64 I,.map (some W.heap.size)] 126)) := by
 have z1:(W.alloc (.map #[] 0)).heap.size=W.heap.size+1:=by simp
 have c:∀i v,(#[.slice none 0 0,.int .i64 I,.map (some W.heap.size)]:Array Value)[i]?=some v->((W.alloc (.map #[] 0)).alloc (.cells #[.slice none 0 0,.int .i64 I,.map (some W.heap.size)] 126)).cell? ⟨W.heap.size+1,i,none⟩=some v:=fun i v hv=>(World.cell?_alloc_at _ _ _ _ z1.symm).trans hv
 have G0:(W.alloc (.map #[] 0)).ownsGroups (H:=Unit) Tryz.prog 9 (W.heap.size+2) 3 .i64 W.heap.size 0 (.map []) :=
  ⟨#[],0,(Go.MapKept.heap_alloc W _).1,⟨by simp,Go.MapKept.stamped_empty 0,by simp⟩,Nat.le_refl _,rfl,by omega,by simp,by simp⟩
 have S0:=World.Shuns_made W (fun g=>False \/ (Value.slice none 0 0).ownBlock=some g);have ga:=World.grownBy_alloc (W.alloc (.map #[] 0)) (.cells #[.slice none 0 0,.int .i64 I,.map (some W.heap.size)] 126) none;exact⟨(hb.alloc hb.size _).alloc (by rw[z1];have:=hb.size;omega) _,Nat.le_succ_of_le hb.size,hb.size,by omega,by omega,by omega,by simp,c 0 _ rfl,c 1 _ rfl,c 2 _ rfl,fun i hi=>by simp[go_sem],Own.nil_ _ _ _,by simp,by simp[Value.ownBlock],fun g h=>h.elim,⟨_,G0.kept ga (by simp) (S0.rowsOff (by simp))⟩,S0.kept ga (by simp) (by simp)⟩
theorem qG6 (RA:Option Addr)(rc:Nat)(repos:List Rp)(IA:Option Addr)(ic:Nat)(ins:List Pk)(w:World)(hI:PkIn w)(hr:RpRow w.heap.size w RA rc repos)(hi:PRow w.heap.size w IA ic ins)(hd:∀x∈allP repos ins,x.deepOk/\x.few)(ht:ins.length+qBD repos<=1000000)(hk:repos.length<=1000000) :
  Calls Tryz.prog 23 #[.slice RA repos.length rc,.slice IA ins.length ic] w (qCQ repos ins w):=by
 have HR:=hid (fun W (hb:Below w.heap.size w W)=>hr.calls hb);have HRW:=hid hr;have HIN:=hid hi;have HD:=hid hd;have HI:=hid hI;obtain⟨ni,hni⟩:∃n,n=ins.length:=⟨_,rfl⟩;obtain⟨nr,hnr⟩:∃n,n=repos.length:=⟨_,rfl⟩;have HNI:=hid hni;have HNR:=hid hnr;rw[<- hni]at ht |-;rw[<- hnr]at hk |-;have HT:=hid ht;have hni2:ni<=1000000:=by omega
 clear hr hi hd hI hni hnr;have hmm:∀(t:TypeId) (w:World),(Instr.makeMap t none).run Tryz.prog w=.ok (.map (some w.heap.size)) (w.alloc (.map #[] 0)):=fun _ _=>rfl
 go_enter Tryz.func23,Tryz.ntmps23
 go_wp2_with fail
 go_loopw[6,18] (fun n iv wr => ∃(i m:Nat),i<=nr/\iv=.int .i64 (i:Int)/\n=.int .i64 (m:Int)/\m=ni+qBD (repos.take i)/\Below w.heap.size w wr) (fun _ iv _=>nr - (intOf iv).toNat)
 case atStart=>exact⟨0,ni,Nat.zero_le _,rfl,rfl,by simp[qBD],Below.refl _ _⟩
 case round =>
  obtain⟨i,m,hi,rfl,rfl,hm,hB⟩:=hrel;rename World=>wr
  have HM:=hid hm;have HB:=hid hB;have hmb:m<=1000000:=by have:=qDJ repos i;have:=HT.out;omega
  clear hm hB;by_cases hlt:i<nr
  ·have hil:i<repos.length:=by have:=HNR.out;omega
   obtain⟨b,o,hadr,hbl,d0,d1⟩:=(HR.out wr HB.out).at_ hil
   have HM2:=hid (show m+(repos[i]).pk.length=ni+qBD (repos.take (i+1)) by rw[qBT repos i hil,HM.out];omega);have hpb:(repos[i]).pk.length<=1000000:=by have h1:=qDJ repos (i+1);have h2:=qBT repos i hil;have:=HT.out;omega
   generalize repos[i]=r at *;obtain⟨np,hnp⟩:∃np,np=r.pk.length:=⟨_,rfl⟩;rw[<- hnp]at d1 HM2 hpb;subst hadr;clear hnp hil;have j0:(0:Int)<=(i:Int):=by omega
   have j1:(i:Int)<(nr:Int):=by omega
   have B2:=hid (HB.out.alloc HB.out.size (.cells #[.int .i64 r.prio,.slice r.A np r.c] 66));go_wp2_with fail
   go_roundw
   case rel=>exact⟨i+1,m+np,by omega,by go_num,by go_num,HM2.out,B2.out⟩
   case measure=>simp[intOf];omega
  ·obtain rfl:i=nr:=by omega
   have HMT:=hid (show m=ni+qBD repos by rw[HM.out,List.take_of_length_le (by have:=HNR.out;omega)]);have j1:¬(i:Int)<(i:Int):=by omega
   clear HM;by_cases q0:(16:Int)<(i:Int)
   ·have EE:=hid (show qB4 repos ins=40 from qCS (.inl (by have:=HNR.out;omega)));go_wp2_with fail
    go_ret2
    exact qCQ.no EE.out (by decide) HB.out
   by_cases q1:(256:Int)<(m:Int)
   ·have EE:=hid (show qB4 repos ins=40 from qCS (.inr (by have:=HNI.out;have:=HMT.out;omega)));go_wp2_with fail
    go_ret2
    exact qCQ.no EE.out (by decide) HB.out
   have ER:=hid (show qB4 repos ins=if ins.all mayP && repos.all rpOk then 0 else 4 from qDS (by have:=HNR.out;have:=HNI.out;have:=HMT.out;omega));have SS:=hid (PoolSt.start HB.out (ni:Int));have HT2:=hid (show ins.length+qBD repos<=256 by have:=HNI.out;have:=HMT.out;omega);have HM9:=hid (show ∀(k:Nat) (hk:k<=repos.length) (L:List Pr),qB9 (allP (repos.take k) ins) L->L.length=ins.length+qBD (repos.take k) from fun k hk L h=>by rw[h.1,qHW]);have AD:=hid (fun (P mb base:Nat) (I:Int) (L:List Pr) (No:Nat->Prop) (v:Value) A c (l:List Pk) rp pr (W:World) (h1:PRow w.heap.size w A c l) (h2:∀x∈l,x.deepOk/\x.few) h3 h4=>qLT (w0:=w) HI.out (P:=P) (mb:=mb) (base:=base) (I:=I) (L:=L) (No0:=No) (v0:=v) A c l rp pr W h1 h2 h3 h4);clear hmb HMT HR;go_wp2_with fail
   generalize (wr.alloc (.map #[] 0)).alloc (.cells #[.slice none 0 0,.int .i64 (ni:Int),.map (some wr.heap.size)] 126)=w1 at *;generalize wr.heap.size+1=P at *;generalize wr.heap.size+2=base at *;generalize wr.heap.size=mb at *;have AD0:=AD.out P mb base ni [] _ _ IA ic ins (-1) 1025 w1 HIN.out (fun x hx=>HD.out x (List.mem_append_left _ hx)) SS.out (by have:=HT2.out;simp;omega);rw[<- HNI.out]at AD0;have AD0:=hid AD0;clear q1;refine AD0.out.mono ?_;rintro en w2 ⟨hy,hn,hb⟩;have B2:=hid hb;clear hb SS AD0 HB;cases hm:ins.all mayP
   ·obtain rfl:=hn hm;have EE:=hid (show qB4 repos ins=4 by rw[ER.out,hm];rfl);clear hy hn hm;go_wp2_with fail
    go_ret2
    exact qCQ.no EE.out (by decide) B2.out
   ·obtain⟨rfl,L1,No,v,hS,hC⟩:=hy hm;rw[List.nil_append]at hS;have S1:=hid hS;have C1:=hid (qB9.of hC);have ER:=hid (show qB4 repos ins=if repos.all rpOk then 0 else 4 by rw[ER.out,hm];simp);clear hy hn hm hS hC;go_wp2_with fail
    go_loopw[48] (fun iv wx => ∃(k:Nat) (L:List Pr) (No:Nat->Prop) (v:Value),k<=i/\iv=.int .i64 (k:Int)/\PoolSt w P mb base (ni:Int) L.length L No v wx/\qB9 (allP (repos.take k) ins) L/\Hid (∀r∈repos.take k,rpOk r=true)) (fun iv _=>i - (intOf iv).toNat)
    case atStart=>exact⟨0,L1,No,v,Nat.zero_le _,rfl,S1.out,by simpa [allP] using C1.out,hid (by simp)⟩
    case round =>
     obtain⟨k,L,No,v,hk2,rfl,hS,hA,HOK⟩:=hrel;rename World=>wx
     have S:=hid hS;have AA:=hid hA;clear hS hA S1 C1;by_cases hlt2:k<i
     ·have hkl:k<repos.length:=by have:=HNR.out;omega
      obtain⟨b,o,hadr,hbl,d0,d1⟩:=(HRW.out.calls S.out.old).at_ hkl
      have PR:=hid (HRW.out.pks _ (List.getElem_mem hkl));have DR:=hid (show ∀x∈(repos[k]).pk,x.deepOk/\x.few from fun x hx=>HD.out x (qN0 (List.getElem_mem hkl) hx));have HLN:=hid (show L.length+(repos[k]).pk.length<=256 by have h1:=qDJ repos (k+1);have h2:=qBT repos k hkl;have h3:=HM9.out k (Nat.le_of_lt hkl) L AA.out;have:=HT2.out;omega);have WF:=HRW.out.wf _ (List.getElem_mem hkl);have BAD:=hid (show rpOk (repos[k])=false->qB4 repos ins=4 from fun h=>by rw[ER.out,if_neg];intro h2;rw[List.all_eq_true.1 h2 _ (List.getElem_mem hkl)]at h;cases h);have NXT:=hid (fun (h:rpOk (repos[k])=true)=>show ∀r∈repos.take (k+1),rpOk r=true from fun r hr=>by
       rw[List.take_succ_eq_append_getElem hkl]at hr;rcases List.mem_append.1 hr with hr|hr
       ·exact HOK.out r hr
       ·simp at hr;subst hr;exact h)
      have ALL:=hid (fun (L2:List Pr) rp pr (h:qCK (repos[k]).pk L2 rp pr)=>show qB9 (allP (repos.take (k+1)) ins) (L++L2) by rw[qIV hkl];exact AA.out.app h);generalize repos[k]=r at *;obtain⟨np,hnp⟩:∃np,np=r.pk.length:=⟨_,rfl⟩;rw[<- hnp]at d1 HLN;have HNP:=hid hnp;subst hadr;clear hnp hkl;have j0:(0:Int)<=(k:Int):=by omega
      have j2:(k:Int)<(i:Int):=by omega
      have S2:=hid (S.out.then ((Below.refl wx.heap.size wx).alloc lR (.cells #[.int .i64 r.prio,.slice r.A np r.c] 66)));by_cases q2:r.prio<0
      ·have EE:=hid (BAD.out (by simp[rpOk];intro h;omega));clear WF;go_wp2_with fail
       go_ret2
       exact qCQ.no EE.out (by decide) S2.out.old
      by_cases q3:1024<r.prio
      ·have EE:=hid (BAD.out (by simp[rpOk];intro h;omega));clear WF;go_wp2_with fail
       go_ret2
       exact qCQ.no EE.out (by decide) S2.out.old
      have RP:=hid (show rpOk r=r.pk.all mayP by simp[rpOk];intro _;omega);have AD0:=AD.out P mb base ni L _ _ r.A r.c r.pk (k:Int) r.prio _ PR.out DR.out S2.out (by have:=HLN.out;have:=HNP.out;omega);rw[<- HNP.out]at AD0;have AD0:=hid AD0;clear WF S;go_wp2_with fail
      go_at_call 82
      refine AD0.out.mono ?_;rintro en w3 ⟨hy,hn,hb⟩;have B3:=hid hb;clear hb S2 AD0;cases hm:r.pk.all mayP
      ·obtain rfl:=hn hm;have EE:=hid (BAD.out (by rw[RP.out];exact hm));clear hy hn hm;go_wp2_with fail
       go_ret2
       exact qCQ.no EE.out (by decide) B3.out
      ·obtain⟨rfl,L2,No2,v2,hS,hC⟩:=hy hm;have S3:=hid hS;have A3:=hid (ALL.out L2 _ _ hC);have N3:=hid (NXT.out (by rw[RP.out];exact hm));clear hy hn hm hS hC;go_wp2_with fail
       go_roundw
       case rel=>exact⟨k+1,L++L2,No2,v2,by omega,by go_num,S3.out,A3.out,hid N3.out⟩
       case measure=>simp[intOf];omega
     ·obtain rfl:k=i:=by omega
      have j2:¬(k:Int)<(k:Int):=by omega
      have EE:=hid (show qB4 repos ins=0 by rw[ER.out,if_pos];exact List.all_eq_true.2 fun r hr=>HOK.out r (by rw[List.take_of_length_le (by have:=HNR.out;omega)];exact hr));have AE:=hid (show qB9 (allP repos ins) L by have:=AA.out;rwa [List.take_of_length_le (by have:=HNR.out;omega)]at this);go_wp2_with fail
      go_ret2
      exact⟨fun _=>⟨P,L,rfl,HNI.out ▸ S.out.at_,AE.out⟩,(fun h=>absurd EE.out h),S.out.old⟩
end
section
theorem qTD {l:qAF}(h:qCI l=true) : l.length<=64 := (qEL.1 h).2.1
theorem qLG {l:qAF}(h:qBM l=true) : l.length<=64 := by
 unfold qBM at h;simp only[Bool.and_eq_true,decide_eq_true_eq]at h;exact h.2.1
theorem qQI {e:Evr}{dep:Bool}(h:mayB e dep=true) : e.ver.length<=64/\e.rel.length<=64 := by
 unfold mayB at h;simp only[Bool.and_eq_true,Bool.or_eq_true,decide_eq_true_eq]at h;refine⟨qTD h.2.2.1,?_⟩;rcases h.2.2.2 with h|⟨_,h⟩
 ·exact qTD h
 ·rw[List.isEmpty_iff]at h;rw[h];simp
theorem qE1 {d:Dp}(h:qAL d=true) : d.small := by
 unfold qAL at h;simp only[Bool.and_eq_true]at h;have h1:=qLG h.1;have h2:=h.2.2;refine⟨by omega,?_⟩;split at h2
 ·unfold qDO at h2;simp only[Bool.and_eq_true,List.isEmpty_iff]at h2;rw[h2.2.1,h2.2.2];simp
 ·simp only[Bool.and_eq_true]at h2;have:=qQI h2.2;exact⟨by omega,by omega⟩
theorem qCC {p:Pk}(h:mayP p=true) : p.small := by
 have hm:=(qFJ p).1 h;have he:=qQI hm.e;have hn:=qLG hm.n;have sz:=qA7;have he1:p.ver.toList.length<=64:=he.1;have he2:p.rel.toList.length<=64:=he.2;rw[sz]at hn he1 he2;have h1:=hm.hpv.1;have h2:=hm.hob.1;have h3:=hm.hfi.1;have h4:=hm.v;refine⟨by omega,by omega,by omega,by omega,by omega,by omega,by omega,fun d hd=>qE1 (hm.hpv.2 d hd),fun d hd=>qE1 (hm.hob.2 d hd),fun s hs => ?_⟩;have:=hm.hfi.2 s hs;unfold qCT qCF at this;simp only[Bool.and_eq_true]at this;have h5:=qLG this.1;rw[sz]at h5;omega
theorem qI6 {p:Pk}(h:mayP p=true) : p.evr.ok := by
 have:=qQI ((qFJ p).1 h).e;exact⟨by omega,by omega⟩
structure Pool (P:Nat)(I:Int)(L:List Pr)(W:World) : Prop where
 at_:PoolAt P I L W
 may:∀x∈L,mayP x.pk=true/\x.pk.few
theorem Pool.then {P:Nat}{I:Int}{L:List Pr}{W W':World}(h:Pool P I L W)(hb:Below W.heap.size W W') : Pool P I L W' := ⟨h.at_.then hb,h.may⟩
theorem qQJ {p q:Pk}(h:Alike p q)(hf:p.few) : q.few :=
 ⟨by rw[h.prov];exact hf.nprov,by rw[h.obs];exact hf.nobs,by rw[h.files];exact hf.nfiles,by rw[h.req];exact hf.req,by rw[h.con];exact hf.con,by rw[h.rcm];exact hf.rcm,by rw[h.sup];exact hf.sup,by rw[h.sug];exact hf.sug,by rw[h.enh];exact hf.enh⟩
theorem qHG {repos:List Rp}{ins:List Pk}(h:qB4 repos ins=0):∀x∈allP repos ins,mayP x=true := by
 unfold qB4 at h;split at h
 ·cases h
 ·split at h
  ·rename_i h2
   rw[Bool.and_eq_true]at h2;intro x hx;rcases List.mem_append.1 hx with hx|hx
   ·exact List.all_eq_true.1 h2.1 x hx
   ·obtain⟨r,hr,hx⟩:=List.mem_flatMap.1 hx;have h3:=List.all_eq_true.1 h2.2 r hr;unfold rpOk at h3;rw[Bool.and_eq_true]at h3;exact List.all_eq_true.1 h3.2 x hx
  ·cases h
theorem Pool.of {P:Nat}{I:Int}{L:List Pr}{W:World}{repos:List Rp}{ins:List Pk}(h:PoolAt P I L W)(ha:qB9 (allP repos ins) L)(he:qB4 repos ins=0)(hf:∀x∈allP repos ins,x.few) : Pool P I L W := by
 refine⟨h,fun x hx => ?_⟩;obtain⟨i,hi,rfl⟩:=List.getElem_of_mem hx;have hi2:i<(allP repos ins).length:=by rw[<- ha.1];exact hi
 have hA:=ha.2 i hi2 hi;exact⟨hA.may.trans (qHG he _ (List.getElem_mem hi2)),qQJ hA (hf _ (List.getElem_mem hi2))⟩
theorem qUX {B:Nat}{A:Option Addr}{c:Nat}{L:List Pr}{W:World}(h:Rd Pr.cells 17 B A c L W){k:Nat}(hk:k<L.length){b o:Nat}(ha:A=some ⟨b,o,none⟩){x:Pk}(hx:L[k].pk=x) : W.cell? ⟨b,o+k * 17,none⟩=some (.string x.name)/\W.cell? ⟨b,o+k * 17+1,none⟩=some (.int .i64 x.epoch)/\W.cell? ⟨b,o+k * 17+2,none⟩=some (.string x.ver)/\W.cell? ⟨b,o+k * 17+3,none⟩=some (.string x.rel)/\W.cell? ⟨b,o+k * 17+4,none⟩=some (.int .u8 x.arch)/\W.cell? ⟨b,o+k * 17+5,none⟩=some (.string x.vendor)/\W.cell? ⟨b,o+k * 17+6,none⟩=some (.slice x.provA x.prov.length x.provC)/\W.cell? ⟨b,o+k * 17+7,none⟩=some (.slice x.reqA x.req.length x.reqC)/\W.cell? ⟨b,o+k * 17+8,none⟩=some (.slice x.conA x.con.length x.conC)/\W.cell? ⟨b,o+k * 17+9,none⟩=some (.slice x.obsA x.obs.length x.obsC)/\W.cell? ⟨b,o+k * 17+10,none⟩=some (.slice x.rcmA x.rcm.length x.rcmC)/\W.cell? ⟨b,o+k * 17+11,none⟩=some (.slice x.supA x.sup.length x.supC)/\W.cell? ⟨b,o+k * 17+12,none⟩=some (.slice x.sugA x.sug.length x.sugC)/\W.cell? ⟨b,o+k * 17+13,none⟩=some (.slice x.enhA x.enh.length x.enhC)/\W.cell? ⟨b,o+k * 17+14,none⟩=some (.slice x.filesA x.files.length x.filesC) := by
 obtain⟨b',o',e,_,hc⟩:=h.cells hk;rw[ha]at e;cases e
 subst hx;exact⟨hc 0 _ rfl,hc 1 _ rfl,hc 2 _ rfl,hc 3 _ rfl,hc 4 _ rfl,hc 5 _ rfl,hc 6 _ rfl,hc 7 _ rfl,hc 8 _ rfl,hc 9 _ rfl,hc 10 _ rfl,hc 11 _ rfl,hc 12 _ rfl,hc 13 _ rfl,hc 14 _ rfl⟩
theorem qUZ (A:Option Addr)(c:Nat)(i:Int)(n:Nat)(w:World)(hn:n<=1000000) : Calls Tryz.prog 102 #[.slice A n c,.int .i64 i] w fun e w'=>e=.returned (.bool (decide (0<=i/\i<(n:Int))))/\Below w.heap.size w w' := by
 by_cases h1:0<=i
 ·go_enter Tryz.func102,Tryz.ntmps102
  go_wp2_with fail
  go_ret;exact⟨by simp[h1],Below.refl _ _⟩
 ·go_enter Tryz.func102,Tryz.ntmps102
  go_wp2_with fail
  go_ret;exact⟨by simp[h1];intro h;omega,Below.refl _ _⟩
theorem qE6 {P:Nat}{I:Int}{L:List Pr}{w:World}(h:PoolAt P I L w) : Calls Tryz.prog 61 #[.pointer (some ⟨P,0,none⟩)] w fun e w'=>e=.returned (.int .i64 (L.length : Int))/\Below w.heap.size w w' := by
 obtain⟨A,c,h0,_⟩:=h.row;clear h
 go_enter Tryz.func61,Tryz.ntmps61
 go_wp2_with fail
 go_ret;exact⟨rfl,Below.refl _ _⟩
end
section
theorem qOO (q:Pk)(d:Dp)(z:Int)(b:Nat)(W:World)(hL:q.Laid W.heap.size W)(hm:mayP q=true)(hb:DpAt W b d)(hd:d.evr.ok)(h1:0<=d.op/\d.op<=255) :
  Calls Tryz.prog 209 #[q.val,.int .i64 z,.pointer (some ⟨b,0,none⟩)] W fun e w'=>e=.returned (.bool (qC7 q d))/\Below W.heap.size W w':=by
 have b1:=(Below.refl W.heap.size W).alloc lR (.cells #[.string q.name,.int .i64 q.epoch,.string q.ver,.string q.rel,.int .u8 q.arch,.string q.vendor,.slice q.provA q.prov.length q.provC,.slice q.reqA q.req.length q.reqC,.slice q.conA q.con.length q.conC,.slice q.obsA q.obs.length q.obsC,.slice q.rcmA q.rcm.length q.rcmC,.slice q.supA q.sup.length q.supC,.slice q.sugA q.sug.length q.sugC,.slice q.enhA q.enh.length q.enhC,.slice q.filesA q.files.length q.filesC] 28);have PR:=hid (qON q d _ (hL.calls b1) (qCC hm) (qI6 hm) hd h1);obtain⟨_,c0,c1,c2,c3,c4⟩:=hb.calls b1;unfold Pk.val Dp.val at PR;unfold Pk.val;have B1:=hid b1;clear hL hm hb hd h1 b1;generalize qC7 q d=r at *
 go_enter Tryz.func209,Tryz.ntmps209
 go_wp2_with fail
 go_at_call 49
 refine PR.out.mono ?_;rintro e w2 ⟨rfl,h⟩;have hB:=B1.out.trans (h.mono (by simp));clear h;go_wp2_with fail
 go_ret;exact⟨rfl,hB⟩
theorem qFH : (Tryz.prog.info? 3).map (fun i=>(i.zero,i.size,i.bytes))=some (some (.int .i64 0),1,8) := by kernel_rfl
theorem qL5 {zs:List Int}{j:Nat}(h:j<zs.length)(p:Int->Bool) : (zs.take (j+1)).filter p=(zs.take j).filter p++(if p zs[j] then [zs[j]] else []) := by
 rw[List.take_succ_eq_append_getElem h,List.filter_append]
 congr 1
 rw[List.filter_cons];cases p zs[j]<;>rfl
theorem qGX (zs:List Int)(p:Int->Bool)(j:Nat) : ((zs.take j).filter p).length<=zs.length :=
 Nat.le_trans (List.length_filter_le _ _) (by rw[List.length_take];exact Nat.min_le_right _ _)
theorem qVI {X:Nat}{L:List Pk}{F:ByteArray->List Int}{w:World}(hX:IndexAt X L F w)(zs:List Int)(A:Option Addr)(c:Nat)(hz:Rd encI 1 w.heap.size A c zs w)(hl:∀z∈zs,∃k : Nat,z=(k:Int)/\k<L.length)(hn:zs.length<=1000000)(g:FuncId)(eg:∀args w,(callFunc g args).run Tryz.prog w=.ok (.enter g args) w)(cp:Array Value)(p:Pk->Bool)
  (hp:∀(k:Nat) (hk:k<L.length) W,Below w.heap.size w W->Calls Tryz.prog g (#[L[k].val,.int .i64 (k:Int)]++cp) W fun e w'=>e=.returned (.bool (p L[k]))/\Below W.heap.size W w') :
  Calls Tryz.prog 208 #[.pointer (some ⟨X,0,none⟩),.slice A zs.length c,.func (.func g) #[] cp] w fun e w' => ∃v,e=.returned v/\Own encI 1 w.heap.size 3 v (zs.filter fun z=>(L[z.toNat]?).any p) w'/\Below w.heap.size w w':=by
 obtain⟨A2,c2,h0,hr⟩:=hX.row;have HX:=hX.lt;have HR:=hid (fun W (hb:Below w.heap.size w W)=>show PRow W.heap.size W A2 c2 L from⟨(hr.below hb).more hb.size,fun q hq=>(hX.laid q hq).calls hb⟩);have H0:=hid h0;have HZ:=hid (fun W (hb:Below w.heap.size w W)=>(hz.below hb).more hb.size);have HL:=hid hl;have HP:=hid hp;have FS:=hid (fun j (h:j<zs.length)=>qL5 h (fun z=>(L[z.toNat]?).any p));have FL:=hid (fun j=>qGX zs (fun z=>(L[z.toNat]?).any p) j);have FA:=hid (show zs.take zs.length=zs from List.take_length);obtain⟨n,hn9⟩:∃n,n=zs.length:=⟨_,rfl⟩;rw[<- hn9]at hn FL FA |-;have HN:=hid hn9;obtain⟨i0,hi,hz0,hz1,hz2⟩:=info_parts qFH;clear hX hz hl hp hn9 hr
 go_enter Tryz.func208,Tryz.ntmps208
 go_wp2_with fail
 go_loopw[7,12] (fun v iv wr => ∃j:Nat,j<=n/\iv=.int .i64 (j:Int)/\Own encI 1 w.heap.size 3 v ((zs.take j).filter fun z=>(L[z.toNat]?).any p) wr/\Below w.heap.size w wr) (fun _ iv _=>n - (intOf iv).toNat)
 case atStart=>exact⟨0,Nat.zero_le _,rfl,Own.nil_ _ _ _,Below.refl _ _⟩
 case round =>
  obtain⟨j,hj,rfl,how,hB⟩:=hrel;rename World=>wr
  have OW:=hid how;have HB:=hid hB;have h0:=(hB.cell (p:=⟨X,0,none⟩) HX).trans H0.out;clear how hB;by_cases hlt:j<n
  ·have hjl:j<zs.length:=by have:=HN.out;omega
   obtain⟨b,o,hA,hb,e0⟩:=(HZ.out wr HB.out).int_at hjl;obtain⟨k,hk,hkl⟩:=HL.out _ (List.getElem_mem hjl);have FJ:=hid (FS.out j hjl);rw[hk]at FJ e0;obtain⟨b2,o2,hA2,hb2,d0,d1,d2,d3,d4,d5,d6,d7,d8,d9,d10,d11,d12,d13,d14⟩:=(HR.out wr HB.out).at_ hkl
   have CP:=hid (HP.out k hkl wr HB.out);rw[Int.toNat_natCast,List.getElem?_eq_getElem hkl,Option.any_some]at FJ;have F0:=hid (FL.out j);generalize L[k]=q at *;generalize p q=r at *;have i0':(0:Int)<=(j:Int):=by omega
   have i1:(j:Int)<(n:Int):=by omega
   have k0:(0:Int)<=(k:Int):=by omega
   have k1:(k:Int)<(L.length:Int):=by omega
   rw[hA];subst hA2;unfold Pk.val at CP;clear hA hjl hk hkl;go_wp2_with fail
   go_at_fn g
   refine CP.out.mono ?_;rintro e w9 ⟨rfl,h⟩;have OW9:=hid (Own.below OW.out h lR);have HB9:=hid (HB.out.trans (h.mono HB.out.size));clear h OW CP d0 d1 d2 d3 d4 d5 d6 d7 d8 d9 d10 d11 d12 d13 d14 e0 h0 HL HP;cases r
   ·go_wp2_with fail
    go_roundw
    case rel=>exact⟨j+1,by omega,by go_num,by rw[FJ.out];simpa using OW9.out,HB9.out⟩
    case measure=>simp[intOf];omega
   ·go_wp2_with (at_builtin;refine wpList_append_own _ rfl _ _ 42 rfl w.heap.size 3 i0 (.int .i64 0) 1 8 Tryz.underlying42 hi hz0 hz1 hz2 rfl (by decide) _ _ _ rfl (World.ownsRow.alloc OW9.out _) ⟨w9.heap.size,0,none⟩ 1 1 [.int .i64 (k:Int)] rfl rfl ?c1 ?c2 ?c3 ?c4 ?c5 ?c6)
    case c1=>exact cell_one_new _ _ _
    case c2=>simp[Value.oneCell']
    case c3=>have:=F0.out;unfold maxLen;omega
    case c4=>have:=F0.out;omega
    case c5=>simp only[World.size_alloc];have:=HB9.out.size;omega
    case c6 =>
     intro v' w6 ho6 hg6 _;have OV6:=hid (Own.snoc (x:=(k:Int)) ho6);have B6:=hid ((HB9.out.alloc HB9.out.size _).grown hg6 (by simp only[World.size_alloc];have:=HB9.out.size;omega) (fun j hj=>(World.ownsRow.lt OW9.out j hj).1));clear ho6 hg6;go_wp2_with fail
     go_roundw
     case rel=>exact⟨j+1,by omega,by go_num,by rw[FJ.out];exact OV6.out,B6.out⟩
     case measure=>simp[intOf];omega
  ·obtain rfl:j=n:=by omega
   have i1:¬(j:Int)<(j:Int):=by omega
   have OWE:=hid (FA.out ▸ OW.out);clear OW;go_wp2_with fail
   go_ret;exact⟨_,rfl,OWE.out,HB.out⟩
theorem qQN (zs:List Int) : zs.flatMap encI=zs.map (Value.int .i64) := by
 induction zs with
 | nil=>rfl
 | cons a l ih=>rw[List.flatMap_cons,List.map_cons,ih];rfl
theorem qQW {w:World}{base:Nat}{u:Value}{zs:List Int}(h:w.ownsInts base 3 .i64 u zs):∃A c,u=.slice A zs.length c/\Rd encI 1 w.heap.size A c zs w := by
 have h2:Own encI 1 base 3 u zs w:=by
  have:=h.1;unfold Own;rw[qQN];exact this
 exact h2.rd qAZ
def pvP (X mb db:Nat)(key:ByteArray)(zs:List Int)(i:Nat)(v:Value)(W:World) : Prop := match i with
 |0=>v=.pointer (some ⟨X,0,none⟩)
 |1=>v=.pointer (some ⟨X,0,none⟩)
 |2=>v=.pointer (some ⟨X,0,none⟩)
 |3=>v=.pointer (some ⟨X,1,none⟩)
 |4=>v=.map (some mb)
 |5=>v=.pointer (some ⟨db,0,none⟩)
 |6=>v=.string key
 | 7 => ∃A c,v=.slice A zs.length c/\Rd encI 1 W.heap.size A c zs W
 |8=>v=.func (.func 209) #[] #[.pointer (some ⟨db,0,none⟩)]
 | _=>False
theorem qV0 (X mb db:Nat)(key:ByteArray)(zs:List Int):∀i v w w',pvP X mb db key zs i v w->Below w.heap.size w w'->pvP X mb db key zs i v w' := by
 intro i v w w' h hb
 match i,h with
 |0,h|1,h|2,h|3,h|4,h|5,h|6,h=>exact h
 |7,h=>exact h.elim fun A h=>h.elim fun c h=>⟨A,c,h.1,(h.2.below hb).more hb.size⟩
 |8,h=>exact h
 | (k+9),h=>exact h.elim
theorem qIJ {X:Nat}{L:List Pk}{F:ByteArray->List Int}{w:World}(hX:IndexAt X L F w)(d:Dp)(hw:d.wf)(hd:d.evr.ok)(h1:0<=d.op/\d.op<=255)(hm:∀q∈L,mayP q=true)(hL:L.length<=1000000)(hF:∀s,∀z∈F s,∃k : Nat,z=(k:Int)/\k<L.length)(hn:∀s,(F s).length<=1000000) :
  Calls Tryz.prog 182 #[.pointer (some ⟨X,0,none⟩),d.val] w fun e w' => ∃v,e=.returned v/\Own encI 1 w.heap.size 3 v ((F (bs d.name)).filter fun z=>(L[z.toNat]?).any fun q=>qC7 q d) w'/\Below w.heap.size w w':=by
 obtain⟨mb,base,N,hmb,hNm,hc1,hg⟩:=hX.grp;have IX:=hid (fun W (hb:Below w.heap.size w W)=>hX.then hb);have GR0:=hid (fun W (hb:Below w.heap.size w W)=>hg.then hb);have HNX:=hid hNm;have HKL:=hid (show (bs d.name).size<=maxLen from qI4 hw);have HLT:=hid hX.lt;have C1:=hid hc1;have b1:=(Below.refl w.heap.size w).alloc lR (.cells #[.string (bs d.name),.int .u8 d.op,.int .i64 d.evr.epoch,.string (bs d.evr.ver),.string (bs d.evr.rel)] 37);have DA:=hid (DpAt.new w d);have HM:=hid hm;have HD:=hid hd;have HO:=hid h1;have HLN:=hid hL;have HZ:=hid (show ∀z∈F (bs d.name),∃k:Nat,z=(k:Int)/\k<L.length from hF _);have HF9:=hid (show (F (bs d.name)).length<=1000000 from hn _);clear hmb hNm hc1 hg hX hw hm hd h1 hL hF hn;unfold Dp.val
 go_enter Tryz.func182,Tryz.ntmps182
 go_wp2_with fail
 obtain⟨V,hV⟩:∃V,V=w.alloc (.cells #[.string (bs d.name),.int .u8 d.op,.int .i64 d.evr.epoch,.string (bs d.evr.ver),.string (bs d.evr.rel)] 37):=⟨_,rfl⟩;rw[<- hV]at b1 DA |-;have B1:=hid b1;clear hV b1;have GR:=hid (fun W (hb:Below V.heap.size V W)=>GR0.out W (B1.out.trans (hb.mono B1.out.size)));refine qA6 (PP:=pvP X mb w.heap.size (bs d.name) (F (bs d.name))) 9 rfl (by kernel_rfl) (by kernel_rfl) (by decide) (by decide) (qV0 X mb w.heap.size (bs d.name) (F (bs d.name))) (fun _=>undef) (by simp[qA4,gQ]) ?_ ?_
 ·intro i o vs W hi ho he hBW K hK;simp only[gT,qA4,gQ]at hK |-;have BW:=hid hBW;have C1W:=hid (((B1.out.trans (hBW.mono B1.out.size)).cell (p:=⟨X,1,none⟩) HLT.out).trans C1.out);have CNW:=hid (DA.out.calls hBW).2.1;obtain rfl|rfl|rfl|rfl|rfl|rfl|rfl|rfl|rfl:=c9_ hi<;>simp only[gE]at ho<;>subst ho
  iterate 2 ·rw[if_pos (by rfl)];simp only[gQ]at hK;have HK:=hid hK;clear hK he hi hBW;go_simp;exact HK.out _ _ (by first|rfl|simp[pvP]) bR
  ·have e1:vs 1=_:=dq he 1;rw[e1]at hK |-;rw[if_pos (by rfl)];simp only[gQ]at hK;have HK:=hid hK;clear hK he hi hBW;go_simp;exact HK.out _ _ (by first|rfl|simp[pvP]) bR
  ·have e2:vs 2=_:=dq he 2;rw[e2]at hK |-;rw[if_pos (by rfl)];simp only[gQ]at hK;have HK:=hid hK;clear hK he hi hBW;go_simp;exact HK.out _ _ (by first|rfl|simp[pvP]) bR
  ·have e3:vs 3=_:=dq he 3;rw[e3]at hK |-;rw[if_pos (by rfl)];simp only[gQ]at hK;have HK:=hid hK;clear hK he hi hBW;have cx:=C1W.out;go_simp;exact HK.out _ _ rfl bR
  ·rw[if_pos (by rfl)];simp only[gQ]at hK;have HK:=hid hK;clear hK he hi hBW;go_simp;exact HK.out _ _ (by first|rfl|simp[pvP]) bR
  ·have e5:vs 5=_:=dq he 5;rw[e5]at hK |-;rw[if_pos (by rfl)];simp only[gQ]at hK;have HK:=hid hK;clear hK he hi hBW;have cn:=CNW.out;go_simp;exact HK.out _ _ rfl bR
  ·have e4:vs 4=_:=dq he 4;rw[e4]at hK |-;have e6:vs 6=_:=dq he 6;rw[e6]at hK |-;rw[if_pos (by rfl)];simp only[gQ]at hK;have HK:=hid hK;clear hK he hi hBW;exact qBL W _ _ rfl (mb:=mb) (No:=fun _=>False) rfl rfl HKL.out HNX.out (GR.out _ BW.out) (fun _ _ _ _ _ _ _ h=>h) fun u hu=>by
    obtain⟨DD,l1,ls,l2,_⟩:=hu;obtain⟨A,c,e,hr⟩:=qQW l2;exact HK.out _ _ ⟨A,c,e,hr⟩ bR
  ·rw[if_pos (by rfl)];simp only[gQ]at hK;have HK:=hid hK;clear hK he hi hBW;go_simp;exact HK.out _ _ rfl bR
 ·intro vs W hall hBW;obtain⟨A7,c7,e7,hr7⟩:pvP X mb w.heap.size (bs d.name) (F (bs d.name)) 7 (vs 7) W:=hall 7 (by decide);have e0:vs 0=.pointer (some ⟨X,0,none⟩):=hall 0 (by decide);have e8:vs 8=.func (.func 209) #[] #[.pointer (some ⟨w.heap.size,0,none⟩)]:=hall 8 (by decide);simp only[gT,qA4,qAB,qAA,gP];rw[e0,e7,e8];generalize vs 1=y1,vs 2=y2,vs 3=y3,vs 4=y4,vs 5=y5,vs 6=y6;have BW:=hid (B1.out.trans (hBW.mono B1.out.size));have DW:=hid (DA.out.calls hBW);have SF:=hid (qVI (IX.out W BW.out) (F (bs d.name)) A7 c7 hr7 HZ.out HF9.out 209 (fun _ _=>rfl) #[.pointer (some ⟨w.heap.size,0,none⟩)] (fun q=>qC7 q d) (fun k hk W' hb=>qOO L[k] d (k:Int) w.heap.size W' ((IX.out W' (BW.out.trans (hb.mono BW.out.size))).laid _ (List.getElem_mem hk)) (HM.out _ (List.getElem_mem hk)) (DW.out.calls hb) HD.out HO.out));clear hall hBW e0 e7 e8 hr7;generalize (F (bs d.name)).length=nz at *;go_wp2_with fail
  go_at_call 208
  refine SF.out.mono ?_;rintro e w2 ⟨v,rfl,ho,h⟩;have HB:=hid (BW.out.trans (h.mono BW.out.size));have HOW:=hid (ho.more BW.out.size);clear h ho SF;go_wp2_with fail
  go_ret;exact⟨v,rfl,HOW.out,HB.out⟩
