/- StPlain, TrPlain, IxPlain, StSmall, IxOff, ShCopy -/
import Derived.Test.YteobmfpbgnmffaaGreatDoorT18
set_option linter.unusedVariables false
set_option maxHeartbeats 16000000
set_option maxRecDepth 100000
open Go.Lib (hid)
set_option linter.unusedSimpArgs false
namespace Go.Proofs.YteobmfpbgnmffaaGreatDoor
open Go.RowKit Go.Shelf
section
namespace St
def inS (S:List Int)(n:Nat) : Bool := S.any fun z=>z == (n:Int)
section
variable (I:Nat)(nm ob:Nat->Nat->Bool)(cmp:Nat->Nat->Int)(S:List Int)
end
section
variable {I N:Nat}{nm ob:Nat->Nat->Bool}{cmp:Nat->Nat->Int}{S:List Int}
end
end St
end
section
namespace Tr
def one (n:Nat) : Nat->Bool := fun m=>m == n
def anyN (N:Nat)(p:Nat->Bool) : Bool := (List.range N).any p
def comb (N:Nat)(inn:Nat->Bool)(k:Int)(at_:Nat->Bool)(v:List Bool)(s:Nat->List Bool) : Bool :=
 if k=1 then anyN N fun n=>inn n && at_ n
 else if k=2 then v.all id
 else if k=3 then v.any id
 else if k=4 then (if v.getD 1 false then v.getD 0 false else (decide (v.length<3) || v.getD 2 false))
 else if k=5 then (if v.getD 1 false then (decide (v.length=3) && v.getD 2 false) else v.getD 0 false)
 else if k=6 then anyN N fun n=>inn n && (s n).all id
 else anyN N fun n=>inn n && ((s n).getD 0 false && !(s n).getD 1 false)
mutual
def sat (N:Nat)(pv:Nat->Dp->Bool) : RT->(Nat->Bool)->Bool
 | .mk k d l,inn=>comb N inn k (fun n=>pv n d) (satL N pv l inn) (fun n=>satL N pv l (one n))
def satL (N:Nat)(pv:Nat->Dp->Bool) : List RT->(Nat->Bool)->List Bool
 | [],_=>[]
 | t::l,inn=>sat N pv t inn::satL N pv l inn
end
section
variable {N:Nat}{pv:Nat->Dp->Bool}
theorem qFO (l:List RT)(inn:Nat->Bool) : satL N pv l inn=l.map fun t=>sat N pv t inn := by
 induction l with
 | nil=>rfl
 | cons a l ih=>rw[satL,ih];rfl
theorem satL_len (l:List RT)(inn:Nat->Bool) : (satL N pv l inn).length=l.length := by rw[qFO,List.length_map]
theorem satL_get (l:List RT)(inn:Nat->Bool){i:Nat}(h:i<l.length) : (satL N pv l inn).getD i false=sat N pv l[i] inn := by
 rw[qFO,List.getD_eq_getElem?_getD,List.getElem?_map,List.getElem?_eq_getElem h];rfl
theorem satL_all (l:List RT)(inn:Nat->Bool) : (satL N pv l inn).all id=l.all fun t=>sat N pv t inn := by
 rw[qFO,List.all_map];rfl
theorem satL_any (l:List RT)(inn:Nat->Bool) : (satL N pv l inn).any id=l.any fun t=>sat N pv t inn := by
 rw[qFO,List.any_map];rfl
theorem anyN_iff {p:Nat->Bool} : anyN N p=true ↔ ∃n,n<N/\p n=true := by
 unfold anyN;rw[List.any_eq_true];exact⟨fun⟨n,h,e⟩=>⟨n,List.mem_range.1 h,e⟩,fun⟨n,h,e⟩=>⟨n,List.mem_range.2 h,e⟩⟩
def satS (N:Nat)(pv:Nat->Dp->Bool)(S:List Int)(t:RT) : Bool := t.whole && sat N pv t (St.inS S)
def aloneS (N:Nat)(pv:Nat->Dp->Bool)(n:Int)(t:RT) : Bool := (decide (0<=n) && decide (n<(N:Int))) && satS N pv [n] t
def whoS (N:Nat)(pv:Nat->Dp->Bool)(S:List Int)(t:RT) : List Int := ((List.range N).filter fun n=>St.inS S n && aloneS N pv (n:Int) t).map fun n : Nat=>(n:Int)
theorem inS_one (n:Nat) : St.inS [(n:Int)]=one n := by
 funext m
 unfold St.inS one;rw[Bool.eq_iff_iff];simp;omega
end
end Tr
end
section
open Go.RowKit Go.Shelf Go.Maps
def hasN (l:List ByteArray)(s:ByteArray) : Bool := l.any fun x=>decide (x=s)
theorem qU2 {l:List ByteArray}{s:ByteArray} : hasN l s=true ↔ s∈l := by
 unfold hasN;rw[List.any_eq_true];exact⟨fun⟨x,hx,e⟩=>of_decide_eq_true e ▸ hx,fun h=>⟨s,h,decide_eq_true rfl⟩⟩
def offN (q:Pk) : List ByteArray := q.name::(q.prov.map (fun d=>bs d.name)++q.files)
def idxF (L:List Pk)(s:ByteArray) : List Int := ((List.range L.length).filter fun k=>(L[k]?).any fun q=>hasN (offN q) s).map fun k : Nat=>(k:Int)
theorem qU5 : idxF []=fun _=>[] := rfl
theorem qQT (L:List Pk)(q:Pk)(s:ByteArray) : idxF (L++[q]) s=idxF L s++(if hasN (offN q) s then [(L.length : Int)] else []) := by
 unfold idxF;rw[List.length_append,List.length_singleton,List.range_succ,List.filter_append,List.map_append]
 congr 1
 ·congr 1
  refine List.filter_congr fun k hk => ?_;rw[List.getElem?_append_left (List.mem_range.1 hk)]
 ·rw[List.filter_cons,List.getElem?_append_right lR];cases h:hasN (offN q) s<;>simp[h]
theorem qQS {L:List Pk}{s:ByteArray}{z:Int}(h:z∈idxF L s):∃k : Nat,z=(k:Int)/\k<L.length := by
 obtain⟨k,hk,rfl⟩:=List.mem_map.1 h;exact⟨k,rfl,List.mem_range.1 (List.mem_filter.1 hk).1⟩
theorem qMU (L:List Pk)(s:ByteArray) : (idxF L s).length<=L.length := by
 unfold idxF;rw[List.length_map];have:=List.length_filter_le (fun k=>(L[k]?).any fun q=>hasN (offN q) s) (List.range L.length)
 rwa [List.length_range]at this
theorem qSS {a b:ByteArray}(h:a.toList=b.toList) : a=b := toList_inj h
theorem qUY {q:Pk}{d:Dp}(h:qC7 q d=true) : bs d.name∈offN q := by
 unfold qC7 at h;rw[Bool.or_eq_true,Bool.or_eq_true]at h;unfold offN;rcases h with h|h|h
 ·unfold qAS at h;rw[Bool.and_eq_true]at h;have e:q.name.toList=d.name:=by simpa [Pk.ownD] using h.1
  exact List.mem_cons.2 (.inl (by rw[<- e,qCE]))
 ·obtain⟨a,ha,e⟩:=List.any_eq_true.1 h;unfold qAS at e;rw[Bool.and_eq_true]at e;have e1:a.name=d.name:=by simpa using e.1
  exact List.mem_cons_of_mem _ (List.mem_append_left _ (List.mem_map.2 ⟨a,ha,by rw[e1]⟩))
 ·rw[Bool.and_eq_true]at h;obtain⟨s,hs,e⟩:=List.any_eq_true.1 h.2;have e1:(bs d.name).toList=s.toList:=by simpa using e
  exact List.mem_cons_of_mem _ (List.mem_append_right _ (by rw[qSS e1];exact hs))
def pvL (L:List Pk)(n:Nat)(d:Dp) : Bool := (L[n]?).any fun q=>qC7 q d
def qRY (L:List Pk)(d:Dp) : List Int := ((List.range L.length).filter fun n=>pvL L n d).map fun n : Nat=>(n:Int)
theorem qG9 (L:List Pk)(d:Dp) : (idxF L (bs d.name)).filter (fun z=>pvL L z.toNat d)=qRY L d := by
 unfold idxF qRY;rw[List.filter_map,List.filter_filter]
 congr 1
 refine List.filter_congr fun n hn => ?_;show (pvL L ((n:Int)).toNat d && _)=_;rw[Int.toNat_natCast]
 cases h:L[n]? with
 | none=>simp[pvL,h]
 | some q =>
  simp only[pvL,h,Option.any_some];cases hp:qC7 q d
  ·rfl
  ·rw[qU2.2 (qUY hp)];rfl
theorem qPT (L:List Pk)(d:Dp)(inn:Nat->Bool) : (qRY L d).any (fun z=>inn z.toNat)=Tr.anyN L.length fun n=>inn n && pvL L n d := by
 unfold qRY;rw[List.any_map,List.any_filter];unfold Tr.anyN
 congr 1
 funext n
 show (pvL L n d && inn ((n:Int)).toNat)=_;rw[Int.toNat_natCast,Bool.and_comm]
end
section
theorem Rd.int_at {B:Nat}{A:Option Addr}{c:Nat}{D:List Int}{W:World}(h:Rd encI 1 B A c D W){k:Nat}(hk:k<D.length):∃b o,A=some ⟨b,o,none⟩/\b<B/\W.cell? ⟨b,o+k,none⟩=some (.int .i64 D[k]) := by
 obtain⟨b,o,e,hb,hc⟩:=h.cells hk;have:=hc 0 _ rfl;rw[Nat.mul_one]at this;exact⟨b,o,e,hb,this⟩
theorem qCV (A B:Option Addr)(c d:Nat)(D E:List Int)(w:World)(hD:D.length<=1000000)(hE:E.length<=1000000)(h:Rd encI 1 w.heap.size A c D w)(h':Rd encI 1 w.heap.size B d E w) : Calls Tryz.prog 30 #[.slice A D.length c,.slice B E.length d] w fun e w'=>e=.returned (.bool (decide (D=E)))/\Below w.heap.size w w' := by
 obtain⟨r,hr⟩:∃r,r=decide (D=E):=⟨_,rfl⟩;rw[<- hr];have RR:=hid hr;clear hr;by_cases hl:D.length=E.length
 ·have H:=hid h;have H':=hid h';obtain⟨n,hn⟩:∃n,n=D.length:=⟨_,rfl⟩;have HN:=hid hn;have HE:=hid (hn.trans hl);rw[<- hl,<- hn];have hN:n<=1000000:=by omega
  clear hl h h' hD hE hn
  go_enter Tryz.func30,Tryz.ntmps30
  go_wp2_with fail
  go_loopw[5] (fun iv wr => ∃k:Nat,k<=n/\iv=.int .i64 (k:Int)/\Hid (∀j,j<k->D[j]?=E[j]?)/\Below w.heap.size w wr) (fun iv _=>n - (intOf iv).toNat)
  case atStart=>exact⟨0,by omega,rfl,hid (by intro j h;omega),Below.refl _ _⟩
  case round =>
   obtain⟨k,hk,rfl,HS,hB⟩:=hrel;rename World=>wr
   have HB:=hid hB;by_cases hlt:k<n
   ·have l1:k<D.length:=by have:=HN.out;omega
    have l2:k<E.length:=by have:=HE.out;omega
    obtain⟨b,o,hA,hb,e0⟩:=((H.out.below hB).more hB.size).int_at l1;obtain⟨b2,o2,hA2,hb2,f0⟩:=((H'.out.below hB).more hB.size).int_at l2;have E1:=hid (show D[k]?=some D[k] from List.getElem?_eq_getElem l1);have E2:=hid (show E[k]?=some E[k] from List.getElem?_eq_getElem l2);subst hA hA2;generalize D[k]=x at *;generalize E[k]=y at *;clear l1 l2 hB;have i0:(0:Int)<=(k:Int):=by omega
    have i1:(k:Int)<(n:Int):=by omega
    by_cases hxy:x=y
    ·subst hxy;go_wp2_with fail
     go_quiet (fail);go_wp2_with fail
     go_roundw
     case rel =>
      refine⟨k+1,by omega,by go_num,hid ?_,Go.below_drewN HB.out _⟩;intro j hj;by_cases hjk:j=k
      ·subst hjk;rw[E1.out,E2.out]
      ·exact HS.out j (by omega)
     case measure=>simp[intOf];omega
    ·have HF:=hid (show decide (D=E)=false from decide_eq_false fun h=>hxy (by have:=E1.out;rw[h,E2.out]at this;exact (Option.some.inj this).symm));go_wp2_with fail
     go_quiet (fail);go_wp2_with fail
     go_ret;obtain rfl:=RR.out.trans HF.out;exact⟨rfl,Go.below_drewN HB.out _⟩
   ·obtain rfl:k=n:=by omega
    have HF:=hid (show decide (D=E)=true from decide_eq_true (List.ext_getElem? fun j=>by
     by_cases hj:j<k
     ·exact HS.out j hj
     ·rw[List.getElem?_eq_none (by have:=HN.out;omega),List.getElem?_eq_none (by have:=HE.out;omega)]))
    have i1:¬(k:Int)<(k:Int):=by omega
    go_wp2_with fail
    go_ret;obtain rfl:=RR.out.trans HF.out;exact⟨rfl,HB.out⟩
 ·have HF:=hid (show decide (D=E)=false from decide_eq_false fun h=>hl (by rw[h]));have hl2:¬(D.length:Int)=(E.length:Int):=by omega
  clear h h' hl
  go_enter Tryz.func30,Tryz.ntmps30
  go_wp2_with fail
  go_ret;obtain rfl:=RR.out.trans HF.out;exact⟨rfl,Below.refl _ _⟩
end
section
open Go.RowKit Go.Shelf Go.Maps
theorem qC9 : Keyed Tryz.prog 9 := string_keyed (P := Tryz.prog) Tryz.underlying9
def setD (l:List ByteArray) : DataW Unit := setOf (.agg []) (l.map fun s=>Lit.string s.data.toList)
theorem qGK (l:List ByteArray)(s:ByteArray) : setD (l++[s])=(setD l).put (.string s.data.toList) (.agg []) := by
 unfold setD;rw[List.map_append,List.map_singleton,setOf_snoc]
theorem qDY (a b:ByteArray) : (Lit.string a.data.toList).sameKey (.string b.data.toList)=decide (a=b) := by
 by_cases h:a=b
 ·subst h;rw[decide_eq_true rfl];exact WideAt.sameKey_self trivial
 ·rw[decide_eq_false h];exact sameKey_ne (qWC h)
theorem qMT (l:List ByteArray)(s:ByteArray) : Maps.has (setD l) (.string s.data.toList)=hasN l s := by
 unfold setD;rw[has_setOf _ _ _ (fun y hy=>by obtain⟨_,_,rfl⟩:=List.mem_map.1 hy;trivial),List.any_map];unfold hasN
 congr 1
 funext x
 exact qDY x s
theorem qF0 {H:Type}{P:Program}(w:World){ops:Array Oper}{rest:List Oper}{o:Oper}{a:Act}{Q:Exit->Act->World->Prop}
  (hg:o.guard=none) (m x v:Operand) (t:TypeId) (hop:o.op=Op.insert t m x v)
  (k e:TypeId) (K:Keyed P k) (ht:P.underlying t=some (.map k e)) (R:Value->Option (DataW H × List MemPlace)) (b n:Nat) (D:DataW H)
  (hm:a.eval m=.map (some b)) (hown:w.ownsMap P k R b n D) (hn:n<maxLen) (key val:Value) (kl:Lit) (hx:a.eval x=key) (hv:a.eval v=val) (hkey:keyOf P k key=some kl)
  (d:DataW H) (ps:List MemPlace) (hval:R val=some (d,ps))
  (hK:∀w',w'.ownsMap P k R b (n+1) (D.put kl d)->w.grownBy w' (some b)->wpList P ops Q rest (a.put o.dst undef) w') :
  wpList P ops Q (o::rest) a w:=by
 refine wpList_plain hg fun K' hK' => ?_;obtain⟨w',hrun,r1,r2⟩:=hown.update K ht hn hkey hval;unfold Oper.wp;simp[execOp,hop,hm,hx,hv,hrun,Result.andThen];exact hK' _ _ (hK w' r1 r2)
def setK (q:Pk)(i j:Nat) : List ByteArray := q.name::((q.prov.map fun d=>bs d.name).take i++q.files.take j)
theorem qVE (q:Pk) : setK q q.prov.length q.files.length=offN q := by
 unfold setK offN;rw[List.take_of_length_le (by rw[List.length_map];exact Nat.le_refl _),List.take_length]
theorem qSH (q:Pk){i:Nat}(h:i<q.prov.length) : setK q (i+1) 0=setK q i 0++[bs q.prov[i].name] := by
 unfold setK;rw[List.take_succ_eq_append_getElem (by rw[List.length_map];exact h),List.getElem_map];simp
theorem qP7 (q:Pk){j:Nat}(h:j<q.files.length) : setK q q.prov.length (j+1)=setK q q.prov.length j++[q.files[j]] := by
 unfold setK;rw[List.take_succ_eq_append_getElem h,<- List.append_assoc];rfl
theorem qZ4 {B:Nat}{A:Option Addr}{c:Nat}{l:List ByteArray}{W:World}(h:Rd (fun s=>[Value.string s]) 1 B A c l W){k:Nat}(hk:k<l.length):∃b o,A=some ⟨b,o,none⟩/\b<B/\W.cell? ⟨b,o+k,none⟩=some (.string l[k]) := by
 obtain⟨b,o,e,hb,hc⟩:=h.cells hk;exact⟨b,o,e,hb,by simpa using hc 0 _ rfl⟩
theorem qI4 {d:Dp}(h:d.wf) : (bs d.name).size<=maxLen := h.1
theorem qOL {b:Nat}{q:Pk}{W W':World}(h:PkAt W b q)(hb:W'.heap[b]?=W.heap[b]?)(hs:W.heap.size<=W'.heap.size) : PkAt W' b q :=
 qJH h ⟨fun i=>World.cell?_of_block (w:=W) (a:=⟨b,i,none⟩) hb,hs⟩
theorem qLL (q:Pk)(w:World)(hL:q.Laid w.heap.size w)(hp:q.prov.length<=1000000)(hf:q.files.length<=1000000) : Calls Tryz.prog 149 #[q.val] w fun e w' => ∃b,e=.returned (.map (some b))/\w.heap.size<=b/\w'.ownsMap Tryz.prog 9 (unitElem (H := Unit)) b (1+q.prov.length+q.files.length) (setD (offN q))/\Below w.heap.size w w' := by
 have LP:=hid (fun W (hb:Below w.heap.size w W)=>(hL.prov.below hb).more hb.size);have LF:=hid (fun W (hb:Below w.heap.size w W)=>(hL.files.below hb).more hb.size);have WP:=hid hL.provW;have WF:=hid hL.filesW;have n0:=hL.n0;have HK0:=hid (WideMaps.keyOf_string_mk (P:=Tryz.prog) Tryz.underlying9 n0);have SP:=hid (fun i (h:i<q.prov.length)=>qSH q h);have SF:=hid (fun i (h:i<q.files.length)=>qP7 q h);have SA:=hid (qVE q);have S0:=hid (show setD (setK q 0 0)=(setD []).put (.string q.name.data.toList) (.agg []) from (qGK [] q.name));obtain⟨np,hnp⟩:∃np,np=q.prov.length:=⟨_,rfl⟩;obtain⟨nf,hnf⟩:∃nf,nf=q.files.length:=⟨_,rfl⟩;unfold Pk.val;rw[<- hnp]at hp |-;rw[<- hnf]at hf |-;have HNP:=hid hnp;have HNF:=hid hnf;have BX:=hid (PkAt.new w q);rw[<- hnp,<- hnf]at BX;clear hL hnp hnf n0;have hmm := @run_makeMap Tryz.prog
 go_enter Tryz.func149,Tryz.ntmps149
 have B0:=hid (((Below.refl w.heap.size w).alloc lR (.cells #[.string q.name,.int .i64 q.epoch,.string q.ver,.string q.rel,.int .u8 q.arch,.string q.vendor,.slice q.provA np q.provC,.slice q.reqA q.req.length q.reqC,.slice q.conA q.con.length q.conC,.slice q.obsA q.obs.length q.obsC,.slice q.rcmA q.rcm.length q.rcmC,.slice q.supA q.sup.length q.supC,.slice q.sugA q.sug.length q.sugC,.slice q.enhA q.enh.length q.enhC,.slice q.filesA nf q.filesC] 28)).alloc (by simp) (.map #[] 0));have OW0:=hid (World.ownsMap_made (w.alloc (.cells #[.string q.name,.int .i64 q.epoch,.string q.ver,.string q.rel,.int .u8 q.arch,.string q.vendor,.slice q.provA np q.provC,.slice q.reqA q.req.length q.reqC,.slice q.conA q.con.length q.conC,.slice q.obsA q.obs.length q.obsC,.slice q.rcmA q.rcm.length q.rcmC,.slice q.supA q.sup.length q.supC,.slice q.sugA q.sug.length q.sugC,.slice q.enhA q.enh.length q.enhC,.slice q.filesA nf q.filesC] 28)) Tryz.prog 9 (unitElem (H:=Unit)));have X0:=hid (BX.out.calls (bR.alloc lR (.map #[] 0)));have Z0:=hid (show ((w.alloc (.cells #[.string q.name,.int .i64 q.epoch,.string q.ver,.string q.rel,.int .u8 q.arch,.string q.vendor,.slice q.provA np q.provC,.slice q.reqA q.req.length q.reqC,.slice q.conA q.con.length q.conC,.slice q.obsA q.obs.length q.obsC,.slice q.rcmA q.rcm.length q.rcmC,.slice q.supA q.sup.length q.supC,.slice q.sugA q.sug.length q.sugC,.slice q.enhA q.enh.length q.enhC,.slice q.filesA nf q.filesC] 28)).alloc (.map #[] 0)).heap.size=w.heap.size+1+1 by simp);rw[World.size_alloc]at OW0;go_wp2_with (refine qF0 _ rfl _ _ _ 192 rfl 9 142 qC9 Tryz.underlying192 (unitElem (H:=Unit)) (w.heap.size+1) 0 (.map []) (by simp[go_sem]) OW0.out (by unfold maxLen;omega) _ _ _ rfl rfl HK0.out _ [] unitElem_mk ?_;intro w1 hown1 hgrow1;have B1:=hid (B0.out.grown hgrow1 (by rw[Z0.out];omega) (fun j e=>by cases e;omega));have Z1:=hid (show w.heap.size+1+1<=w1.heap.size by have:=hgrow1.size;rw[Z0.out]at this;exact this);have X1:=hid (qOL X0.out (hgrow1.block w.heap.size (by rw[Z0.out];omega) (fun e=>by have:=Option.some.inj e;omega)) hgrow1.size);obtain⟨_,c0,c1,c2,c3,c4,c5,c6,c7,c8,c9,c10,c11,c12,c13,c14⟩:=X1.out;rw[<- HNP.out]at c6;rw[<- HNF.out]at c14;have OW1:=hid (show w1.ownsMap Tryz.prog 9 (unitElem (H:=Unit)) (w.heap.size+1) 1 (setD (setK q 0 0)) by rw[S0.out];exact hown1);clear hown1 hgrow1 B0 OW0 X0 Z0 BX)
 go_loopw[16] (fun iv wr => ∃i:Nat,i<=np/\iv=.int .i64 (i:Int)/\wr.ownsMap Tryz.prog 9 (unitElem (H:=Unit)) (w.heap.size+1) (1+i) (setD (setK q i 0))/\Below w.heap.size w wr/\w.heap.size+1+1<=wr.heap.size/\wr.cell? ⟨w.heap.size,14,none⟩=some (.slice q.filesA nf q.filesC)) (fun iv _=>np - (intOf iv).toNat)
 case atStart=>exact⟨0,Nat.zero_le _,rfl,OW1.out,B1.out,Z1.out,c14⟩
 case round =>
  obtain⟨i,hi,rfl,hown,hB,hz,hX⟩:=hrel;rename World=>wr
  have OWN:=hid hown;have HB:=hid hB;have HZ:=hid hz;have HX:=hid hX;clear OW1 B1 Z1 X1 c0 c1 c2 c3 c4 c5 c6 c7 c8 c9 c10 c11 c12 c13 c14 hown hB hz hX;by_cases hlt:i<np
  ·have hil:i<q.prov.length:=by have:=HNP.out;omega
   obtain⟨b,o,hA,hb,e0,e1,e2,e3,e4⟩:=(LP.out wr HB.out).dep_at hil;have SPI:=hid (SP.out i hil);have KN:=hid (WideMaps.keyOf_string_mk (P:=Tryz.prog) Tryz.underlying9 (qI4 (WP.out _ (List.getElem_mem hil))));generalize q.prov[i]=d at *;have j0:(0:Int)<=(i:Int):=by omega
   have j1:(i:Int)<(np:Int):=by omega
   rw[hA];clear hil hA;have O2:=hid (OWN.out.alloc (.cells #[.string (bs d.name),.int .u8 d.op,.int .i64 d.evr.epoch,.string (bs d.evr.ver),.string (bs d.evr.rel)] 37));have B2:=hid (HB.out.alloc HB.out.size (.cells #[.string (bs d.name),.int .u8 d.op,.int .i64 d.evr.epoch,.string (bs d.evr.ver),.string (bs d.evr.rel)] 37));have Z2:=hid (show (wr.alloc (.cells #[.string (bs d.name),.int .u8 d.op,.int .i64 d.evr.epoch,.string (bs d.evr.ver),.string (bs d.evr.rel)] 37)).heap.size=wr.heap.size+1 by simp);have X2:=hid ((((Below.refl wr.heap.size wr).alloc lR (.cells #[.string (bs d.name),.int .u8 d.op,.int .i64 d.evr.epoch,.string (bs d.evr.ver),.string (bs d.evr.rel)] 37)).cell (p:=⟨w.heap.size,14,none⟩) (by have:=HZ.out;show w.heap.size<wr.heap.size;omega)).trans HX.out);go_wp2_with (at_mapUpdate;refine wpList_mapUpdate_own _ rfl _ _ _ 192 rfl 9 142 qC9 Tryz.underlying192 (unitElem (H:=Unit)) (w.heap.size+1) (1+i) _ rfl O2.out (by unfold maxLen;omega) _ _ _ rfl rfl KN.out _ [] unitElem_mk ?_;intro w7 hown7 hgrow7)
   go_roundw
   case rel=>exact⟨i+1,by omega,by go_num,by rw[SPI.out,qGK];exact hown7,B2.out.grown hgrow7 (by have:=Z2.out;have:=HZ.out;omega) (fun j e=>by cases e;omega),by have:=hgrow7.size;have:=Z2.out;have:=HZ.out;omega,(World.cell?_of_block (a:=⟨w.heap.size,14,none⟩) (hgrow7.block w.heap.size (by have:=Z2.out;have:=HZ.out;omega) (fun e=>by have:=Option.some.inj e;omega))).trans X2.out⟩
   case measure=>simp[intOf];omega
  ·obtain rfl:i=np:=by omega
   have j1:¬(i:Int)<(i:Int):=by omega
   have c14:=HX.out;have HO:=hid (show wr.ownsMap Tryz.prog 9 (unitElem (H:=Unit)) (w.heap.size+1) (1+i+0) (setD (setK q q.prov.length 0)) from by rw[<- HNP.out];exact OWN.out);clear OWN HX SP;go_wp2_with fail
   generalize q.prov.length=np at *
   go_loopw[28] (fun iv wr => ∃j:Nat,j<=nf/\iv=.int .i64 (j:Int)/\wr.ownsMap Tryz.prog 9 (unitElem (H:=Unit)) (w.heap.size+1) (1+i+j) (setD (setK q np j))/\Below w.heap.size w wr/\w.heap.size+1+1<=wr.heap.size) (fun iv _=>nf - (intOf iv).toNat)
   case atStart=>exact⟨0,Nat.zero_le _,rfl,HO.out,HB.out,HZ.out⟩
   case round =>
    obtain⟨j,hj,rfl,hown,hB,hz⟩:=hrel;rename World=>wx
    have OWN:=hid hown;have HB2:=hid hB;have HZ2:=hid hz;clear HO HB HZ c14 hown hB hz;by_cases hlt2:j<nf
    ·have hil:j<q.files.length:=by have:=HNF.out;omega
     obtain⟨b,o,hA,hb,e0⟩:=qZ4 (LF.out wx HB2.out) hil;have SFI:=hid (SF.out j hil);have KN:=hid (WideMaps.keyOf_string_mk (P:=Tryz.prog) Tryz.underlying9 (WF.out _ (List.getElem_mem hil)));generalize q.files[j]=s at *;have k0:(0:Int)<=(j:Int):=by omega
     have k1:(j:Int)<(nf:Int):=by omega
     rw[hA];clear hil hA;go_wp2_with (at_mapUpdate;refine wpList_mapUpdate_own _ rfl _ _ _ 192 rfl 9 142 qC9 Tryz.underlying192 (unitElem (H:=Unit)) (w.heap.size+1) (1+i+j) _ rfl OWN.out (by unfold maxLen;omega) _ _ _ rfl rfl KN.out _ [] unitElem_mk ?_;intro w7 hown7 hgrow7)
     go_roundw
     case rel=>exact⟨j+1,by omega,by go_num,by rw[SFI.out,qGK];exact hown7,HB2.out.grown hgrow7 (by have:=HZ2.out;omega) (fun j e=>by cases e;omega),by have:=hgrow7.size;have:=HZ2.out;omega⟩
     case measure=>simp[intOf];omega
    ·obtain rfl:j=nf:=by omega
     have k1:¬(j:Int)<(j:Int):=by omega
     go_wp2_with fail
     go_ret;exact⟨w.heap.size+1,rfl,by omega,by rw[<- SA.out,<- HNF.out];exact OWN.out,HB2.out⟩
end
section
theorem qHU:∀(f:Nat) (t:RV) (w:World),t.ht<=f->t.tree.parts<=1000000->RTree w.heap.size w t->Calls Tryz.prog 69 #[t.val] w (qBK t w)
 |0,t,w,hf,_,_=>absurd hf (by rw[qAN];omega)
 | f+1,t,w,hf,hp,ha=>by
  have IH:=hid (fun x W h1 h2 h3=>qHU f x W h1 h2 h3);have HA:=hid ha.rrow;have HF:=hid (show htL t.args<=f by rw[qAN]at hf;omega);have HP:=hid (show 1+qA9 (qA1 t.args)<=1000000 by rw[qAD t,RT.parts]at hp;exact hp);have HL:=hid (show t.args.length<=999999 by have h1:=HP.out;have h2:=qBS (qA1 t.args);rw[qA5]at h2;omega);have hm:=ha.row.len;have C0:=hid (Cp.start (w:=w) (t:=t));have hz0:(0:Nat)=0:=rfl;unfold RV.val;clear ha hf hp hz0
  go_enter Tryz.func69,Tryz.ntmps69
  go_wp2_with fail
  go_loopw[14] (fun iv wr => ∃(i:Nat) (l:List RV) (v:Value),i<=t.args.length/\iv=.int .i64 (i:Int)/\qA1 l=(qA1 t.args).take i/\Cp w t l v wr) (fun iv _=>t.args.length - (intOf iv).toNat)
  case atStart=>exact⟨0,[],.slice none 0 0,Nat.zero_le _,rfl,by simp[qA1],C0.out⟩
  case round =>
   obtain⟨i,l,v,hi,rfl,hl,hC⟩:=hrel;rename World=>wr
   have C:=hid hC;have HTL:=hid hl;clear hC hl C0;obtain⟨⟨a0,a1,a2,a3,a4,a5,a6⟩,_,al⟩:=id C.out.inp;by_cases hlt:i<t.args.length
   ·have TA:=((HA.out.below C.out.old).2 _ (List.getElem_mem hlt)).more C.out.old.size;have hwf:=TA.wf;have hht:=Nat.le_trans (qBN (List.getElem_mem hlt)) HF.out;have hkt:i<(qA1 t.args).length:=by rw[qA5];exact hlt
    have hpp:=qBR (l:=qA1 t.args) hkt;rw[qAI t.args i hlt]at hpp;have HC:=hid (fun (W:World) (hb:Below wr.heap.size wr W)=>(IH.out t.args[i] W hht (by have:=HP.out;omega) ((TA.keeps hb).more hb.size)).mono fun e w' h=>qBK.tq hwf h);obtain⟨b,o,hadr,hb,e0,e1,e2,e3,e4,e5,e6⟩:=(HA.out.below C.out.old).at_ hlt
    rw[hadr]at a6 |-;have HTN:=hid (show ∀rv:RV,rv.tree=t.args[i].tree->qA1 (l++[rv])=(qA1 t.args).take (i+1) from fun rv h=>by rw[qEH,HTL.out,qAX _ _ hkt,qAI t.args i hlt];simp only[qA1,h]);have HLL:=hid (show l.length<=999999 by have h1:=congrArg List.length HTL.out;rw[qA5,List.length_take,qA5]at h1;have:=HL.out;omega);have HV:=hid (show ∀b,v.ownBlock=some b->b<wr.drew.heap.size from fun b hb=>(World.ownsRow.lt C.out.own b hb).2);obtain⟨⟨g0,g1,g2,g3,g4,g5,g6⟩,⟨f0,f1,f2,f3,f4,f5,f6⟩,gl⟩:=id C.out.out;have i0:(0:Int)<=(i:Int):=by omega
    have i1:(i:Int)<(t.args.length:Int):=by omega
    unfold RV.val at HC;clear TA hwf hht hkt hpp IH;generalize t.args[i]=x at *;generalize t.args.length=n at *;go_wp2_with fail
    have BV:=hid ((Below.refl wr.heap.size wr).alloc lR (.cells #[.int .u8 x.kind,.string (bs x.dep.name),.int .u8 x.dep.op,.int .i64 x.dep.evr.epoch,.string (bs x.dep.evr.ver),.string (bs x.dep.evr.rel),.slice x.addr x.args.length x.cap] 39));have C1:=hid (C.out.call BV.out);have XB:=hid (Box7.new wr (.int .u8 x.kind) (.string (bs x.dep.name)) (.int .u8 x.dep.op) (.int .i64 x.dep.evr.epoch) (.string (bs x.dep.evr.ver)) (.string (bs x.dep.evr.rel)) (.slice x.addr x.args.length x.cap) 39);have HV1:=hid (show ∀b,v.ownBlock=some b->b<(wr.alloc (.cells #[.int .u8 x.kind,.string (bs x.dep.name),.int .u8 x.dep.op,.int .i64 x.dep.evr.epoch,.string (bs x.dep.evr.ver),.string (bs x.dep.evr.rel),.slice x.addr x.args.length x.cap] 39)).drew.heap.size from fun b hb=>Nat.lt_of_lt_of_le (World.ownsRow.lt C.out.own b hb).2 BV.out.drew.size);clear a0 a1 a2 a3 a4 a5 a6 al e0 e1 e2 e3 e4 e5 e6 g0 g1 g2 g3 g4 g5 g6 f0 f1 f2 f3 f4 f5 f6 gl;generalize wr.alloc (.cells #[.int .u8 x.kind,.string (bs x.dep.name),.int .u8 x.dep.op,.int .i64 x.dep.evr.epoch,.string (bs x.dep.evr.ver),.string (bs x.dep.evr.rel),.slice x.addr x.args.length x.cap] 39)=V at *;generalize wr.heap.size=kx at *;obtain⟨⟨g0,g1,g2,g3,g4,g5,g6⟩,⟨f0,f1,f2,f3,f4,f5,f6⟩,gl⟩:=id C1.out.out;obtain⟨⟨e0,e1,e2,e3,e4,e5,e6⟩,_,el0⟩:=id XB.out
    go_region_law (first|(refine qCH (P:=Tryz.prog) _ rfl _ _ 25 rfl (w.heap.size+3) 39 _ _ 7 _ (by rfl) (by rfl) (by rfl) (by rfl) (by rfl) (by rfl) (by decide) qC0 qE3 v _ _ rfl (World.ownsRow.alloc C8.out.own _) (w8.heap.size+1) (some ⟨w8.heap.size,0,none⟩) 1 [rv2] 1 rfl rfl (qN6 w8 rv2) (by have:=HLL.out;simp;omega) (by decide) (by have:=C8.out.old.size;have:=C8.out.out.2.2;simp;omega) ?_;intro v2 w9 ho2 hg2 hv2;simp only[List.length_cons,List.length_nil,Nat.zero_add,List.flatMap_cons,List.flatMap_nil,List.append_nil]at ho2;obtain⟨y6,z6,zl⟩:=C8.out.held hg2;obtain⟨AA,cc,rfl⟩:=qAG ho2)|(go_simp;go_at_call 69;refine (HC.out _ BV.out.drew).mono ?_;rintro en w8 ⟨rv2,rfl,hrt2,hT2,hB8⟩;have C8:=hid ((C1.out.call bR.drew).call hB8);have q6:=C8.out.out.1.2.2.2.2.2.2;have el:=C8.out.out.2.2;have HT2:=hid hT2;have HRT:=hid hrt2;clear hT2 hB8 hrt2;(try unfold RV.val);(try dsimp only)))
    all_goals
     have C9:=hid (C8.out.arg HT2.out (by have:=C1.out.out.2.2;show w.heap.size+3<=V.heap.size;omega) HV1.out ho2 hg2 hv2);have HS:=hid (HTN.out rv2 HRT.out);clear y6 z6 zl q6 el ho2 hg2 hv2 HT2 C8 e0 e1 e2 e3 e4 e5 e6 g0 g1 g2 g3 g4 g5 g6 f0 f1 f2 f3 f4 f5 f6 gl;generalize w9.setCell ⟨w.heap.size+2,6,none⟩ (.slice AA (l.length+1) cc)=w10 at *;go_wp2_with fail
     go_roundw
     case rel=>exact⟨i+1,l++[rv2],.slice AA (l.length+1) cc,by omega,by go_num,HS.out,C9.out⟩
     case measure=>simp[intOf];omega
   ·obtain rfl:i=t.args.length:=by omega
    have HFULL:=hid (show qA1 l=qA1 t.args by rw[HTL.out,List.take_of_length_le (by rw[qA5];exact Nat.le_refl _)]);have i1:¬(t.args.length:Int)<(t.args.length:Int):=by omega
    obtain⟨AA,cc,hv⟩:=qAG C.out.own;subst hv;obtain⟨⟨g0,g1,g2,g3,g4,g5,g6⟩,_,gl⟩:=id C.out.out;obtain⟨⟨r0,r1,r2,r3,r4,r5,r6⟩,⟨k0,k1,k2,k3,k4,k5,k6⟩,rl⟩:=id C.out.res;clear hlt IH HTL;go_wp2_with fail
    have XF:=C.out.res.store (.int .u8 t.kind) (.string (bs t.dep.name)) (.int .u8 t.dep.op) (.int .i64 t.dep.evr.epoch) (.string (bs t.dep.evr.ver)) (.string (bs t.dep.evr.rel)) (.slice AA l.length cc);have hz:=qCY (w.heap.size+1) (.int .u8 t.kind) (.string (bs t.dep.name)) (.int .u8 t.dep.op) (.int .i64 t.dep.evr.epoch) (.string (bs t.dep.evr.ver)) (.string (bs t.dep.evr.rel)) (.slice AA l.length cc) wr;have hk:∀b,b≠w.heap.size+1->(qBO (w.heap.size+1) (.int .u8 t.kind) (.string (bs t.dep.name)) (.int .u8 t.dep.op) (.int .i64 t.dep.evr.epoch) (.string (bs t.dep.evr.ver)) (.string (bs t.dep.evr.rel)) (.slice AA l.length cc) wr).heap[b]?=wr.heap[b]?:=fun b hb=>qBZ _ _ _ _ _ _ _ _ _ hb;unfold qBO at XF;obtain⟨⟨j0,j1,j2,j3,j4,j5,j6⟩,_⟩:=XF;refine bodyPost_ret (v:=.agg #[.int .u8 t.kind,.string (bs t.dep.name),.int .u8 t.dep.op,.int .i64 t.dep.evr.epoch,.string (bs t.dep.evr.ver),.string (bs t.dep.evr.rel),.slice AA l.length cc]) (by simp[results,Tryz.results69,go_sem,j0,j1,j2,j3,j4,j5,j6];try rfl) rfl ?_
    exact⟨AA,cc,l,rfl,HFULL.out,qAP C.out.own (by omega) (fun g hg=>hk g (by have:=(World.ownsRow.lt C.out.own g hg).1;omega)),
     fun a ha=>(C.out.tr a ha).keep (fun b hq=>⟨by omega,by have h1:=hq.2.1;exact Nat.lt_of_lt_of_eq h1 hz.symm,hq.2.2⟩) fun b hq=>hk b (by omega),
     C.out.old.trans (qCD (by omega) bR _ _ _ _ _ _ _)⟩
