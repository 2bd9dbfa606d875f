/- RegPh, TrWo -/
import Derived.Test.YteobmfpbgnmffaaGreatDoorT35
set_option linter.unusedVariables false
set_option maxHeartbeats 16000000
set_option maxRecDepth 100000
open Go.Lib (hid)
set_option linter.unusedSimpArgs false
namespace Go.Proofs.YteobmfpbgnmffaaGreatDoor
section
open Go.RowKit Go.Shelf
section
variable {P:Program}{ops:Array Oper}{Q:Exit->Act->World->Prop}{md:Region.Mode}
theorem qGU {PP:Bool->Nat->Value->World->Prop}{RelS:World->World->Prop}{id:Nat}{a:Act}{w:World}(n s:Nat)(hm:P.follows .mixedOrders=true)(hb:qB0 .any ops=true)(ht:qBF n ops=true)(hn:((ops.toList.take n).map (·.dst)).Nodup)(hsz:n<=ops.size)(hsn:s<n)
  (hmono:∀ph i v w' w'',(Below w.heap.size w w' \/ RelS w w')->PP ph i v w'->Below w'.heap.size w' w''->PP ph i v w'') (hmonoS:∀i v w' w'',i≠s->Below w.heap.size w w'->PP false i v w'->RelS w' w''->PP true i v w'')
  (hS2:∀b c,RelS w b->Below b.heap.size b c->RelS w c) (hS3:∀b c,Below w.heap.size w b->RelS b c->RelS w c) (vs0:Nat->Value) (h0:qA4 (ops.toList.take n) 0 vs0 a=a)
  (hstep:∀(ph:Bool) (i:Nat) (o:Oper) (vs:Nat->Value) (w':World),i<n->i≠s->ops[i]?=some o->(∀e∈o.after,Region.binds .any e=true->PP ph e.on (vs e.on) w')->(Below w.heap.size w w' \/ RelS w w')->(((ops[s]?).map fun o'=>o'.after.any fun e=>Region.binds .any e && e.on == i).getD false=true->Below w.heap.size w w') ->
   ∀K:Act->World->Prop,(∀v w'',PP ph i v w''->Below w'.heap.size w' w''->K ((qA4 (ops.toList.take n) 0 vs a).put o.dst v) w'')->if Region.wanted o (yielded ops (qA4 (ops.toList.take n) 0 vs a).tmps)=true then Oper.wp P o (qA4 (ops.toList.take n) 0 vs a) w' K Q else K ((qA4 (ops.toList.take n) 0 vs a).put o.dst undef) w')
  (hstepS:∀(o:Oper) (vs:Nat->Value) (w':World),ops[s]?=some o->(∀e∈o.after,Region.binds .any e=true->PP false e.on (vs e.on) w')->Below w.heap.size w w' ->
   ∀K:Act->World->Prop,(∀v w'',PP true s v w''->RelS w' w''->K ((qA4 (ops.toList.take n) 0 vs a).put o.dst v) w'')->if Region.wanted o (yielded ops (qA4 (ops.toList.take n) 0 vs a).tmps)=true then Oper.wp P o (qA4 (ops.toList.take n) 0 vs a) w' K Q else K ((qA4 (ops.toList.take n) 0 vs a).put o.dst undef) w')
  (hrest:∀vs w',(∀i,i<n->PP true i (vs i) w')->RelS w w'->wpList P ops Q (ops.toList.drop n) (qA4 (ops.toList.take n) 0 vs a) w'):(Code.region id ops true).wp P Q a w:=by
 let Clo:Array Bool->Prop:=fun listed => ∀j o,ops[j]?=some o->listed.getD j false=true -> ∀e∈o.after,Region.binds .any e=true->listed.getD e.on false=true
 refine wp_region_any hm (qC3 (J:=fun listed a' w'=>Clo listed/\((∃vs,a'=qA4 (ops.toList.take n) 0 vs a/\((listed.getD s false=false/\Below w.heap.size w w') \/ (listed.getD s false=true/\RelS w w'))/\(∀i,i<n->listed.getD i false=true->PP (listed.getD s false) i (vs i) w') /\ ∀i,n<=i->listed.getD i false=false) \/ (∃m,n<m/\(∀i,i<ops.size->listed.getD i false=decide (i<m))/\m<=ops.size/\wpList P ops Q (ops.toList.drop m) a' w'))) hb ?_ ?_ _ _ _ _ (by simp) (by unfold qBX;exact Nat.le_trans (List.length_filter_le _ _) (by simp)) ?_)
 ·rintro i o listed a' w' hi ho hs hun he ⟨hc,hJ⟩ K hK;have hunl:listed.getD i false=false:=by
   have h3:i<listed.size:=by omega
   simp only[Array.getD,h3,dite_true]at hun |-;exact hun
  have hclo:Clo (listed.setIfInBounds i true):=by
   intro j o' ho' hj e hem hbd;rw[qAK]at hj |-;by_cases hji:i=j
   ·subst hji;rw[ho]at ho';cases ho'
    rw[he e hem hbd];rfl
   ·have hj2:listed.getD j false=true:=by simpa [hji] using hj
    rw[hc j o' ho' hj2 e hem hbd];rfl
  have nxt:∀m,m=i->n<=m->(∀j,j<ops.size->listed.getD j false=decide (j<m))->wpList P ops Q (ops.toList.drop m) a' w'->if Region.wanted o (yielded ops a'.tmps)=true then Oper.wp P o a' w' K Q \/ (o.asks P a' w'/\LetsOut Q) else K (a'.put o.dst undef) w':=by
   rintro m rfl hnm hl hw;have hd:ops.toList.drop m=o::ops.toList.drop (m+1):=by
    have h1:m<ops.toList.length:=by simpa using hi
    rw[List.drop_eq_getElem_cons h1]
    congr 1
    have:ops[m]=o:=by rw[Array.getElem?_eq_getElem hi]at ho;exact Option.some.inj ho
    simpa using this
   rw[hd]at hw
   have go:∀a2 w2,wpList P ops Q (ops.toList.drop (m+1)) a2 w2->K a2 w2:=fun a2 w2 h2=>hK a2 w2 ⟨hclo,.inr ⟨m+1,by omega,fun j hj=>by
    rw[qAK,hl j hj];by_cases h1:j<m
    ·simp[h1];omega
    ·by_cases h2:j=m
     ·subst h2;simp;omega
     ·have h3:¬m=j:=fun e=>h2 e.symm;simp[h1,h3];omega,by omega,h2⟩⟩
   unfold wpList at hw;split
   ·rename_i hwt
    rw[if_pos hwt]at hw;rcases hw with h1|h1
    ·exact .inl (Oper.wp_mono go h1)
    ·exact .inr h1
   ·rename_i hwt
    rw[if_neg hwt]at hw;exact go _ _ hw
  by_cases hin:i<n
  ·rcases hJ with⟨vs,rfl,hB,hP,hF⟩|⟨m,hm1,hl,_⟩
   ·have fill:∀v,(qA4 (ops.toList.take n) 0 vs a).put o.dst v=qA4 (ops.toList.take n) 0 (upd vs i v) a:=fun v=>by
     have:=qC4 (ops.toList.take n) 0 vs a i o v (by rw[List.getElem?_take];simp[hin];simpa using ho) hn;rw[this];simp
    have low:∀j,n<=j->(listed.setIfInBounds i true).getD j false=false:=fun j hj=>by
     rw[qAK,hF j hj];have:¬i=j:=by omega
     simp[this]
    have was:∀j,j≠i->(listed.setIfInBounds i true).getD j false=listed.getD j false:=fun j hj=>by
     rw[qAK];have:¬i=j:=fun e=>hj e.symm;simp[this]
    have now:(listed.setIfInBounds i true).getD i false=true:=by
     rw[qAK];have:i<listed.size:=by omega
     simp[this]
    have hed:∀e∈o.after,Region.binds .any e=true->PP (listed.getD s false) e.on (vs e.on) w':=fun e hem hbd=>hP _ (by have:=qEO hb hi ho hem hbd;omega) (he e hem hbd);by_cases his:i=s
    ·subst his;have hB':Below w.heap.size w w':=by
      rcases hB with⟨_,h1⟩|⟨h1,_⟩
      ·exact h1
      ·rw[hunl]at h1;cases h1
     rw[hunl]at hed hP;have hst:=hstepS o vs w' ho hed hB' K (fun v w'' hv hb'=>hK _ _ ⟨hclo,.inl ⟨upd vs i v,fill v,.inr ⟨now,hS3 _ _ hB' hb'⟩,fun j hj hjl=>by
      by_cases hji:j=i
      ·subst hji;rw[now];simp[upd];exact hv
      ·rw[now];simp only[upd,hji,if_false];exact hmonoS _ _ _ _ hji hB' (hP j hj (by rw[was j hji]at hjl;exact hjl)) hb',low⟩⟩)
     split
     ·rename_i hwt;rw[if_pos hwt]at hst;exact .inl hst
     ·rename_i hwt;rw[if_neg hwt]at hst;exact hst
    ·have hst:=hstep _ i o vs w' hin his ho hed (hB.elim (fun h=>.inl h.2) (fun h=>.inr h.2)) (fun hd=>by
      rcases hB with⟨_,h2⟩|⟨h1,_⟩
      ·exact h2
      ·exfalso
       cases hso:ops[s]? with
       | none=>rw[hso]at hd;simp at hd
       | some o2 =>
        rw[hso,Option.map_some,Option.getD_some]at hd;obtain⟨x,hx,h3⟩:=Array.any_eq_true.1 hd;simp only[Bool.and_eq_true,beq_iff_eq]at h3;have h4:=hc _ o2 hso h1 _ (Array.getElem_mem hx) h3.1;rw[h3.2,hunl]at h4
        cases h4) K (fun v w'' hv hb'=>hK _ _ ⟨hclo,.inl ⟨upd vs i v,fill v,by
      rw[was s (fun e=>his e.symm)];rcases hB with⟨h1,h2⟩|⟨h1,h2⟩
      ·exact .inl ⟨h1,h2.trans (hb'.mono h2.size)⟩
      ·exact .inr ⟨h1,hS2 _ _ h2 hb'⟩,fun j hj hjl=>by
      by_cases hji:j=i
      ·subst hji;rw[was s (fun e=>his e.symm)];rw[show upd vs j v j=v by simp[upd]];exact hv
      ·rw[was s (fun e=>his e.symm)];simp only[upd,hji,if_false];exact hmono _ _ _ _ _ (hB.elim (fun h=>.inl h.2) (fun h=>.inr h.2)) (hP j hj (by rw[was j hji]at hjl;exact hjl)) hb',low⟩⟩)
     split
     ·rename_i hwt;rw[if_pos hwt]at hst;exact .inl hst
     ·rename_i hwt;rw[if_neg hwt]at hst;exact hst
   ·rw[hl i hi]at hunl;have:=of_decide_eq_false hunl;omega
  ·have hall:∀j,j<i->listed.getD j false=true:=by
    intro j hj;unfold qBF at ht;have h1:=List.all_eq_true.1 ht i (List.mem_range.2 hi);rw[decide_eq_false hin,Bool.false_or]at h1;have h2:=List.all_eq_true.1 h1 j (List.mem_range.2 hj);exact qB1 hc _ i j o ho he h2
   rcases hJ with⟨vs,rfl,hB,hP,hF⟩|⟨m,hm1,hl,hm2,hw⟩
   ·have hin2:n=i:=by
     refine Classical.byContradiction fun hne => ?_;have:=hall n (by omega);rw[hF n lR]at this;cases this
    refine nxt n hin2 lR (fun j hj => ?_) (hrest vs w' (fun j hj=>by have q:=hP j hj (hall j (by omega));rw[hall s (by omega)]at q;exact q) (by
     rcases hB with⟨h1,_⟩|⟨_,h2⟩
     ·rw[hall s (by omega)]at h1;cases h1
     ·exact h2))
    by_cases h1:j<n
    ·rw[decide_eq_true h1];exact hall j (by omega)
    ·rw[decide_eq_false h1];exact hF j (by omega)
   ·have him:m=i:=by
     rw[hl i hi]at hunl;have h1:=of_decide_eq_false hunl;refine Classical.byContradiction fun hne => ?_;have h2:=hall m (by omega);rw[hl m (by omega)]at h2;have:=of_decide_eq_true h2;omega
    exact nxt m him (by omega) hl hw
 ·rintro a' w' ⟨_,hJ⟩;have hrep:∀i,i<ops.size->(Array.replicate ops.size true).getD i false=true:=fun i hi=>by simp[Array.getD,hi]
  rcases hJ with⟨vs,rfl,hB,hP,hF⟩|⟨m,hm1,hl,hm2,hw⟩
  ·have hge:n=ops.size:=by
    refine Classical.byContradiction fun hne => ?_;have h1:=hF n lR;rw[hrep n (by omega)]at h1;cases h1
   have:=hrest vs w' (fun j hj=>by have q:=hP j hj (hrep j (by omega));rw[hrep s (by omega)]at q;exact q) (by
    rcases hB with⟨h1,_⟩|⟨_,h2⟩
    ·rw[hrep s (by omega)]at h1;cases h1
    ·exact h2)
   rw[List.drop_eq_nil_of_le (by simp[hge])]at this;exact this
  ·have hge:m=ops.size:=by
    refine Classical.byContradiction fun hne => ?_;have h1:=hl m (by omega);rw[hrep m (by omega)]at h1;have:=of_decide_eq_true h1.symm;omega
   rw[List.drop_eq_nil_of_le (by simp[hge])]at hw;exact hw
 ·refine⟨fun j o ho hj => ?_,.inl ⟨vs0,h0.symm,.inl ⟨by
   by_cases h:s<ops.size
   ·simp[Array.getD,h]
   ·simp[Array.getD,h],bR.drew⟩,fun i hi hj => ?_,fun i hi => ?_⟩⟩
  ·exfalso;by_cases h:j<ops.size
   iterate 2 ·simp[Array.getD,h]at hj
  ·exfalso;by_cases h:i<ops.size
   iterate 2 ·simp[Array.getD,h]at hj
  ·by_cases h:i<ops.size
   iterate 2 ·simp[Array.getD,h]
end
end
section
open Go.RowKit Go.Shelf
theorem qRO {base base':Nat}{e:TypeId}{v:Value}{S:List Int}{W:World}(h:Own encI 1 base e v S W)(hb:base'<=base) : Own encI 1 base' e v S W :=
 ⟨h.1,h.2.imp id fun⟨b,cap,cs,e1,e2,r⟩=>⟨b,cap,cs,e1,Nat.le_trans hb e2,r⟩⟩
theorem qX6 (S:List Int)(x:Int) : (S.filter fun s => !(s == x))=qBQ S x := by
 unfold qBQ
 congr 1
 funext z
 by_cases h:z=x
 iterate 2 ·simp[h]
theorem qTE (z x:Int)(b:Nat)(W:World)(hc:W.cell? ⟨b,0,none⟩=some (.int .i64 x)) : Calls Tryz.prog 112 (#[.int .i64 z]++#[.pointer (some ⟨b,0,none⟩)]) W fun e w'=>e=.returned (.bool (z == x))/\Below W.heap.size W w' := by
 show Calls Tryz.prog 112 #[.int .i64 z,.pointer (some ⟨b,0,none⟩)] W _
 go_enter Tryz.func112,Tryz.ntmps112
 go_wp2_with fail
 go_ret;exact⟨rfl,Below.refl _ _⟩
theorem qTY (g:FuncId)(eg:∀args w,(callFunc g args).run Tryz.prog w=.ok (.enter g args) w)(cp:Array Value)(A:Option Addr)(c:Nat)(W:World)(h:Rd encI 1 W.heap.size A c ([] : List Int) W) : Calls Tryz.prog 110 #[.slice A 0 c,.func (.func g) #[] cp] W fun e w'=>e=.returned (.slice A 0 c)/\Below W.heap.size W w' := by
 have IX:=hid (qHE g eg cp (fun _=>false) [] 0 rfl A c W h (by decide) (fun s hs=>by cases hs));clear h
 go_enter Tryz.func110,Tryz.ntmps110
 go_wp2_with fail
 go_at_call 156
 refine IX.out.mono ?_;rintro en w1 ⟨hcase,h⟩;have B1:=hid h;clear h IX;rcases hcase with⟨rfl,_⟩|⟨k,hk,_⟩
 ·go_wp2_with fail
  go_ret;exact⟨rfl,B1.out⟩
 ·exact absurd hk (Nat.not_lt_zero _)
theorem qNY (g:FuncId)(eg:∀args w,(callFunc g args).run Tryz.prog w=.ok (.enter g args) w)(cp:Array Value)(x? : Int->Bool)(S:List Int)(base:Nat)(w0 W:World)(v:Value)(ho:Own encI 1 base 3 v S W)(h0:Below base w0 W)(hb:base<=W.heap.size)(hS:S.length<=5000)(hp:∀s W',Below base w0 W'->Calls Tryz.prog g (#[.int .i64 s]++cp) W' fun e w'=>e=.returned (.bool (x? s))/\Below W'.heap.size W' w') :
  Calls Tryz.prog 110 #[v,.func (.func g) #[] cp] W fun e w' => ∃A c,e=.returned (.slice A (S.filter fun s => !x? s).length c)/\Rd encI 1 w'.heap.size A c (S.filter fun s => !x? s) w'/\Below base W w':=by
 obtain⟨A,c,rfl,hrd⟩:=ho.rd qAZ;by_cases hS0:S=[]
 ·subst hS0;refine (qTY g eg cp A c W hrd).mono ?_;rintro e w' ⟨rfl,h⟩;exact⟨A,c,rfl,(hrd.below h).more h.size,h.mono hb⟩
 ·obtain⟨_,⟨e1,e2⟩|⟨b,cap,cs,e1,e2,e3,_⟩⟩:=id ho
  ·exact absurd (List.eq_nil_of_length_eq_zero e2) hS0
  ·simp only[Value.slice.injEq]at e1;obtain⟨rfl,_,rfl⟩:=e1;have hbw:b<W.heap.size:=(Array.getElem?_eq_some_iff.1 e3).1;refine (qNX g eg cp x? S b c base W W e2 hbw bR (IRow.of_own ho) (by omega) hrd.1 hrd.2.1 hb (fun s W' h=>hp s W' (h0.trans h))).mono ?_;rintro e w' ⟨rfl,h1,h2⟩;exact⟨_,_,rfl,h1,h2⟩
def woP (T bx m c base:Nat)(A:Option Addr)(S:List Int)(x:Int)(R:RV)(r:Bool)(ph:Bool)(i:Nat)(v:Value)(W:World) : Prop := match i with
 |0=>v=.pointer (some ⟨T,0,none⟩)
 |1=>v=.slice A m c
 |2=>ph=false->Own encI 1 base 3 v S W
 |3=>v=.func (.func 112) #[] #[.pointer (some ⟨bx,0,none⟩)]
 | 4 => ∃A' c',v=.slice A' (qBQ S x).length c'/\Rd encI 1 W.heap.size A' c' (qBQ S x) W
 |5=>v=.agg #[.int .u8 R.kind,.string (bs R.dep.name),.int .u8 R.dep.op,.int .i64 R.dep.evr.epoch,.string (bs R.dep.evr.ver),.string (bs R.dep.evr.rel),.slice R.addr R.args.length R.cap]
 |6=>v=.bool r
 |7=>v=.bool r
 | _=>False
theorem qVR (T bx m c base:Nat)(A:Option Addr)(S:List Int)(x:Int)(R:RV)(r:Bool)(w:World):∀ph i v w' w'',(Below w.heap.size w w' \/ Below base w w')->woP T bx m c base A S x R r ph i v w'->Below w'.heap.size w' w''->woP T bx m c base A S x R r ph i v w'' := by
 intro ph i v w' w'' _ h hb
 match i,h with
 |0,h|1,h=>exact h
 |2,h=>exact fun e=>Own.below (h e) hb lR
 |3,h=>exact h
 |4,h=>exact h.elim fun A h=>h.elim fun c h=>⟨A,c,h.1,(h.2.below hb).more hb.size⟩
 |5,h|6,h|7,h=>exact h
 | (k+8),h=>exact h.elim
theorem qTC (T bx m c base:Nat)(A:Option Addr)(S:List Int)(x:Int)(R:RV)(r:Bool)(w:World):∀i v w' w'',i≠4->Below w.heap.size w w'->woP T bx m c base A S x R r false i v w'->Below base w' w''->woP T bx m c base A S x R r true i v w'' := by
 intro i v w' w'' hne _ h hb
 match i,h with
 |0,h|1,h=>exact h
 |2,h=>exact fun e=>by cases e
 |3,h=>exact h
 |4,h=>exact absurd rfl hne
 |5,h|6,h|7,h=>exact h
 | (k+8),h=>exact h.elim
theorem qKN {T X N:Nat}{L:List Pk}{w:World}(hT:TruthAt T X N L w)(hI:WhIn w)(A:Option Addr)(c:Nat)(S:List Int)(hS:Rd encI 1 w.heap.size A c S w)(hSl:S.length<=5000)(x:Int)(R:RV)(hR:RTree w.heap.size w R)(hp:R.tree.parts<=1000000) :
  Calls Tryz.prog 53 #[.pointer (some ⟨T,0,none⟩),.slice A S.length c,.int .i64 x,R.val] w fun e w'=>e=.returned (.bool (Tr.satS N (pvL L) (qBQ S x) R.tree))/\Below w.heap.size w w':=by
 have b1:=((Below.refl w.heap.size w).alloc lR (.cells #[.int .i64 x] 3)).alloc (by simp) (.cells #[.int .u8 R.kind,.string (bs R.dep.name),.int .u8 R.dep.op,.int .i64 R.dep.evr.epoch,.string (bs R.dep.evr.ver),.string (bs R.dep.evr.rel),.slice R.addr R.args.length R.cap] 39);have RB:=RBx.new R (w.alloc (.cells #[.int .i64 x] 3));obtain⟨V,hV⟩:∃V,V=(w.alloc (.cells #[.int .i64 x] 3)).alloc (.cells #[.int .u8 R.kind,.string (bs R.dep.name),.int .u8 R.dep.op,.int .i64 R.dep.evr.epoch,.string (bs R.dep.evr.ver),.string (bs R.dep.evr.rel),.slice R.addr R.args.length R.cap] 39):=⟨_,rfl⟩;rw[<- hV]at b1 RB;have sz:(w.alloc (.cells #[.int .i64 x] 3)).heap.size=w.heap.size+1:=World.size_alloc _ _;rw[sz]at RB;have xc:V.cell? ⟨w.heap.size,0,none⟩=some (.int .i64 x):=by rw[hV];simp[go_sem]
 have xl:w.heap.size<V.heap.size:=by rw[hV];simp;omega
 have CL:=hid (fun W (hb:Below V.heap.size V W)=>show Calls Tryz.prog 111 #[.slice A S.length c] W _ from qPA A c S W ((hS.below (b1.trans (hb.mono b1.size))).more (Nat.le_trans b1.size hb.size)) hSl);have ST:=hid (fun W (hb:Below V.heap.size V W) A' c' (hr:Rd encI 1 W.heap.size A' c' (qBQ S x) W)=>qFQ (hT.then (b1.trans (hb.mono b1.size))) (hI.below (b1.trans (hb.mono b1.size))) A' c' (qBQ S x) hr R ((hR.keeps (b1.trans (hb.mono b1.size))).more (Nat.le_trans b1.size hb.size)) hp);have DL:=hid (fun W (hb:Below V.heap.size V W) v (ho:Own encI 1 V.heap.size 3 v S W)=>qX6 S x ▸ qNY 112 (fun _ _=>rfl) #[.pointer (some ⟨w.heap.size,0,none⟩)] (fun z=>z == x) S V.heap.size V W v ho hb hb.size hSl (fun z W' hb'=>qTE z x w.heap.size W' ((hb'.cell (p:=⟨w.heap.size,0,none⟩) xl).trans xc)));obtain⟨m,hm⟩:∃m,S.length=m:=⟨_,rfl⟩;obtain⟨r,hr⟩:∃r,Tr.satS N (pvL L) (qBQ S x) R.tree=r:=⟨_,rfl⟩;rw[hm]at CL |-;rw[hr]at ST |-;unfold RV.val at *;have B1:=hid b1;have RBV:=hid RB;have HV:=hid hV;clear hT hI hS hR hp hm hr b1 RB xc xl sz hSl hV
 go_enter Tryz.func53,Tryz.ntmps53
 go_wp2_with fail
 rw[<- HV.out];clear HV;refine qGU (PP:=woP T w.heap.size m c V.heap.size A S x R r) (RelS:=Below V.heap.size) 8 4 rfl (by kernel_rfl) (by kernel_rfl) (by decide) (by decide) (by decide) (qVR T w.heap.size m c V.heap.size A S x R r V) (qTC T w.heap.size m c V.heap.size A S x R r V) (fun b c h1 h2=>h1.trans (h2.mono h1.size)) (fun b c h1 h2=>h1.trans h2) (fun ii=>match ii with|7=>.bool false|_=>undef) (by simp[qA4,gQ]) ?_ ?_ ?_
 ·intro ph i o vs W hi hne ho he hor _ K hK;simp only[gT,qA4,gQ]at hK |-;have BW:=hid (show Below V.heap.size V W from hor.elim id id);have RBW:=hid (RBV.out.then BW.out);obtain rfl|rfl|rfl|rfl|rfl|rfl|rfl|rfl:=c8_ hi<;>simp only[gE]at ho<;>subst ho
  iterate 2 ·rw[if_pos (by rfl)];simp only[gQ]at hK;have HK:=hid hK;clear hK he;clear hor hi hne;go_simp;exact HK.out _ _ rfl bR
  ·have e1:vs 1=_:=dq he 1;rw[e1]at hK |-;rw[if_pos (by rfl)];simp only[gQ]at hK;have HK:=hid hK;clear hK he;clear hor hi hne;have CLW:=CL.out W BW.out;go_simp;go_at_call 111
   refine CLW.mono ?_;rintro en w9 ⟨v9,rfl,ho,h⟩;go_simp;exact HK.out _ _ (fun _=>qRO ho BW.out.size) h
  ·rw[if_pos (by rfl)];simp only[gQ]at hK;have HK:=hid hK;clear hK he;clear hor hi hne;go_simp;exact HK.out _ _ rfl bR
  ·exact absurd rfl hne
  ·rw[if_pos (by rfl)];simp only[gQ]at hK;have HK:=hid hK;clear hK he;clear hor hi hne;obtain⟨_,c0,c1,c2,c3,c4,c5,c6⟩:=RBW.out;go_simp;exact HK.out _ _ rfl bR
  ·have e0:vs 0=_:=dq he 0;rw[e0]at hK |-;obtain⟨A9,c9,e9,r9⟩:=dq he 4;rw[e9]at hK |-;have R9:=hid r9;have e5:vs 5=_:=dq he 5;rw[e5]at hK |-;rw[if_pos (by rfl)];simp only[gQ]at hK;have HK:=hid hK;clear hK he;clear hor hi hne;have STW:=ST.out W BW.out A9 c9 R9.out;go_simp;go_at_call 40
   refine STW.mono ?_;rintro en w9 ⟨rfl,h⟩;go_simp;exact HK.out _ _ rfl h
  ·have e6:vs 6=_:=dq he 6;rw[e6]at hK |-;rw[if_pos (by rfl)];simp only[gQ]at hK;have HK:=hid hK;clear hK he;clear hor hi hne;go_simp;exact HK.out _ _ rfl bR
 ·intro o vs W ho he hBW K hK;simp only[gT,qA4,gQ]at hK |-;have BW:=hid hBW;simp only[gE]at ho;subst ho;have OW:=hid (show Own encI 1 V.heap.size 3 (vs 2) S W from (dq he 2:woP T w.heap.size m c V.heap.size A S x R r false 2 (vs 2) W) rfl);have e3:vs 3=_:=dq he 3;rw[e3]at hK |-;rw[if_pos (by rfl)];simp only[gQ]at hK;have HK:=hid hK;clear hK he;have DLW:=DL.out W BW.out (vs 2) OW.out;generalize vs 2=y2 at *;clear hBW;go_simp;go_at_call 110
  refine DLW.mono ?_;rintro en w9 ⟨A9,c9,rfl,hr9,h⟩;go_simp;exact HK.out _ _ ⟨A9,c9,rfl,hr9⟩ h
 ·intro vs W hall hBW;have eo:vs 7=.bool r:=hall 7 (by decide);simp only[gT,qA4,qAB,qAA,gP];rw[eo];generalize vs 0=y0,vs 1=y1,vs 2=y2,vs 3=y3,vs 4=y4,vs 5=y5,vs 6=y6;have BX:=hid (B1.out.trans (hBW.mono B1.out.size));clear hall hBW eo;go_wp2_with fail
  go_ret;exact⟨rfl,BX.out⟩
