/- VmRefC, VmRefD, EvCmp -/
import Derived.Test.YteobmfpbgnmffaaGreatDoorT02
import Derived.Sort.Walk0
import Derived.Deep.RegionWith
set_option linter.unusedVariables false
set_option maxHeartbeats 2000000
set_option maxRecDepth 100000
open Go.Lib (hid)
set_option linter.unusedSimpArgs false
namespace Go.Proofs.YteobmfpbgnmffaaGreatDoor
open Go.RowKit Go.Shelf
section
theorem qD6:∀a : qAF,Op.bytesLess a a=false
  | []=>rfl
  | x::a=>by simp[Op.bytesLess,qD6 a]
theorem qMK:∀a b : qAF,Op.bytesLess a b=false->Op.bytesLess b a=false->a=b
  | [],[],_,_=>rfl
  | [],_::_,h,_=>by simp[Op.bytesLess]at h
  | _::_,[],_,h=>by simp[Op.bytesLess]at h
  | x::a,y::b,h1,h2=>by
    simp only[Op.bytesLess,Bool.or_eq_false_iff,decide_eq_false_iff_not,Bool.and_eq_false_iff,beq_eq_false_iff_ne,ne_eq]at h1 h2;have e:x=y:=by
      apply UInt8.toNat_inj.1;have q1:=h1.1;have q2:=h2.1;rw[UInt8.lt_iff_toNat_lt]at q1 q2;omega
    subst e
    have r1 : Op.bytesLess a b = false := by rcases h1.2 with h | h; · exact absurd rfl h
                                             · simpa using h
    have r2 : Op.bytesLess b a = false := by rcases h2.2 with h | h; · exact absurd rfl h
                                             · simpa using h
    rw[qMK a b r1 r2]
theorem qFF:∀a b : qAF,Op.bytesLess a b=true->Op.bytesLess b a=false
  | [],[],h=>by simp[Op.bytesLess]at h
  | [],_::_,_=>by simp[Op.bytesLess]
  | _::_,[],h=>by simp[Op.bytesLess]at h
  | x::a,y::b,h=>by
    simp only[Op.bytesLess,Bool.or_eq_true,decide_eq_true_eq,Bool.and_eq_true,beq_iff_eq]at h;simp only[Op.bytesLess,Bool.or_eq_false_iff,decide_eq_false_iff_not,Bool.and_eq_false_iff,beq_eq_false_iff_ne,ne_eq];rcases h with h|⟨rfl,h⟩
    · rw[UInt8.lt_iff_toNat_lt]at h;refine⟨by rw[UInt8.lt_iff_toNat_lt];omega,.inl (fun e => ?_)⟩;subst e;omega
    · exact⟨by rw[UInt8.lt_iff_toNat_lt];omega,.inr (qFF a b h)⟩
def qD7 (a b:Prt) : Bool := cmpP a b == -1
theorem qBA (a b:Int) : (cmpI a b = -1/\a<b) \/ (cmpI a b=0/\a=b) \/ (cmpI a b=1/\b<a) := by
  unfold cmpI;by_cases h1:a<b
  · left;simp[h1]
  by_cases h2:b<a
  · right;right;simp[h1,h2]
  · right;left;simp[h1,h2];omega
theorem qCL (a b:qAF) : (cmpL a b = -1/\Op.bytesLess a b=true) \/ (cmpL a b=0/\a=b) \/ (cmpL a b=1/\Op.bytesLess b a=true) := by
  unfold cmpL
  cases h1:Op.bytesLess a b with
  | true=>left;simp
  | false =>
    by_cases h2:a=b
    · right;left;simp[h2]
    · right;right;refine⟨by simp[h2],?_⟩
      cases h3:Op.bytesLess b a with
      | true=>rfl
      | false=>exact absurd (qMK a b h1 h3) h2
theorem qOF {a b:Prt}(h:a.1≠b.1) : qD7 a b=decide (a.1<b.1) := by
  unfold qD7 cmpP;rcases qBA a.1 b.1 with⟨e,h2⟩|⟨e,h2⟩|⟨e,h2⟩
  · rw[e];simp[h2]
  · exact absurd h2 h
  · rw[e];simp;omega
theorem qQZ {a b:Prt}(h:a.1=b.1)(h5:a.1=5)(hl:a.2.length≠b.2.length) : qD7 a b=decide (a.2.length<b.2.length) := by
  unfold qD7 cmpP;rw[if_neg (by rw[h];rcases qBA b.1 b.1 with⟨e,h2⟩|⟨e,h2⟩|⟨e,h2⟩<;>simp[e]<;>omega)];rcases qBA a.2.length b.2.length with⟨e,h2⟩|⟨e,h2⟩|⟨e,h2⟩
  · rw[if_pos ⟨h5,h ▸ h5,by rw[e];decide⟩,e];simp;omega
  · exact absurd (by omega) hl
  · rw[if_pos ⟨h5,h ▸ h5,by rw[e];decide⟩,e];simp;omega
theorem qR0 {a b:Prt}(h:a.1=b.1)(hl:a.1=5->a.2.length=b.2.length) : qD7 a b=Op.bytesLess a.2 b.2 := by
  unfold qD7 cmpP;rw[if_neg (by rw[h];rcases qBA b.1 b.1 with⟨e,h2⟩|⟨e,h2⟩|⟨e,h2⟩<;>simp[e]<;>omega)];rw[if_neg (by
    rintro⟨h1,h2,h3⟩;rcases qBA a.2.length b.2.length with⟨e,h4⟩|⟨e,h4⟩|⟨e,h4⟩
    · have:=hl h1;omega
    · exact h3 e
    · have:=hl h1;omega)]
  rcases qCL a.2 b.2 with⟨e,h4⟩|⟨e,h4⟩|⟨e,h4⟩
  · rw[e,h4];rfl
  · rw[e,h4,qD6];rfl
  · rw[e,qFF _ _ h4];rfl
def Bx2 (w:World)(ka kb:Int)(ta tb:qAF)(A:World) : Prop :=
  A.cell? ⟨w.heap.size,0,none⟩=some (.int .u8 ka)/\A.cell? ⟨w.heap.size,1,none⟩=some (.string (bs ta))/\A.cell? ⟨w.heap.size+1,0,none⟩=some (.int .u8 kb)/\A.cell? ⟨w.heap.size+1,1,none⟩=some (.string (bs tb))/\Below w.heap.size w A
theorem bx2 (w:World)(ka kb:Int)(ta tb:qAF) : Bx2 w ka kb ta tb ((w.alloc (.cells #[.int .u8 ka,.string (bs ta)] 223)).alloc (.cells #[.int .u8 kb,.string (bs tb)] 223)) :=
  ⟨(World.cell?_alloc_past _ _ _ (by simp)).trans ((World.cell?_alloc_at _ _ _ _ rfl).trans rfl),(World.cell?_alloc_past _ _ _ (by simp)).trans ((World.cell?_alloc_at _ _ _ _ rfl).trans rfl),
   (World.cell?_alloc_at _ _ _ _ (by simp)).trans rfl,(World.cell?_alloc_at _ _ _ _ (by simp)).trans rfl,(bR.alloc lR _).alloc (by simp) _⟩
theorem qD5 (a b:Prt)(w:World) : Calls Tryz.prog 205 #[.agg #[.int .u8 a.1,.string (bs a.2)],.agg #[.int .u8 b.1,.string (bs b.2)]] w fun e w'=>e=.returned (.bool (qD7 a b))/\Below w.heap.size w w' := by
  have q:=bx2 w a.1 b.1 a.2 b.2;have L1:=hid (fun h=>qOF (a:=a) (b:=b) h);have L2:=hid (fun h=>qQZ (a:=a) (b:=b) h);have L3:=hid (fun h=>qR0 (a:=a) (b:=b) h);obtain⟨ka,ta⟩:=a;obtain⟨kb,tb⟩:=b;dsimp only at q L1 L2 L3 |-
  go_enter Tryz.func205,Tryz.ntmps205
  obtain⟨_,_,_,_,hB⟩:=q;by_cases hk:ka=kb
  · subst hk;by_cases h5:ka=5
    · subst h5;by_cases hl:ta.length=tb.length
      · have hl0:(((bs ta).size:Int) == ((bs tb).size:Int))=true:=by rw[qAO,qAO,hl];simp
        have hl1:(((bs ta).size:Int) != ((bs tb).size:Int))=false:=by rw[qAO,qAO,hl];simp
        have H:=hid (L3.out rfl (fun _=>hl));clear hl;go_wp2
        go_ret;exact⟨qA8 (by rw[H.out,qA3,qA3]),hB⟩
      · have hl0:(((bs ta).size:Int) == ((bs tb).size:Int))=false:=by rw[qAO,qAO];simp;omega
        have hl1:(((bs ta).size:Int) != ((bs tb).size:Int))=true:=by rw[qAO,qAO];simp;omega
        have H:=hid (L2.out rfl rfl hl);clear hl;go_wp2
        go_ret;exact⟨qA8 (by simp[H.out,qAO]),hB⟩
    · have h50:(ka == 5)=false:=by simpa using h5
      have H:=hid (L3.out rfl (fun h=>absurd h h5));go_wp2
      go_ret;exact⟨qA8 (by rw[H.out,qA3,qA3]),hB⟩
  · have hk0:(ka == kb)=false:=by simpa using hk
    have H:=hid (L1.out hk);go_wp2
    go_ret;exact⟨qA8 H.out.symm,hB⟩
def atP (l:List Prt)(i:Nat) : Prt := (l[i]?).getD fin
theorem qW2 (l:List Prt)(A:Option Addr)(cap i:Nat)(w:World)(h:Rd encP 2 w.heap.size A cap l w) : Calls Tryz.prog 206 #[.slice A l.length cap,.int .i64 (i:Int)] w fun e w'=>e=.returned (.agg #[.int .u8 (atP l i).1,.string (bs (atP l i).2)])/\Below w.heap.size w w' := by
  have hl:=h.len;by_cases hi:i<l.length
  · obtain⟨b,o,rfl,hb,x0,x1⟩:=h.at2 (f:=fun p:Prt=>.int .u8 p.1) (g:=fun p:Prt=>.string (bs p.2)) (fun _=>rfl) hi;have ha:atP l i=l[i]:=by simp[atP,hi]
    rw[ha];generalize l[i]=p at *;generalize hn:l.length=n at *;have i0:(0:Int)<=(i:Int):=by omega
    have i1:(i:Int)<(n:Int):=by omega
    clear h ha
    go_enter Tryz.func206,Tryz.ntmps206
    go_wp2
    refine bodyPost_ret (v:=.agg #[.int .u8 p.1,.string (bs p.2)]) (by simp[results,Tryz.results206,go_sem]) rfl ?_;exact⟨rfl,bR.alloc lR _⟩
  · have ha:atP l i=fin:=by simp[atP,List.getElem?_eq_none (by omega:l.length<=i)]
    rw[ha];generalize hn:l.length=n at *;have i1:(n:Int)<=(i:Int):=by omega
    clear h ha
    go_enter Tryz.func206,Tryz.ntmps206
    go_wp2
    refine bodyPost_ret (v:=.agg #[.int .u8 2,.string ⟨#[]⟩]) (by simp[results,Tryz.results206,go_sem]) rfl ?_;exact⟨rfl,bR.alloc lR _⟩
theorem qMM (a b:Int) : cmpI b a = - cmpI a b := by
  rcases qBA a b with⟨e,h⟩|⟨e,h⟩|⟨e,h⟩<;>rcases qBA b a with⟨e2,h2⟩|⟨e2,h2⟩|⟨e2,h2⟩<;>rw[e,e2]<;>first|rfl|(exfalso;omega)
theorem qTU (a b:qAF) : cmpL b a = - cmpL a b := by
  rcases qCL a b with⟨e,h⟩|⟨e,h⟩|⟨e,h⟩<;>rcases qCL b a with⟨e2,h2⟩|⟨e2,h2⟩|⟨e2,h2⟩<;>rw[e,e2]<;>first|rfl|skip
  · rw[qFF _ _ h]at h2;cases h2
  · rw[h2,qD6]at h;cases h
  iterate 2 · rw[h,qD6]at h2;cases h2
  · rw[h2,qD6]at h;cases h
  · rw[qFF _ _ h]at h2;cases h2
theorem qI0 (a b:Prt) : cmpP a b=or3 (cmpI a.1 b.1) (if a.1=5/\b.1=5 then cmpI a.2.length b.2.length else 0) (cmpL a.2 b.2) := by
  by_cases h:a.1=5/\b.1=5
  · rw[qJ1 h.1 h.2,if_pos h]
  · rw[qHZ h,if_neg h]
theorem qXD (a b c:Int) : or3 (-a) (-b) (-c) = - or3 a b c := by
  unfold or3;by_cases h1:a=0<;>by_cases h2:b=0<;>simp[h1,h2]
theorem qTV (a b:Prt) : cmpP b a = - cmpP a b := by
  rw[qI0,qI0,<- qXD,qMM a.1 b.1,qTU a.2 b.2]
  congr 1
  by_cases h:a.1=5/\b.1=5
  · rw[if_pos h,if_pos ⟨h.2,h.1⟩,qMM]
  · rw[if_neg h,if_neg (fun h2=>h ⟨h2.2,h2.1⟩)];rfl
theorem qUQ {a b c:Int}(h:or3 a b c=0) : a=0/\c=0 := by
  unfold or3 at h;by_cases h1:a=0<;>by_cases h2:b=0<;>simp_all
theorem qQ8 {a b:Prt}(h:cmpP a b=0) : a=b := by
  rw[qI0]at h;obtain⟨h1,h2⟩:=qUQ h;have e1:a.1=b.1:=by rcases qBA a.1 b.1 with⟨e,h3⟩|⟨e,h3⟩|⟨e,h3⟩<;>simp_all
  have e2:a.2=b.2:=by rcases qCL a.2 b.2 with⟨e,h3⟩|⟨e,h3⟩|⟨e,h3⟩<;>simp_all
  exact Prod.ext e1 e2
theorem qRK {a b c:Int}(ha:a = -1 \/ a=0 \/ a=1)(hb:b = -1 \/ b=0 \/ b=1)(hc:c = -1 \/ c=0 \/ c=1) : or3 a b c = -1 \/ or3 a b c=0 \/ or3 a b c=1 := by
  unfold or3;by_cases h1:a=0<;>by_cases h2:b=0<;>simp_all
theorem qEQ (a b:Int) : cmpI a b = -1 \/ cmpI a b=0 \/ cmpI a b=1 := by rcases qBA a b with⟨e,_⟩|⟨e,_⟩|⟨e,_⟩<;>simp[e]
theorem qNU (a b:qAF) : cmpL a b = -1 \/ cmpL a b=0 \/ cmpL a b=1 := by rcases qCL a b with⟨e,_⟩|⟨e,_⟩|⟨e,_⟩<;>simp[e]
theorem qDF (a b:Prt) : cmpP a b = -1 \/ cmpP a b=0 \/ cmpP a b=1 := by
  rw[qI0];refine qRK (qEQ _ _) ?_ (qNU _ _);by_cases h:a.1=5/\b.1=5
  · rw[if_pos h];exact qEQ _ _
  · rw[if_neg h];simp
theorem qO5 {k:Int}{c:UInt8}(hk:k≠2):∀(l:qAF) (r:List Prt),(∀p∈r,p.1≠2) -> ∀p∈glue k c l r,p.1≠2
  | [],r,hr,p,hp=>by
    simp only[glue,List.mem_cons]at hp;rcases hp with rfl|hp
    · exact hk
    · exact hr p hp
  | d::l,[],hr,p,hp=>by
    simp only[glue,List.mem_cons]at hp;rcases hp with rfl|hp
    · exact hk
    · exact hr p hp
  | d::l,(j,t)::r,hr,p,hp=>by
    simp only[glue]at hp;split at hp
    · simp only[List.mem_cons]at hp;rcases hp with rfl|hp
      · exact hr (j,t) (by simp)
      · exact hr p (by simp[hp])
    · simp only[List.mem_cons]at hp;rcases hp with rfl|hp
      · exact hk
      · exact hr p (by simpa using hp)
theorem qWD (c:UInt8) : kk c≠2 := by unfold kk;rcases qMX c.toNat with h|h|h|h|h<;>rw[h]<;>decide
theorem qEB:∀(l:qAF),∀p∈raw l,p.1≠2
  | [],p,hp=>by simp[raw]at hp
  | c::l,p,hp=>by
    rw[raw]at hp;split at hp
    · exact qEB l p hp
    split at hp
    · simp only[List.mem_cons]at hp;rcases hp with rfl|hp
      · exact qWD c
      · exact qEB l p hp
    · exact qO5 (qWD c) l (raw l) (qEB l) p hp
theorem qK1 (l:qAF):∀p∈pts l,p.1≠2 := by
  intro p hp;simp only[pts,List.mem_map]at hp;obtain⟨q,hq,rfl⟩:=hp;exact qEB l q hq
theorem qPX {l:List Prt}{k:Nat}(h:k<l.length) : atP l k=l[k] := by simp[atP,h]
theorem qPW {l:List Prt}{k:Nat}(h:l.length<=k) : atP l k=fin := by simp[atP,h]
theorem qW1 {l:List Prt}{k:Nat}(h:k<=l.length)(h2:k<(l++[fin]).length) : (l++[fin])[k]=atP l k := by
  by_cases e:k<l.length
  · rw[List.getElem_append_left e,qPX e]
  · obtain rfl:k=l.length:=by omega
    rw[qPW lR];simp
theorem qNV {a b:qAF}{k:Nat}(h1:k<=(pts a).length)(h2:k<=(pts b).length)(hc:comp a b=cmpV ((pts a++[fin]).drop k) ((pts b++[fin]).drop k)) :
    (cmpP (atP (pts a) k) (atP (pts b) k)≠0->comp a b=cmpP (atP (pts a) k) (atP (pts b) k)) /\
    (cmpP (atP (pts a) k) (atP (pts b) k)=0->(k<(pts a).length \/ k<(pts b).length)->k<(pts a).length/\k<(pts b).length/\comp a b=cmpV ((pts a++[fin]).drop (k+1)) ((pts b++[fin]).drop (k+1))):=by
  rw[qQ9 (by simp;omega) (by simp;omega),qW1 h1,qW1 h2]at hc;refine⟨fun h=>by rw[if_pos h]at hc;exact hc,fun h h3 => ?_⟩;rw[if_neg (by simpa using h)]at hc;have e:=qQ8 h;by_cases ha:k<(pts a).length<;>by_cases hb:k<(pts b).length
  · exact⟨ha,hb,hc⟩
  · rw[qPX ha,qPW (by omega)]at e;exact absurd (by rw[e];rfl) (qK1 a _ (List.getElem_mem ha))
  · rw[qPX hb,qPW (by omega)]at e;exact absurd (by rw[<- e];rfl) (qK1 b _ (List.getElem_mem hb))
  · omega
theorem qQB {a b:qAF}{k:Nat}(h1:k=(pts a).length)(h2:k=(pts b).length)(hc:comp a b=cmpV ((pts a++[fin]).drop k) ((pts b++[fin]).drop k)) : comp a b=0 := by
  rw[hc]
  conv=>lhs;arg 1;rw[h1,List.drop_left]
  rw[h2,List.drop_left];decide
end
section
theorem qK4 (a b:ByteArray)(w:World)(ha:a.size<=1000000)(hb:b.size<=1000000) : Calls Tryz.prog 179 #[.string a,.string b] w fun e w'=>e=.returned (.int .i64 (comp a.toList b.toList))/\Below w.heap.size w w' := by
  have na:=qGA a.toList;have nb:=qGA b.toList;rw[qA7]at na nb;have hround:=hid (fun k => @qNV a.toList b.toList k);have hlast:=hid (fun k => @qQB a.toList b.toList k);have hcomp:=hid (show comp a.toList b.toList=cmpV (pts a.toList++[fin]) (pts b.toList++[fin]) from rfl);have PA:=hid (fun W=>qHR a W (by omega));have PB:=hid (fun W=>qHR b W (by omega));generalize pts a.toList=la at *;generalize pts b.toList=lb at *;generalize comp a.toList b.toList=res at *
  go_enter Tryz.func179,Tryz.ntmps179
  go_wp2_with fail
  go_at_call 204
  refine (PA.out w).mono ?_;rintro e w1 ⟨v,rfl,hv,hb1⟩;obtain⟨A,ca,rfl,hrdA⟩:=hv.rd (fun _=>rfl);clear hv;go_wp2_with fail
  go_at_call 204
  refine (PB.out w1).mono ?_;rintro e w2 ⟨v,rfl,hv,hb2⟩;obtain⟨Bm,cb,rfl,hrdB⟩:=hv.rd (fun _=>rfl);clear hv PA PB;have hrA:=hrdA.withB hb2;have hBw:Below w.heap.size w w2:=hb1.trans (hb2.mono hb1.size);clear hrdA hb1 hb2;have RA:=hid (fun (k:Nat) W (h:Below w2.heap.size w2 W)=>qW2 la A ca k W ((hrA.below h).more h.size));have RB:=hid (fun (k:Nat) W (h:Below w2.heap.size w2 W)=>qW2 lb Bm cb k W ((hrdB.below h).more h.size));go_wp2_with fail
  go_loopw[7] (fun i wr => ∃k:Nat,k<=la.length/\k<=lb.length/\i=.int .i64 (k:Int)/\RowKit.Hid (res=cmpV ((la++[fin]).drop k) ((lb++[fin]).drop k))/\Below w2.heap.size w2 wr) (fun i _=>la.length+1 - (intOf i).toNat)
  case atStart=>exact⟨0,by omega,by omega,rfl,hid (by rw[hcomp.out];rfl),Below.refl _ _⟩
  case round =>
    obtain⟨k,hk1,hk2,rfl,hc,hB⟩:=hrel;by_cases hlt:k<la.length \/ k<lb.length
    · have H:=hid (hround.out k hk1 hk2 hc.out);have hneg:=qTV (atP la k) (atP lb k);rcases qDF (atP la k) (atP lb k) with hz|hz|hz
      · have hl1:qD7 (atP la k) (atP lb k)=true:=by unfold qD7;rw[hz];rfl
        have H2:=hid (show (-1:Int)=res by rw[H.out.1 (by rw[hz];decide),hz]);clear hz hneg;rcases (show k<la.length \/ (¬k<la.length/\k<lb.length) by omega) with hlt|⟨hltn,hlt⟩
        all_goals
          go_wp2_with fail
          go_at_call 206
          refine (RA.out k wr hB).mono ?_;rintro e w3 ⟨rfl,h⟩;have B3:=hB.trans (h.mono hB.size);clear h;go_wp2_with fail
          go_at_call 206
          refine (RB.out k w3 B3).mono ?_;rintro e w4 ⟨rfl,h⟩;have B4:=B3.trans (h.mono B3.size);clear h;go_wp2_with fail
          go_at_call 205
          refine (qD5 (atP la k) (atP lb k) w4).mono ?_;rintro e w5 ⟨rfl,h⟩;have B5:=B4.trans (h.mono B4.size);clear h;go_wp2
          go_ret;exact⟨qAU H2.out,hBw.trans (B5.mono hBw.size)⟩
      · have hl1:qD7 (atP la k) (atP lb k)=false:=by unfold qD7;rw[hz];rfl
        have hl2:qD7 (atP lb k) (atP la k)=false:=by unfold qD7;rw[hneg,hz];rfl
        obtain⟨h1,h2,h3⟩:=H.out.2 hz hlt;have H2:=hid h3;clear hz hneg h3 hlt;go_wp2_with fail
        go_at_call 206
        refine (RA.out k wr hB).mono ?_;rintro e w3 ⟨rfl,h⟩;have B3:=hB.trans (h.mono hB.size);clear h;go_wp2_with fail
        go_at_call 206
        refine (RB.out k w3 B3).mono ?_;rintro e w4 ⟨rfl,h⟩;have B4:=B3.trans (h.mono B3.size);clear h;go_wp2_with fail
        go_at_call 205
        refine (qD5 (atP la k) (atP lb k) w4).mono ?_;rintro e w5 ⟨rfl,h⟩;have B5:=B4.trans (h.mono B4.size);clear h;go_wp2_with fail
        go_at_call 206
        refine (RB.out k w5 B5).mono ?_;rintro e w6 ⟨rfl,h⟩;have B6:=B5.trans (h.mono B5.size);clear h;go_wp2_with fail
        go_at_call 206
        refine (RA.out k w6 B6).mono ?_;rintro e w7 ⟨rfl,h⟩;have B7:=B6.trans (h.mono B6.size);clear h;go_wp2_with fail
        go_at_call 205
        refine (qD5 (atP lb k) (atP la k) w7).mono ?_;rintro e w8 ⟨rfl,h⟩;have B8:=B7.trans (h.mono B7.size);clear h;go_wp2
        go_roundw
        case rel=>exact⟨k+1,by omega,by omega,by go_num,H2,B8⟩
        case measure=>simp[intOf];omega
      · have hl1:qD7 (atP la k) (atP lb k)=false:=by unfold qD7;rw[hz];rfl
        have hl2:qD7 (atP lb k) (atP la k)=true:=by unfold qD7;rw[hneg,hz];rfl
        have H2:=hid (show (1:Int)=res by rw[H.out.1 (by rw[hz];decide),hz]);clear hz hneg;rcases (show k<la.length \/ (¬k<la.length/\k<lb.length) by omega) with hlt|⟨hltn,hlt⟩
        all_goals
          go_wp2_with fail
          go_at_call 206
          refine (RA.out k wr hB).mono ?_;rintro e w3 ⟨rfl,h⟩;have B3:=hB.trans (h.mono hB.size);clear h;go_wp2_with fail
          go_at_call 206
          refine (RB.out k w3 B3).mono ?_;rintro e w4 ⟨rfl,h⟩;have B4:=B3.trans (h.mono B3.size);clear h;go_wp2_with fail
          go_at_call 205
          refine (qD5 (atP la k) (atP lb k) w4).mono ?_;rintro e w5 ⟨rfl,h⟩;have B5:=B4.trans (h.mono B4.size);clear h;go_wp2_with fail
          go_at_call 206
          refine (RB.out k w5 B5).mono ?_;rintro e w6 ⟨rfl,h⟩;have B6:=B5.trans (h.mono B5.size);clear h;go_wp2_with fail
          go_at_call 206
          refine (RA.out k w6 B6).mono ?_;rintro e w7 ⟨rfl,h⟩;have B7:=B6.trans (h.mono B6.size);clear h;go_wp2_with fail
          go_at_call 205
          refine (qD5 (atP lb k) (atP la k) w7).mono ?_;rintro e w8 ⟨rfl,h⟩;have B8:=B7.trans (h.mono B7.size);clear h;go_wp2
          go_ret;exact⟨qAU H2.out,hBw.trans (B8.mono hBw.size)⟩
    · have h1:k=la.length:=by omega
      have h2:k=lb.length:=by omega
      have H2:=hid (hlast.out k h1 h2 hc.out);clear hlt;go_wp2
      go_ret;exact⟨qAU H2.out.symm,hBw.trans (hB.mono hBw.size)⟩
end
section
structure Evr where
  epoch:Int
  ver:qAF
  rel:qAF
def Evr.val (e:Evr) : Value := .agg #[.int .i64 e.epoch,.string (bs e.ver),.string (bs e.rel)]
def ecmp (a b:Evr) : Int := if cmpI a.epoch b.epoch≠0 then cmpI a.epoch b.epoch else if comp a.ver b.ver≠0 \/ a.rel=[] \/ b.rel=[] then comp a.ver b.ver else comp a.rel b.rel
def relC (a b:Evr) : Int := if a.rel=[] \/ b.rel=[] then 0 else comp a.rel b.rel
def EBox (e:Evr)(B:Nat)(W:World) : Prop :=
  B<W.heap.size/\W.cell? ⟨B,0,none⟩=some (.int .i64 e.epoch)/\W.cell? ⟨B,1,none⟩=some (.string (bs e.ver))/\W.cell? ⟨B,2,none⟩=some (.string (bs e.rel))
theorem EBox.below {e:Evr}{B n:Nat}{W W':World}(h:EBox e B W)(hb:Below n W W')(hn:B<n) : EBox e B W' :=
  ⟨Nat.lt_of_lt_of_le h.1 hb.size,(hb.cell (p:=⟨B,0,none⟩) hn).trans h.2.1,(hb.cell (p:=⟨B,1,none⟩) hn).trans h.2.2.1,(hb.cell (p:=⟨B,2,none⟩) hn).trans h.2.2.2⟩
theorem qTN (a b:Evr)(A B:Nat)(w:World)(ha:EBox a A w)(hb:EBox b B w) :
    Calls Tryz.prog 173 #[.pointer (some ⟨A,0,none⟩),.pointer (some ⟨B,0,none⟩)] w fun e w'=>e=.returned (.int .i64 (cmpI a.epoch b.epoch))/\Below w.heap.size w w':=by
  obtain⟨_,a0,a1,a2⟩:=ha;obtain⟨_,b0,b1,b2⟩:=hb
  go_enter Tryz.func173,Tryz.ntmps173
  go_wp2_with fail
  go_at_call 174
  refine (qI1 _ _ _).mono ?_;rintro e w1 ⟨rfl,rfl⟩;go_wp2
  go_ret;exact⟨rfl,Below.refl _ _⟩
theorem qTO (a b:Evr)(A B:Nat)(w:World)(ha:EBox a A w)(hb:EBox b B w)(h1:a.ver.length<=1000000)(h2:b.ver.length<=1000000) :
    Calls Tryz.prog 175 #[.pointer (some ⟨A,0,none⟩),.pointer (some ⟨B,0,none⟩)] w fun e w'=>e=.returned (.int .i64 (comp a.ver b.ver))/\Below w.heap.size w w':=by
  obtain⟨_,a0,a1,a2⟩:=ha;obtain⟨_,b0,b1,b2⟩:=hb;have C:=hid (qMN (bs a.ver) (bs b.ver) w (by rw[qAO];exact h1) (by rw[qAO];exact h2))
  go_enter Tryz.func175,Tryz.ntmps175
  go_wp2_with fail
  go_at_call 176
  refine C.out.mono ?_;rintro e w1 ⟨rfl,hb1⟩;go_wp2
  go_ret;exact⟨qAU (by rw[qA3,qA3]),hb1⟩
theorem qTP (a b:Evr)(A B:Nat)(w:World)(ha:EBox a A w)(hb:EBox b B w)(h1:a.rel.length<=1000000)(h2:b.rel.length<=1000000) :
    Calls Tryz.prog 177 #[.pointer (some ⟨A,0,none⟩),.pointer (some ⟨B,0,none⟩)] w fun e w'=>e=.returned (.int .i64 (relC a b))/\Below w.heap.size w w':=by
  obtain⟨_,a0,a1,a2⟩:=ha;obtain⟨_,b0,b1,b2⟩:=hb;have C:=hid (qMN (bs a.rel) (bs b.rel) w (by rw[qAO];exact h1) (by rw[qAO];exact h2));by_cases e1:a.rel=[]
  · have f1:(bs a.rel).toList=[]:=by rw[qA3,e1]
    have H:=hid (show relC a b=0 from if_pos (.inl e1));generalize relC a b=r at *;clear e1
    go_enter Tryz.func177,Tryz.ntmps177
    go_wp2_with fail
    go_ret;exact⟨qAU H.out.symm,Below.refl _ _⟩
  have f1:¬(bs a.rel).toList=[]:=by rw[qA3];exact e1
  have f2:(bs a.rel).toList.isEmpty=false:=by rw[qA3];simpa using e1
  by_cases e2:b.rel=[]
  · have f3:(bs b.rel).toList=[]:=by rw[qA3,e2]
    have H:=hid (show relC a b=0 from if_pos (.inr e2));generalize relC a b=r at *;clear e1 e2
    go_enter Tryz.func177,Tryz.ntmps177
    go_wp2_with fail
    go_ret;exact⟨qAU H.out.symm,Below.refl _ _⟩
  · have f3:¬(bs b.rel).toList=[]:=by rw[qA3];exact e2
    have f4:(bs b.rel).toList.isEmpty=false:=by rw[qA3];simpa using e2
    have H:=hid (show relC a b=comp a.rel b.rel from if_neg (by simp[e1,e2]));generalize relC a b=r at *;clear e1 e2
    go_enter Tryz.func177,Tryz.ntmps177
    go_wp2_with fail
    go_at_call 176
    refine C.out.mono ?_;rintro e w1 ⟨rfl,hb1⟩;go_wp2
    go_ret;exact⟨qAU (by rw[qA3,qA3,H.out]),hb1⟩
theorem qX0 (a b:Evr) : ecmp a b=or3 (cmpI a.epoch b.epoch) (comp a.ver b.ver) (relC a b) := by
  unfold ecmp or3 relC;by_cases h1:cmpI a.epoch b.epoch=0<;>by_cases h2:comp a.ver b.ver=0<;>by_cases h3:a.rel=[] \/ b.rel=[]<;>simp[h1,h2,h3]
def fnv (f A B:Nat) : Value := .func (.func f) #[] #[.pointer (some ⟨A,0,none⟩),.pointer (some ⟨B,0,none⟩)]
theorem qQL (a b:Evr)(A B g:Nat)(w:World)(hg:g<w.heap.size)(ha:EBox a A w)(hb:EBox b B w)(h1:a.ver.length<=1000000)(h2:b.ver.length<=1000000)(h3:a.rel.length<=1000000)(h4:b.rel.length<=1000000)
    (g0:w.cell? ⟨g,0,none⟩=some (fnv 173 A B)) (g1:w.cell? ⟨g,1,none⟩=some (fnv 175 A B)) (g2:w.cell? ⟨g,2,none⟩=some (fnv 177 A B)) :
    Calls Tryz.prog 172 #[.slice (some ⟨g,0,none⟩) 3 3] w fun e w'=>e=.returned (.int .i64 (ecmp a b))/\Below w.heap.size w w':=by
  have H:=hid (qX0 a b);have K1:=hid (fun W (h:Below w.heap.size w W)=>qTN a b A B W (ha.below h ha.1) (hb.below h hb.1));have K2:=hid (fun W (h:Below w.heap.size w W)=>qTO a b A B W (ha.below h ha.1) (hb.below h hb.1) h1 h2);have K3:=hid (fun W (h:Below w.heap.size w W)=>qTP a b A B W (ha.below h ha.1) (hb.below h hb.1) h3 h4);generalize ecmp a b=res at *;generalize cmpI a.epoch b.epoch=r1 at *;generalize comp a.ver b.ver=r2 at *;generalize relC a b=r3 at *;unfold fnv at g0 g1 g2;clear ha hb
  go_enter Tryz.func172,Tryz.ntmps172
  go_wp2_with fail
  go_loopw[8] (fun i wr => ∃k:Nat,k<=3/\i=.int .i64 (k:Int)/\(1<=k->r1=0)/\(2<=k->r2=0)/\(3<=k->r3=0)/\Below w.heap.size w wr) (fun i _=>3 - (intOf i).toNat)
  case atStart=>exact⟨0,by omega,rfl,fun h=>absurd h (by decide),fun h=>absurd h (by decide),fun h=>absurd h (by decide),Below.refl _ _⟩
  case round =>
    obtain⟨k,hk,rfl,e0,e1,e2,hB⟩:=hrel;have c0:=(hB.cell (p:=⟨g,0,none⟩) hg).trans g0;have c1:=(hB.cell (p:=⟨g,1,none⟩) hg).trans g1;have c2:=(hB.cell (p:=⟨g,2,none⟩) hg).trans g2;rcases (show k=0 \/ k=1 \/ k=2 \/ k=3 by omega) with rfl|rfl|rfl|rfl
    · by_cases hz:r1=0
      · go_wp2_with fail
        go_at_call 173
        refine (K1.out _ hB).mono ?_;rintro e w5 ⟨rfl,h⟩;have B5:=hB.trans (h.mono hB.size);clear h;go_wp2
        go_roundw
        case rel=>exact⟨1,by omega,by go_num,fun _=>hz,fun h=>absurd h (by decide),fun h=>absurd h (by decide),B5⟩
        case measure=>simp[intOf]
      · have H2:=hid (show r1=res by rw[H.out];unfold or3;simp[hz]);go_wp2_with fail
        go_at_call 173
        refine (K1.out _ hB).mono ?_;rintro e w5 ⟨rfl,h⟩;have B5:=hB.trans (h.mono hB.size);clear h;go_wp2
        go_ret;exact⟨qAU H2.out,B5⟩
    · by_cases hz:r2=0
      · go_wp2_with fail
        go_at_call 175
        refine (K2.out _ hB).mono ?_;rintro e w5 ⟨rfl,h⟩;have B5:=hB.trans (h.mono hB.size);clear h;go_wp2
        go_roundw
        case rel=>exact⟨2,by omega,by go_num,fun _=>e0 (by decide),fun _=>hz,fun h=>absurd h (by decide),B5⟩
        case measure=>simp[intOf]
      · have H2:=hid (show r2=res by rw[H.out];unfold or3;simp[e0 (by decide),hz]);go_wp2_with fail
        go_at_call 175
        refine (K2.out _ hB).mono ?_;rintro e w5 ⟨rfl,h⟩;have B5:=hB.trans (h.mono hB.size);clear h;go_wp2
        go_ret;exact⟨qAU H2.out,B5⟩
    · by_cases hz:r3=0
      · go_wp2_with fail
        go_at_call 177
        refine (K3.out _ hB).mono ?_;rintro e w5 ⟨rfl,h⟩;have B5:=hB.trans (h.mono hB.size);clear h;go_wp2
        go_roundw
        case rel=>exact⟨3,by omega,by go_num,fun _=>e0 (by decide),fun _=>e1 (by decide),fun _=>hz,B5⟩
        case measure=>simp[intOf]
      · have H2:=hid (show r3=res by rw[H.out];unfold or3;simp[e0 (by decide),e1 (by decide)]);go_wp2_with fail
        go_at_call 177
        refine (K3.out _ hB).mono ?_;rintro e w5 ⟨rfl,h⟩;have B5:=hB.trans (h.mono hB.size);clear h;go_wp2
        go_ret;exact⟨qAU H2.out,B5⟩
    · have H2:=hid (show (0:Int)=res by rw[H.out];unfold or3;simp[e0 (by decide),e1 (by decide),e2 (by decide)]);go_wp2
      go_ret;exact⟨qAU H2.out,hB⟩
theorem qFK (w:World)(e:Evr) : EBox e w.heap.size (w.alloc (.cells #[.int .i64 e.epoch,.string (bs e.ver),.string (bs e.rel)] 23)) :=
  ⟨by simp,(World.cell?_alloc_at _ _ _ _ rfl).trans rfl,(World.cell?_alloc_at _ _ _ _ rfl).trans rfl,(World.cell?_alloc_at _ _ _ _ rfl).trans rfl⟩
theorem qX1 (a b:Evr)(w:World)(h1:a.ver.length<=1000000)(h2:b.ver.length<=1000000)(h3:a.rel.length<=1000000)(h4:b.rel.length<=1000000) :
    Calls Tryz.prog 132 #[a.val,b.val] w fun e w'=>e=.returned (.int .i64 (ecmp a b))/\Below w.heap.size w w':=by
  have F:=hid (fun A B g W=>qQL a b A B g W);have q1:=qFK w a;have q2:=qFK (w.alloc (.cells #[.int .i64 a.epoch,.string (bs a.ver),.string (bs a.rel)] 23)) b;unfold Evr.val
  go_enter Tryz.func132,Tryz.ntmps132
  go_wp2_with fail
  go_at_call 172
  have B2:Below w.heap.size w (((w.alloc (.cells #[.int .i64 a.epoch,.string (bs a.ver),.string (bs a.rel)] 23)).alloc (.cells #[.int .i64 b.epoch,.string (bs b.ver),.string (bs b.rel)] 23)).alloc
      (.cells #[fnv 173 w.heap.size (w.heap.size+1),fnv 175 w.heap.size (w.heap.size+1),fnv 177 w.heap.size (w.heap.size+1)] 106)) :=
    ((bR.alloc lR _).alloc (by simp) _).alloc (by simp;omega) _
  simp only[World.size_alloc]at q2;have hn:∀(W:World) (o:Obj),Below W.heap.size W (W.alloc o):=fun W o=>bR.alloc lR o
  refine (F.out w.heap.size (w.heap.size+1) (w.heap.size+1+1) _ (by simp) ((q1.below (hn _ _) q1.1).below (hn _ _) (by simp;omega)) (q2.below (hn _ _) (by simp)) h1 h2 h3 h4
    ((World.cell?_alloc_at _ _ _ _ (by simp)).trans rfl) ((World.cell?_alloc_at _ _ _ _ (by simp)).trans rfl) ((World.cell?_alloc_at _ _ _ _ (by simp)).trans rfl)).mono ?_
  rintro e w5 ⟨rfl,h⟩;have B5:=B2.trans (h.mono (by simp;omega));clear h;go_wp2
  go_ret;exact⟨rfl,B5⟩
