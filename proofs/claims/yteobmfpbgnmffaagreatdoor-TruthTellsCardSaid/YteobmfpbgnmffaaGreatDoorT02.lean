/- VmParts, VmCmp, VmComp, VmRef -/
import Derived.Test.YteobmfpbgnmffaaGreatDoorT01
import Derived.StillTailTactics
set_option linter.unusedVariables false
set_option maxHeartbeats 2000000
set_option maxRecDepth 100000
open Go.Lib (hid)
set_option linter.unusedSimpArgs false
namespace Go.Proofs.YteobmfpbgnmffaaGreatDoor
open Go.RowKit Go.Shelf
section
attribute [local go_sem] Oper.semAt_some
attribute [local go_sem ↓ high] qBI
def encP (x:Prt) : List Value := [.int .u8 x.1,.string (bs x.2)]
def qPN (s:ByteArray)(w:World)(e:Ending)(w':World) : Prop :=
  ∃v,e=.returned v/\Own encP 2 w.heap.size 218 v (pts s.toList) w'/\Below w.heap.size w w'
theorem qRS (n:Nat)(s:ByteArray)(w:World) :
    CallsIn Fence.wide n Tryz.prog 211 #[.string s] w fun e w'=>e=.returned (.func (.func 217) #[] #[.pointer (some ⟨w.heap.size,0,none⟩)])/\w'=w.alloc (.cells #[.string s] 9):=by
  refine callsIn_of_wp Tryz.func211 rfl trivial ?_ rfl;simp only[Tryz.ntmps211,List.size_toArray,List.length_cons,List.length_nil,Nat.reduceAdd,Nat.reduceSub,Array.replicate_succ,Array.replicate_zero,List.push_toArray,List.append_toArray,List.nil_append,List.cons_append];gi_wp2
  go_ret;exact⟨rfl,rfl⟩
theorem qYJ {Bs:Nat}{A B C:World}(h:KBox Bs A B)(k:KBox Bs B C) : KBox Bs A C := ⟨Eq.trans k.1 h.1,Nat.le_trans h.2 k.2⟩
theorem qYI {Bs:Nat}{w:World}(hn:Bs<w.heap.size)(W:World)(l:Nat)(o o':Obj)(hl:w.heap.size<=l)(_:W.heap[l]?=some o)(_:o.isCells=false)(_:o.isWalk=false) : KBox Bs W (W.putObj l o') :=
  ⟨World.cell?_of_block (World.putObj_heap_other (by simp;omega)),(grownBy_putObj' W l o').size⟩
theorem qLO (n:Nat)(Bs:Nat)(s:ByteArray)(hs:s.size<=9223372036854775807)(w:World)(hB:Bs<w.heap.size)(hc:w.cell? ⟨Bs,0,none⟩=some (.string s)) :
    SeqStopsK Fence.wide n Tryz.prog 217 #[.pointer (some ⟨Bs,0,none⟩)] qDB (KBox Bs) (fun ys=>ys=pts s.toList) (fun pre=>pre <+: pts s.toList) (pts s.toList).length w :=
  fun l J Jx W hW hJ _ hY h0=>qRQ n l Bs s hs J Jx hY W ((hW.cell (p:=⟨Bs,0,none⟩) hB).trans hc) (by have:=hW.size;omega) hJ h0
theorem qMV : (Tryz.prog.info? 218).map (fun i=>(i.zero,i.size,i.bytes))=some (some (.agg #[.int .u8 0,.string ByteArray.empty]),2,24) := by kernel_rfl
def PI (w:World)(pre:List Prt)(W:World) : Prop :=
  ∃v,Boxed W w.heap.size 215 v/\W.ownsRow w.heap.size 218 2 v pre.length (pre.flatMap encP)/\True
def PIs (w:World)(s:ByteArray)(pre:List Prt)(W:World) : Prop := PI w pre W/\Boxed W (w.heap.size+1) 9 (.string s)/\Below w.heap.size w W
def PX (_:Code)(_:List Prt)(_:World) : Prop := False
theorem qY0 (c:Code){B:Nat} : OwnFrom B (PX c) := fun _ _ _ _ h _ _=>h
def PBox (x:Prt)(b:Nat)(W:World) : Prop := W.heap[b]?=some (.cells #[.int .u8 x.1,.string (bs x.2)] 218 (0,0))
theorem qYQ {x:Prt}{b:Nat}{W:World}(h:PBox x b W) : W.cell? ⟨b,0,none⟩=some (.int .u8 x.1) := by simp[World.cell?,show W.heap[b]?=_ from h]
theorem qYR {x:Prt}{b:Nat}{W:World}(h:PBox x b W) : W.cell? ⟨b,1,none⟩=some (.string (bs x.2)) := by simp[World.cell?,show W.heap[b]?=_ from h]
theorem qUV (B:Nat)(x:Prt)(a':Act)(f:Nat->Act) : OwnFrom B (fun (_:Unit) W => ∃b,a'=f b/\PBox x b W) := by
  rintro _ X Y row ⟨b,e,hb⟩ hg hrow;refine⟨b,e,(hg.block b (Array.getElem?_eq_some_iff.1 hb).1 (fun e2 => ?_)).trans hb⟩;obtain⟨_,o,ho,hc⟩:=hrow b e2.symm;rw[show X.heap[b]?=_ from hb]at ho;cases ho
  cases hc
theorem qWK (w:World)(s:ByteArray){B:Nat}(hB:w.heap.size<=B) : OwnFrom B (PIs w s) :=
  OwnFrom.and (Own.from (holdsRow_own _ _ _ _ _ _ _ _) _) (OwnFrom.and (Own.from (boxed_own _ _ _) _) (ownFrom_below lR hB))
theorem qUU (s:ByteArray)(w:World)(hs:s.size<=9223372036854775807)(hl:s.size<=1000000000000) : CallsIn Fence.wide 6 Tryz.prog 201 #[.string s] w (qPN s w) := by
  obtain⟨i0,hi,hz0,hz1,hz2⟩:=info_parts qMV;refine callsIn_of_wp_marks Tryz.func201 rfl trivial ?_ rfl;simp only[Tryz.ntmps201,List.size_toArray,List.length_cons,List.length_nil,Nat.reduceAdd,Nat.reduceSub,Array.replicate_succ,Array.replicate_zero,List.push_toArray,List.append_toArray,List.nil_append,List.cons_append];gi_wp2_with (refine⟨trivial,?_⟩;gi_at_call 211;refine (qRS _ _ _).mono ?_;rintro e w' ⟨rfl,rfl⟩)
  have b0:=Boxed.new w 215 (.slice none 0 0);have b1:=Boxed.new (w.alloc (.cells #[.slice none 0 0] 215)) 9 (.string s);simp only[World.size_alloc]at b1
  have hB0:Below w.heap.size w ((w.alloc (.cells #[.slice none 0 0] 215)).alloc (.cells #[.string s] 9)) :=
    (bR.alloc lR _).alloc (by simp) _
  refine wpIn_rangeFunc_ownH rfl (by decide) (gf:=217) (lb:=#[.pointer (some ⟨w.heap.size+1,0,none⟩)]) rfl trivial (enters_of Tryz.func217 (by kernel_rfl) rfl)
    (qLO 5 (w.heap.size+1) s (by omega) _ (by simp) b1.cell) qYJ (qYI (by simp)) bR (fun _=>rfl)
    (PIs w s) PX (qWK w s (by simp;omega)) (fun c=>qY0 c)
    ⟨⟨_,b0.alloc _,World.ownsRow_nil _ _ _ _,trivial⟩,b1,hB0⟩
    (fun x a' W => ∃b,a' = { tmps:=#[.string s,undef,.slice none 0 0,.pointer (some ⟨w.heap.size,0,none⟩),.pointer (some ⟨b,0,none⟩),.string s,.func (.func 217) #[] #[.pointer (some ⟨w.heap.size+1,0,none⟩)],.agg #[.int .u8 x.1,.string (bs x.2)],undef,undef,undef,undef,undef],defers:=[] } /\ PBox x b W)
    (fun x a'=>qUV _ x a' _) ?assign ?body ?done ?stop
  case assign =>
    rintro l pre x W K ⟨⟨v,hv,hrow,_⟩,hp1,hB⟩ hK;unfold qDB;gi_wp2
    refine hK _ _ ((KeepsOthers.alloc _ _).from _) ⟨World.cell?_alloc_lt _ _ ⟨w.heap.size+1,0,none⟩ hp1.lt,by simp⟩ ⟨⟨v,hv.alloc _,World.ownsRow.alloc hrow _,trivial⟩,hp1.alloc _,hB.alloc hB.size _⟩ ⟨W.heap.size,rfl,World.alloc_heap_new _ _⟩
  case body =>
    rintro l pre x a' W hl0 hl1 ⟨⟨v,hv,hrow,_⟩,hp1,hB⟩ ⟨b,rfl,hb⟩ hlt;have hN:=qGA s.toList;rw[qA7]at hN;have hc:=hv.cell;have hf:=hv.frozen;have hx0:=qYQ hb;have hx1:=qYR hb;obtain⟨k,t⟩:=x;dsimp only at hx0 hx1 |-;gi_wp2_with (gi_at_builtin;refine wpListIn_append_own _ rfl _ _ 215 rfl w.heap.size 218 i0 (.agg #[.int .u8 0,.string ByteArray.empty]) 2 24 Tryz.underlying215 hi hz0 hz1 hz2 rfl (by decide) _ _ _ rfl (hrow.alloc _) ⟨W.heap.size,0,none⟩ 1 1 [.int .u8 k,.string (bs t)] rfl rfl (cell_two_new _ _ _ _) (by simp[Value.oneCell']) (by simp only[maxLen];omega) (by omega) (by have:=hB.size;simp;omega) ?_;intro v' w1 hown' hgrow _;obtain⟨g',cap',rfl⟩:=ownsRow_succ hown';obtain⟨hv1,hv2,hr2,hk2,hb2⟩:=hv.appended (by decide) hrow hB.size lR hown' hgrow;have hc1:=hv1.cell;have hf1:=hv1.frozen)
    have h3:Boxed (w1.setCell ⟨w.heap.size,0,none⟩ (.slice (some ⟨g',0,none⟩) (pre.length+1) cap')) (w.heap.size+1) 9 (.string s):=((hp1.alloc _).kept hgrow (hp1.not_row (by decide) hrow)).other (by omega) _;refine⟨hk2.from _,⟨h3.cell.trans hp1.cell.symm,hk2.size⟩,⟨_,hv2,?_,trivial⟩,h3,hB.trans hb2⟩
    simpa [encP] using hr2
  case done =>
    rintro D ys W hD rfl ⟨⟨v,hv,hrow,_⟩,hp1,hB⟩ hK;obtain⟨A,c,rfl⟩:=qAG hrow;have hc:=hv.cell;have hf:=hv.frozen;gi_wp2
    have hDw:w.heap.size+2<=D:=by simp at hD;omega
    refine⟨by simp,.inl ⟨_,_,rfl,run_takeDeferred hK,?_⟩⟩;exact⟨.slice A (pts s.toList).length c,by simp[results,Tryz.results201,go_sem],_,rfl,ownsRow_putObj hrow _ hK rfl,hB.trans (belowK_b (w:=w) lR W D _ _ (by omega) hK rfl rfl)⟩
  case stop =>
    rintro D c pre W hD hpre h hK;exact h.elim
theorem qJW (s:ByteArray)(w:World)(hs:s.size<=1000000000000) : Calls Tryz.prog 201 #[.string s] w fun e w' =>
    ∃v,e=.returned v/\Own encP 2 w.heap.size 218 v (pts s.toList) w'/\Below w.heap.size w w':=callsIn_wide.1 (qUU s w (by omega) hs)
end
section
open Go.RowKit
def or3 (a b c:Int) : Int := if a≠0 then a else if b≠0 then b else c
theorem qRL (a b c:Int)(g:Nat)(w:World)(h0:w.cell? ⟨g,0,none⟩=some (.int .i64 a))(h1:w.cell? ⟨g,1,none⟩=some (.int .i64 b))(h2:w.cell? ⟨g,2,none⟩=some (.int .i64 c)) :
    Calls Tryz.prog 212 #[.slice (some ⟨g,0,none⟩) 3 3] w fun e w'=>e=.returned (.int .i64 (or3 a b c))/\w=w':=by
  go_enter Tryz.func212,Tryz.ntmps212
  go_wp2
  go_loop [8] (fun e => ∃k:Nat,k<=3/\e=.int .i64 (k:Int)/\(1<=k->a=0)/\(2<=k->b=0)/\(3<=k->c=0)) (fun e=>3 - (intOf e).toNat)
  case atStart=>exact⟨0,by omega,rfl,fun h=>absurd h (by decide),fun h=>absurd h (by decide),fun h=>absurd h (by decide)⟩
  case round =>
    obtain⟨k,hk,rfl,e0,e1,e2⟩:=hrel;rcases (show k=0 \/ k=1 \/ k=2 \/ k=3 by omega) with rfl|rfl|rfl|rfl
    · by_cases ha:a=0
      · subst ha;go_wp2
        go_round
        case rel=>exact⟨1,by omega,by go_num,fun _=>trivial,fun h=>absurd h (by decide),fun h=>absurd h (by decide)⟩
        case measure=>simp[intOf]
      · go_wp2
        go_ret;exact⟨by simp[or3,ha],rfl⟩
    · obtain rfl:=e0 (by omega);by_cases hb:b=0
      · subst hb;go_wp2
        go_round
        case rel=>exact⟨2,by omega,by go_num,fun _=>trivial,fun _=>trivial,fun h=>absurd h (by decide)⟩
        case measure=>simp[intOf]
      · go_wp2
        go_ret;exact⟨by simp[or3,hb],rfl⟩
    · obtain rfl:=e0 (by omega);obtain rfl:=e1 (by omega);by_cases hb:c=0
      · subst hb;go_wp2
        go_round
        case rel=>exact⟨3,by omega,by go_num,fun _=>trivial,fun _=>trivial,fun _=>trivial⟩
        case measure=>simp[intOf]
      · go_wp2
        go_ret;exact⟨by simp[or3],rfl⟩
    · obtain rfl:=e0 (by omega);obtain rfl:=e1 (by omega);obtain rfl:=e2 (by omega);go_wp2
      go_ret;exact⟨by simp[or3],rfl⟩
theorem qJ1 {a b:Prt}(ha:a.1=5)(hb:b.1=5) : cmpP a b=or3 (cmpI a.1 b.1) (cmpI a.2.length b.2.length) (cmpL a.2 b.2) := by
  unfold cmpP or3;simp only[ha,hb,true_and]
theorem qHZ {a b:Prt}(h:¬(a.1=5/\b.1=5)) : cmpP a b=or3 (cmpI a.1 b.1) 0 (cmpL a.2 b.2) := by
  unfold cmpP or3;by_cases h1:cmpI a.1 b.1≠0
  · rw[if_pos h1,if_pos h1]
  · rw[if_neg h1,if_neg h1,if_neg (fun h2=>h ⟨h2.1,h2.2.1⟩)];simp
theorem new3 (w:World)(a b c:Int) : let A := w.alloc (.cells #[.int .i64 a,.int .i64 b,.int .i64 c] 3)
    A.cell? ⟨w.heap.size,0,none⟩=some (.int .i64 a)/\A.cell? ⟨w.heap.size,1,none⟩=some (.int .i64 b)/\A.cell? ⟨w.heap.size,2,none⟩=some (.int .i64 c) :=
  ⟨(World.cell?_alloc_at _ _ _ _ rfl).trans rfl,(World.cell?_alloc_at _ _ _ _ rfl).trans rfl,(World.cell?_alloc_at _ _ _ _ rfl).trans rfl⟩
theorem qQ4 (w:World)(ka kb:Int)(ta tb:qAF) : let A := (w.alloc (.cells #[.int .u8 ka,.string (bs ta)] 218)).alloc (.cells #[.int .u8 kb,.string (bs tb)] 218)
    A.cell? ⟨w.heap.size,0,none⟩=some (.int .u8 ka)/\A.cell? ⟨w.heap.size,1,none⟩=some (.string (bs ta))/\A.cell? ⟨w.heap.size+1,0,none⟩=some (.int .u8 kb)/\A.cell? ⟨w.heap.size+1,1,none⟩=some (.string (bs tb))/\Below w.heap.size w A :=
  ⟨(World.cell?_alloc_past _ _ _ (by simp)).trans ((World.cell?_alloc_at _ _ _ _ rfl).trans rfl),(World.cell?_alloc_past _ _ _ (by simp)).trans ((World.cell?_alloc_at _ _ _ _ rfl).trans rfl),
   (World.cell?_alloc_at _ _ _ _ (by simp)).trans rfl,(World.cell?_alloc_at _ _ _ _ (by simp)).trans rfl,(bR.alloc lR _).alloc (by simp) _⟩
theorem qL1 (a b:Prt)(w:World) : Calls Tryz.prog 202 #[.agg #[.int .u8 a.1,.string (bs a.2)],.agg #[.int .u8 b.1,.string (bs b.2)]] w fun e w'=>e=.returned (.int .i64 (cmpP a b))/\Below w.heap.size w w' := by
  obtain⟨ka,ta⟩:=a;obtain⟨kb,tb⟩:=b;dsimp only
  go_enter Tryz.func202,Tryz.ntmps202
  by_cases ha:ka=5
  · subst ha;by_cases hb:kb=5
    · subst hb;have q:=qQ4 w (5) (5) ta tb;go_wp2_with (go_at_call 174;refine (qI1 _ _ _).mono ?_;rintro e w' ⟨rfl,rfl⟩)
      generalize (w.alloc (.cells #[.int .u8 (5),.string (bs ta)] 218)).alloc (.cells #[.int .u8 (5),.string (bs tb)] 218)=W at *;obtain⟨q0,q1,q2,q3,hB⟩:=q;have c0:World.cell? { W with drawn:=W.drawn+1 } ⟨w.heap.size,0,none⟩=some (.int .u8 (5)):=q0;have c1:World.cell? { W with drawn:=W.drawn+1 } ⟨w.heap.size,1,none⟩=some (.string (bs ta)):=q1;have c2:World.cell? { W with drawn:=W.drawn+1 } ⟨w.heap.size+1,0,none⟩=some (.int .u8 (5)):=q2;have c3:World.cell? { W with drawn:=W.drawn+1 } ⟨w.heap.size+1,1,none⟩=some (.string (bs tb)):=q3;refine wp_region_still_tail 11 (by kernel_rfl) (by kernel_rfl) ?_;simp only[List.take_succ_cons,List.take_zero,List.drop_succ_cons,List.drop_zero]
      repeat still_step
      still_call ((qQA _ _ _).mono fun _ _ h=>⟨h.1,h.2.symm⟩)
      repeat still_step
      still_call ((qL0 _ _ _).mono fun _ _ h=>⟨h.1,h.2.symm⟩)
      refine wpStill_nil ?_;change wpList _ _ _ _ _ W.drew;have hD:Below w.heap.size w W.drew:=hB.drew;clear q0 q1 q2 q3 c0 c1 c2 c3 hB;generalize W.drew=W2 at *;go_wp2_with (go_at_call 212;refine (qRL _ _ _ _ _ (new3 _ _ _ _).1 (new3 _ _ _ _).2.1 (new3 _ _ _ _).2.2).mono ?_;rintro e w' ⟨rfl,rfl⟩)
      go_ret;refine⟨qAU ?_,hD.alloc hD.size _⟩;rw[qJ1 rfl rfl,qA3,qA3,qAO,qAO]
    · have hb0:(kb == 5)=false:=by simpa using hb
      have q:=qQ4 w (5) (kb) ta tb;go_wp2_with (go_at_call 174;refine (qI1 _ _ _).mono ?_;rintro e w' ⟨rfl,rfl⟩)
      generalize (w.alloc (.cells #[.int .u8 (5),.string (bs ta)] 218)).alloc (.cells #[.int .u8 (kb),.string (bs tb)] 218)=W at *;obtain⟨q0,q1,q2,q3,hB⟩:=q;have c0:World.cell? { W with drawn:=W.drawn+1 } ⟨w.heap.size,0,none⟩=some (.int .u8 (5)):=q0;have c1:World.cell? { W with drawn:=W.drawn+1 } ⟨w.heap.size,1,none⟩=some (.string (bs ta)):=q1;have c2:World.cell? { W with drawn:=W.drawn+1 } ⟨w.heap.size+1,0,none⟩=some (.int .u8 (kb)):=q2;have c3:World.cell? { W with drawn:=W.drawn+1 } ⟨w.heap.size+1,1,none⟩=some (.string (bs tb)):=q3;refine wp_region_still_tail 11 (by kernel_rfl) (by kernel_rfl) ?_;simp only[List.take_succ_cons,List.take_zero,List.drop_succ_cons,List.drop_zero]
      repeat still_step
      still_call ((qQA _ _ _).mono fun _ _ h=>⟨h.1,h.2.symm⟩)
      repeat still_step
      still_call ((qL0 _ _ _).mono fun _ _ h=>⟨h.1,h.2.symm⟩)
      refine wpStill_nil ?_;change wpList _ _ _ _ _ W.drew;have hD:Below w.heap.size w W.drew:=hB.drew;clear q0 q1 q2 q3 c0 c1 c2 c3 hB;generalize W.drew=W2 at *;go_wp2_with (go_at_call 212;refine (qRL _ _ _ _ _ (new3 _ _ _ _).1 (new3 _ _ _ _).2.1 (new3 _ _ _ _).2.2).mono ?_;rintro e w' ⟨rfl,rfl⟩)
      go_ret;refine⟨qAU ?_,hD.alloc hD.size _⟩;rw[qHZ (by simp[*]),qA3,qA3]
  · have ha0:(ka == 5)=false:=by simpa using ha
    have q:=qQ4 w (ka) (kb) ta tb;go_wp2_with (go_at_call 174;refine (qI1 _ _ _).mono ?_;rintro e w' ⟨rfl,rfl⟩)
    generalize (w.alloc (.cells #[.int .u8 (ka),.string (bs ta)] 218)).alloc (.cells #[.int .u8 (kb),.string (bs tb)] 218)=W at *;obtain⟨q0,q1,q2,q3,hB⟩:=q;have c0:World.cell? { W with drawn:=W.drawn+1 } ⟨w.heap.size,0,none⟩=some (.int .u8 (ka)):=q0;have c1:World.cell? { W with drawn:=W.drawn+1 } ⟨w.heap.size,1,none⟩=some (.string (bs ta)):=q1;have c2:World.cell? { W with drawn:=W.drawn+1 } ⟨w.heap.size+1,0,none⟩=some (.int .u8 (kb)):=q2;have c3:World.cell? { W with drawn:=W.drawn+1 } ⟨w.heap.size+1,1,none⟩=some (.string (bs tb)):=q3;refine wp_region_still_tail 11 (by kernel_rfl) (by kernel_rfl) ?_;simp only[List.take_succ_cons,List.take_zero,List.drop_succ_cons,List.drop_zero]
    repeat still_step
    still_call ((qQA _ _ _).mono fun _ _ h=>⟨h.1,h.2.symm⟩)
    repeat still_step
    still_call ((qL0 _ _ _).mono fun _ _ h=>⟨h.1,h.2.symm⟩)
    refine wpStill_nil ?_;change wpList _ _ _ _ _ W.drew;have hD:Below w.heap.size w W.drew:=hB.drew;clear q0 q1 q2 q3 c0 c1 c2 c3 hB;generalize W.drew=W2 at *;go_wp2_with (go_at_call 212;refine (qRL _ _ _ _ _ (new3 _ _ _ _).1 (new3 _ _ _ _).2.1 (new3 _ _ _ _).2.2).mono ?_;rintro e w' ⟨rfl,rfl⟩)
    go_ret;refine⟨qAU ?_,hD.alloc hD.size _⟩;rw[qHZ (by simp[*]),qA3,qA3]
end
section
def fin : Prt := (2,[])
def cmpV : List Prt->List Prt->Int
  | a::l,b::m=>if cmpP a b≠0 then cmpP a b else cmpV l m
  | _,_=>0
def comp (a b:qAF) : Int := cmpV (pts a++[fin]) (pts b++[fin])
theorem qQ9 {l m:List Prt}{k:Nat}(hl:k<l.length)(hm:k<m.length) : cmpV (l.drop k) (m.drop k)=if cmpP l[k] m[k]≠0 then cmpP l[k] m[k] else cmpV (l.drop (k+1)) (m.drop (k+1)) := by
  rw[List.drop_eq_getElem_cons hl,List.drop_eq_getElem_cons hm];rfl
theorem qTW {l m:List Prt}{k:Nat}(h:l.length<=k \/ m.length<=k) : cmpV (l.drop k) (m.drop k)=0 := by
  rcases h with h|h
  · rw[List.drop_of_length_le h];rfl
  · rw[List.drop_of_length_le h];cases l.drop k<;>rfl
theorem qMN (a b:ByteArray)(w:World)(ha:a.size<=1000000)(hb:b.size<=1000000) : Calls Tryz.prog 176 #[.string a,.string b] w fun e w'=>e=.returned (.int .i64 (comp a.toList b.toList))/\Below w.heap.size w w' := by
  obtain⟨i0,hi,hz0,hz1,hz2⟩:=info_parts qMV;have na:=qGA a.toList;have nb:=qGA b.toList;rw[qA7]at na nb;have hcomp:=hid (show comp a.toList b.toList=cmpV (pts a.toList++[fin]) (pts b.toList++[fin]) from rfl);have PB:=hid (fun W=>qJW b W (by omega));have PC:=hid (fun p q W=>qL1 p q W)
  go_enter Tryz.func176,Tryz.ntmps176
  go_wp2_with fail
  go_at_call 201
  refine (qJW a w (by omega)).mono ?_;rintro e w1 ⟨v,rfl,hv,hb1⟩;generalize pts a.toList=la at *;generalize pts b.toList=lb at *;have hs1:=hb1.size;go_wp2_with (at_builtin;refine wpList_append_own _ rfl _ _ 215 rfl w.heap.size 218 i0 (.agg #[.int .u8 0,.string ByteArray.empty]) 2 24 Tryz.underlying215 hi hz0 hz1 hz2 rfl (by decide) _ _ _ rfl (World.ownsRow.alloc hv _) ⟨w1.heap.size,0,none⟩ 1 1 [.int .u8 2,.string ⟨#[]⟩] rfl rfl (cell_two_new _ _ _ _) (by simp[Value.oneCell']) (by simp only[maxLen];omega) (by omega) (by simp;omega) ?_;intro va w2 hown hgrow _)
  have hB2:Below w.heap.size w w2:=(hb1.alloc hs1 _).grown hgrow (by simp;omega) (fun k e=>(World.ownsRow.lt hv k e).1);have hA:Own encP 2 w.heap.size 218 va (la++[fin]) w2:=Own.snoc hown;obtain⟨A,ca,rfl,hrdA⟩:=hA.rd (fun _=>rfl);clear hown hgrow hA hv hb1 hs1;go_at_call 201
  refine (PB.out w2).mono ?_;rintro e w3 ⟨v3,rfl,hv3,hb3⟩;have hs3:=hb3.size;have hs2:=hB2.size;go_wp2_with (at_builtin;refine wpList_append_own _ rfl _ _ 215 rfl w2.heap.size 218 i0 (.agg #[.int .u8 0,.string ByteArray.empty]) 2 24 Tryz.underlying215 hi hz0 hz1 hz2 rfl (by decide) _ _ _ rfl (World.ownsRow.alloc hv3 _) ⟨w3.heap.size,0,none⟩ 1 1 [.int .u8 2,.string ⟨#[]⟩] rfl rfl (cell_two_new _ _ _ _) (by simp[Value.oneCell']) (by simp only[maxLen];omega) (by omega) (by simp;omega) ?_;intro vb w4 hown hgrow _;have hB4:Below w2.heap.size w2 w4:=(hb3.alloc hs3 _).grown hgrow (by simp;omega) (fun k e=>(World.ownsRow.lt hv3 k e).1);obtain⟨Bm,cb,rfl,hrdB⟩:=Own.rd (l:=lb++[fin]) (Own.snoc (x:=fin) hown) (fun _=>rfl);clear hown hgrow hv3 hb3 hs3)
  all_goals
    have hrA:=hrdA.withB hB4;clear hrdA;have hBw:Below w.heap.size w w4:=hB2.trans (hB4.mono hs2);have lA:(la++[fin]).length=la.length+1:=by simp
    have lB:(lb++[fin]).length=lb.length+1:=by simp
    clear hB2 hB4 PB;generalize la++[fin]=L at *;generalize lb++[fin]=M at *
    go_loopw[24] (fun i wr => ∃k:Nat,k<=la.length+1/\k<=lb.length+1/\i=.int .i64 (k:Int)/\RowKit.Hid (cmpV L M=cmpV (L.drop k) (M.drop k))/\Below w4.heap.size w4 wr) (fun i _=>la.length+1 - (intOf i).toNat)
    case atStart=>exact⟨0,by omega,by omega,rfl,hid rfl,Below.refl _ _⟩
    case round =>
      obtain⟨k,hk1,hk2,rfl,hc,hB⟩:=hrel;by_cases hlt:k<la.length+1/\k<lb.length+1
      · obtain⟨h1,h2⟩:=hlt;have kA:k<L.length:=by omega
        have kB:k<M.length:=by omega
        have H:=hid (qQ9 kA kB);obtain⟨b1,o1,rfl,hb1,x0,x1⟩:=(hrA.below hB).at2 (f:=fun p:Prt=>.int .u8 p.1) (g:=fun p:Prt=>.string (bs p.2)) (fun _=>rfl) kA;obtain⟨b2,o2,rfl,hb2,y0,y1⟩:=(hrdB.below hB).at2 (f:=fun p:Prt=>.int .u8 p.1) (g:=fun p:Prt=>.string (bs p.2)) (fun _=>rfl) kB
        generalize L[k]=p at *;generalize M[k]=q at *;have x0':World.cell? { wr with drawn:=wr.drawn+1 } ⟨b1,o1+k * 2,none⟩=some (.int .u8 p.1):=x0;have x1':World.cell? { wr with drawn:=wr.drawn+1 } ⟨b1,o1+k * 2+1,none⟩=some (.string (bs p.2)):=x1;have y0':World.cell? { wr with drawn:=wr.drawn+1 } ⟨b2,o2+k * 2,none⟩=some (.int .u8 q.1):=y0;have y1':World.cell? { wr with drawn:=wr.drawn+1 } ⟨b2,o2+k * 2+1,none⟩=some (.string (bs q.2)):=y1;have i0:(0:Int)<=(k:Int):=by omega
        have i1:(k:Int)<(la.length:Int)+1:=by omega
        have i2:(k:Int)<(lb.length:Int)+1:=by omega
        go_wp2_with fail
        refine wp_region_still_tail 8 (by kernel_rfl) (by kernel_rfl) ?_;simp only[List.take_succ_cons,List.take_zero,List.drop_succ_cons,List.drop_zero]
        repeat still_step
        refine wpStill_nil ?_;change wpList _ _ _ _ _ wr.drew;have hD:Below w4.heap.size w4 wr.drew:=hB.drew;clear x0 x1 y0 y1 x0' x1' y0' y1' hB;generalize wr.drew=w5 at *;go_wp2_with fail
        go_at_call 202
        refine (PC.out p q w5).mono ?_;rintro e w6 ⟨rfl,hb6⟩;have hB6:Below w4.heap.size w4 w6:=hD.trans (hb6.mono hD.size);by_cases hz:cmpP p q=0
        · have H2:=hid (show cmpV L M=cmpV (L.drop (k+1)) (M.drop (k+1)) by rw[hc,H.out,hz];rfl);clear H;go_wp2
          go_roundw
          case rel=>exact⟨k+1,by omega,by omega,by go_num,H2,hB6⟩
          case measure=>simp[intOf];omega
        · have H2:=hid (show cmpP p q=comp a.toList b.toList by rw[hcomp.out,hc,H.out,if_pos hz]);clear H;go_wp2
          go_ret;exact⟨qAU H2.out,hBw.trans (hB6.mono hBw.size)⟩
      · have H2:=hid (show (0:Int)=comp a.toList b.toList by rw[hcomp.out,hc,qTW (by omega)]);have hkk:k=la.length+1 \/ k=lb.length+1:=by omega
        go_wp2
        go_ret;exact⟨qAU H2.out,hBw.trans (hB.mono hBw.size)⟩
end
section
def Up (p:UInt8->Bool)(s:ByteArray)(k m:Nat) : Prop := (s.toList.drop k).takeWhile p=(s.toList.drop k).take m++(s.toList.drop (k+m)).takeWhile p
def Dn (p:UInt8->Bool)(s:ByteArray)(k m:Nat) : Prop := (s.toList.drop k).takeWhile p=(s.toList.drop k).take m
theorem Up.next {p:UInt8->Bool}{s:ByteArray}{k m:Nat}(h:Up p s k m)(hlt:k+m<s.size) : (p s[k+m]=true->Up p s k (m+1))/\(p s[k+m]=false->Dn p s k m) := by
  unfold Up at h;rw[qB2 s (k+m) hlt]at h;constructor
  · intro g;unfold Up;rw[List.takeWhile_cons_of_pos g]at h;rw[h,qAX _ m (by rw[List.length_drop,qA7];omega)];rw[List.getElem_drop,qBU s (k+m) hlt,List.append_assoc,List.singleton_append];rfl
  · intro g;rw[List.takeWhile_cons_of_neg (by simp[g]),List.append_nil]at h;exact h
theorem Up.last {p:UInt8->Bool}{s:ByteArray}{k m:Nat}(h:Up p s k m)(hm:k+m=s.size) : Dn p s k m := by
  unfold Up at h;rw[List.drop_of_length_le (i:=k+m) (by rw[qA7];omega)]at h
  simpa [Dn] using h
theorem Dn.rest {p:UInt8->Bool}{s:ByteArray}{k m:Nat}(h:Dn p s k m)(hm:k+m<=s.size) : (s.toList.drop k).dropWhile p=s.toList.drop (k+m) := by
  have h1:=List.takeWhile_append_dropWhile (p:=p) (l:=s.toList.drop k);have h2:(s.toList.drop k).dropWhile p=(s.toList.drop k).drop ((s.toList.drop k).takeWhile p).length:=by
    have h3:∀(a b c:qAF),a++b=c->b=c.drop a.length:=by
      intro a b c e;rw[<- e,List.drop_left]
    exact h3 _ _ _ h1
  rw[h2,h,List.length_take,List.length_drop,qA7,List.drop_drop,Nat.min_eq_left (by omega)]
theorem qR1 (c:UInt8) : like c c=true := by simp[like]
theorem qHK {s:ByteArray}{k m:Nat}(hlt:k<s.size)(h4:4<=kk s[k])(h:Dn (like s[k]) s k m)(hm:k+m<=s.size) : pts (s.toList.drop k)=qKI (kk s[k],(s.toList.drop k).take m)::pts (s.toList.drop (k+m)) := by
  have hr:=h.rest hm;unfold Dn at h;rw[qB2 s k hlt]at h hr |-;rw[qLV _ h4,<- h,<- hr];simp[qR1]
theorem qQV : (Tryz.prog.info? 223).map (fun i=>(i.zero,i.size,i.bytes))=some (some (.agg #[.int .u8 0,.string ByteArray.empty]),2,24) := by kernel_rfl
theorem qTG {s:ByteArray}{k m j:Nat}(hj:j<k+m)(hm:k+m<=s.size)(hb:s[j]=48)(h:zcut ((s.toList.drop k).take m)=zcut ((s.toList.drop j).take (k+m - j))) :
    zcut ((s.toList.drop k).take m)=zcut ((s.toList.drop (j+1)).take (k+m - (j+1))):=by
  rw[h,qB2 s j (by omega),show k+m - j=(k+m - (j+1))+1 by omega,List.take_succ_cons,hb];simp[zcut]
theorem qNP {s:ByteArray}{k m j:Nat}(hj:j<k+m)(hm:k+m<=s.size)(hb:¬s[j]=48)(h:zcut ((s.toList.drop k).take m)=zcut ((s.toList.drop j).take (k+m - j))) :
    s.extract j (k+m)=bs (zcut ((s.toList.drop k).take m)):=by
  rw[h,qDE]
  congr 1
  rw[qB2 s j (by omega),show k+m - j=(k+m - (j+1))+1 by omega,List.take_succ_cons];have hb2:(s[j] == 48)=false:=by simpa using hb
  simp only[zcut,List.dropWhile_cons,hb2,Bool.false_eq_true,if_false]
theorem qKX {s:ByteArray}{k m:Nat}(h:zcut ((s.toList.drop k).take m)=zcut ((s.toList.drop (k+m)).take (k+m - (k+m)))) : zcut ((s.toList.drop k).take m)=[] := by
  rw[h,Nat.sub_self,List.take_zero];rfl
theorem qNO {s:ByteArray}{k m:Nat} : s.extract k (k+m)=bs ((s.toList.drop k).take m) := by
  rw[qDE,Nat.add_sub_cancel_left]
theorem run4 {s:ByteArray}{k m:Nat}(hlt:k<s.size)(g:kk s[k]=4)(h:Dn (like s[k]) s k m)(hm:k+m<=s.size) : pts (s.toList.drop k)=(4,(s.toList.drop k).take m)::pts (s.toList.drop (k+m)) := by
  rw[qHK hlt (by omega) h hm];simp[qKI,g]
theorem run5 {s:ByteArray}{k m:Nat}(hlt:k<s.size)(g:kk s[k]=5)(h:Dn (like s[k]) s k m)(hm:k+m<=s.size) : pts (s.toList.drop k)=(5,zcut ((s.toList.drop k).take m))::pts (s.toList.drop (k+m)) := by
  rw[qHK hlt (by omega) h hm];simp[qKI,g,zcut]
theorem qHR (s:ByteArray)(w:World)(hs:s.size<=1000000000) : Calls Tryz.prog 204 #[.string s] w fun e w' =>
    ∃v,e=.returned v/\Own encP 2 w.heap.size 223 v (pts s.toList) w'/\Below w.heap.size w w':=by
  obtain⟨i0,hi,hz0,hz1,hz2⟩:=info_parts qQV
  go_enter Tryz.func204,Tryz.ntmps204
  go_wp2
  go_loopw[3,4] (fun v i wr => ∃(k:Nat) (pre:List Prt),k<=s.size/\i=.int .i64 k/\RowKit.Hid (pts s.toList=pre++pts (s.toList.drop k))/\pre.length<=k/\Own encP 2 w.heap.size 223 v pre wr/\Below w.heap.size w wr)
    (fun _ i _=>s.size - (intOf i).toNat)
  case atStart=>exact⟨0,[],Nat.zero_le _,rfl,hid (by simp),by simp,Own.nil_ _ _ _,Below.refl _ _⟩
  case round =>
    obtain⟨k,pre,hk,rfl,hp,hpl,hrow,hB⟩:=hrel;have hBs:=hB.size;rename World=>w0
    by_cases hlt:k<s.size
    · have hdr:=hid (qB2 s k hlt);rcases qMY s[k] with g|g|g|g
      · have hk0:kd (s[k].toNat:Int)=0:=g;go_wp2_with (go_at_call 215;refine (qBY _ _).mono ?_;rintro e w' ⟨rfl,rfl⟩)
        go_roundw
        case rel=>exact⟨k+1,pre,by omega,by go_num,hid (by rw[hp.out,hdr.out,qN5 _ g]),by omega,hrow,hB⟩
        case measure=>simp[intOf];omega
      · have hk0:((kd (s[k].toNat:Int)) == 0)=false:=by have:=g.1;simp only[kk]at this;simpa using this
        have hk00:¬kd (s[k].toNat:Int)=0:=by have:=g.1;simp only[kk]at this;exact this
        have hk4:kd (s[k].toNat:Int)<4:=by have:=g.2;simp only[kk]at this;exact this
        go_wp2_with (first|(go_at_call 215;refine (qBY _ _).mono ?_;rintro e w' ⟨rfl,rfl⟩)|(at_builtin;refine wpList_append_own _ rfl _ _ 220 rfl w.heap.size 223 i0 (.agg #[.int .u8 0,.string ByteArray.empty]) 2 24 Tryz.underlying220 hi hz0 hz1 hz2 rfl (by decide) _ _ _ rfl (World.ownsRow.alloc hrow _) ⟨w0.heap.size,0,none⟩ 1 1 [.int .u8 (kd (s[k].toNat:Int)),.string (⟨#[]⟩)] rfl rfl (cell_two_new _ _ _ _) (by simp[Value.oneCell']) (by simp only[maxLen];omega) (by omega) (by simp;omega) ?_;intro v' w5 hown hgrow _))
        have hB5:Below w.heap.size w w5:=(hB.alloc hBs _).grown hgrow (by simp;omega) (fun k e=>(World.ownsRow.lt hrow k e).1);have hO:Own encP 2 w.heap.size 223 v' (pre++[(kk s[k],[])]) w5:=Own.snoc (x:=(kk s[k],[])) (by exact hown);go_wp2
        go_roundw
        case rel=>exact⟨k+1,pre++[(kk s[k],[])],by omega,by go_num,hid (by rw[hp.out,hdr.out,qIK _ g.1 g.2,List.append_assoc];rfl),by simp;omega,hO,hB5⟩
        case measure=>simp[intOf];omega
      · have hk0:kd (s[k].toNat:Int)=4:=g;go_wp2_with (go_at_call 215;refine (qBY _ _).mono ?_;rintro e w' ⟨rfl,rfl⟩)
        go_loop [6] (fun e => ∃m:Nat,k+m<=s.size/\e=.int .i64 ((k+m:Nat):Int)/\Up (like s[k]) s k m/\(m=0->True)) (fun e=>s.size - (intOf e).toNat)
        case atStart=>exact⟨0,by omega,by go_num,by unfold Up;simp,fun _=>trivial⟩
        case round =>
          obtain⟨m,hm,rfl,hup,_⟩:=hrel;by_cases hlt2:k+m<s.size
          · have hup2:=Up.next hup hlt2;by_cases hin:kd (s[k+m].toNat:Int)=4
            · have H2:=hid (hup2.1 (qFI g hin));clear hup hup2;go_wp2_with (go_at_call 215;refine (qBY _ _).mono ?_;rintro e w' ⟨rfl,rfl⟩)
              go_round
              case rel=>exact⟨m+1,by omega,by go_num,H2.out,fun _=>trivial⟩
              case measure=>simp[intOf];omega
            · have H2:=hid (hup2.2 (qID g hin));have hin2:(kd (s[k+m].toNat:Int) == 4)=false:=by simpa using hin
              have hm0:0<m:=by
                rcases Nat.eq_zero_or_pos m with h|h
                · subst h;exact absurd hk0 hin
                · exact h
              clear hup hup2 hin;go_wp2_with (go_at_call 215;refine (qBY _ _).mono ?_;rintro e w' ⟨rfl,rfl⟩)
              go_loop [4] (fun e=>e=.int .i64 (k:Int)) (fun e=>s.size - (intOf e).toNat)
              case atStart=>go_num
              case round =>
                obtain rfl:=hrel;go_wp2_with (at_builtin;refine wpList_append_own _ rfl _ _ 220 rfl w.heap.size 223 i0 (.agg #[.int .u8 0,.string ByteArray.empty]) 2 24 Tryz.underlying220 hi hz0 hz1 hz2 rfl (by decide) _ _ _ rfl (World.ownsRow.alloc hrow _) ⟨w0.heap.size,0,none⟩ 1 1 [.int .u8 (4),.string (s.extract k (k+m))] rfl rfl (cell_two_new _ _ _ _) (by simp[Value.oneCell']) (by simp only[maxLen];omega) (by omega) (by simp;omega) ?_;intro v' w5 hown hgrow _)
                have hB5:Below w.heap.size w w5:=(hB.alloc hBs _).grown hgrow (by simp;omega) (fun k e=>(World.ownsRow.lt hrow k e).1);have hO:Own encP 2 w.heap.size 223 v' (pre++[(4,(s.toList.drop k).take m)]) w5:=Own.snoc (x:=(4,(s.toList.drop k).take m)) (by rw[qNO]at hown;exact hown);go_wp2
                go_roundw
                case rel=>exact⟨k+m,pre++[(4,(s.toList.drop k).take m)],by omega,by go_num,hid (by rw[hp.out,run4 hlt g H2.out hm,List.append_assoc];rfl),by simp;omega,hO,hB5⟩
                case measure=>simp[intOf];omega
          · have H2:=hid (Up.last hup (by omega));have hgd:decide ((k:Int)+(m:Int)<(s.size:Int))=false:=decide_eq_false (by omega);clear hup;go_wp2
            go_loop [4] (fun e=>e=.int .i64 (k:Int)) (fun e=>s.size - (intOf e).toNat)
            case atStart=>go_num
            case round =>
              obtain rfl:=hrel;go_wp2_with (at_builtin;refine wpList_append_own _ rfl _ _ 220 rfl w.heap.size 223 i0 (.agg #[.int .u8 0,.string ByteArray.empty]) 2 24 Tryz.underlying220 hi hz0 hz1 hz2 rfl (by decide) _ _ _ rfl (World.ownsRow.alloc hrow _) ⟨w0.heap.size,0,none⟩ 1 1 [.int .u8 (4),.string (s.extract k (k+m))] rfl rfl (cell_two_new _ _ _ _) (by simp[Value.oneCell']) (by simp only[maxLen];omega) (by omega) (by simp;omega) ?_;intro v' w5 hown hgrow _)
              have hB5:Below w.heap.size w w5:=(hB.alloc hBs _).grown hgrow (by simp;omega) (fun k e=>(World.ownsRow.lt hrow k e).1);have hO:Own encP 2 w.heap.size 223 v' (pre++[(4,(s.toList.drop k).take m)]) w5:=Own.snoc (x:=(4,(s.toList.drop k).take m)) (by rw[qNO]at hown;exact hown);go_wp2
              go_roundw
              case rel=>exact⟨k+m,pre++[(4,(s.toList.drop k).take m)],by omega,by go_num,hid (by rw[hp.out,run4 hlt g H2.out hm,List.append_assoc];rfl),by simp;omega,hO,hB5⟩
              case measure=>simp[intOf];omega
      · have hk0:kd (s[k].toNat:Int)=5:=g;go_wp2_with (go_at_call 215;refine (qBY _ _).mono ?_;rintro e w' ⟨rfl,rfl⟩)
        go_loop [6] (fun e => ∃m:Nat,k+m<=s.size/\e=.int .i64 ((k+m:Nat):Int)/\Up (like s[k]) s k m/\(m=0->True)) (fun e=>s.size - (intOf e).toNat)
        case atStart=>exact⟨0,by omega,by go_num,by unfold Up;simp,fun _=>trivial⟩
        case round =>
          obtain⟨m,hm,rfl,hup,_⟩:=hrel;by_cases hlt2:k+m<s.size
          · have hup2:=Up.next hup hlt2;by_cases hin:kd (s[k+m].toNat:Int)=5
            · have H2:=hid (hup2.1 (qFI g hin));clear hup hup2;go_wp2_with (go_at_call 215;refine (qBY _ _).mono ?_;rintro e w' ⟨rfl,rfl⟩)
              go_round
              case rel=>exact⟨m+1,by omega,by go_num,H2.out,fun _=>trivial⟩
              case measure=>simp[intOf];omega
            · have H2:=hid (hup2.2 (qID g hin));have hin2:(kd (s[k+m].toNat:Int) == 5)=false:=by simpa using hin
              have hm0:0<m:=by
                rcases Nat.eq_zero_or_pos m with h|h
                · subst h;exact absurd hk0 hin
                · exact h
              clear hup hup2 hin;go_wp2_with (go_at_call 215;refine (qBY _ _).mono ?_;rintro e w' ⟨rfl,rfl⟩)
              go_loop [4] (fun e => ∃j:Nat,k<=j/\j<=k+m/\e=.int .i64 (j:Int)/\RowKit.Hid (zcut ((s.toList.drop k).take m)=zcut ((s.toList.drop j).take (k+m - j)))) (fun e=>s.size - (intOf e).toNat)
              case atStart=>exact⟨k,by omega,by omega,rfl,hid (by rw[Nat.add_sub_cancel_left])⟩
              case round =>
                obtain⟨j,hj1,hj2,rfl,hz⟩:=hrel;by_cases hlt3:j<k+m
                · by_cases hb:s[j]=48
                  · have h48:((s[j].toNat:Int) == 48)=true:=by rw[hb];rfl
                    have hzz:=hid (qTG hlt3 hm hb hz.out);clear hb;go_wp2
                    go_round
                    case rel=>exact⟨j+1,by omega,by omega,by go_num,hzz⟩
                    case measure=>simp[intOf];omega
                  · have h48:((s[j].toNat:Int) == 48)=false:=(show ((s[j].toNat:Int) == 48)=(s[j] == 48) from qFW s[j] 48 (by omega)).trans (by simpa using hb);have hzz:=hid (qNP hlt3 hm hb hz.out);clear hb;go_wp2_with (at_builtin;refine wpList_append_own _ rfl _ _ 220 rfl w.heap.size 223 i0 (.agg #[.int .u8 0,.string ByteArray.empty]) 2 24 Tryz.underlying220 hi hz0 hz1 hz2 rfl (by decide) _ _ _ rfl (World.ownsRow.alloc hrow _) ⟨w0.heap.size,0,none⟩ 1 1 [.int .u8 (5),.string (s.extract j (k+m))] rfl rfl (cell_two_new _ _ _ _) (by simp[Value.oneCell']) (by simp only[maxLen];omega) (by omega) (by simp;omega) ?_;intro v' w5 hown hgrow _)
                    have hB5:Below w.heap.size w w5:=(hB.alloc hBs _).grown hgrow (by simp;omega) (fun k e=>(World.ownsRow.lt hrow k e).1);have hO:Own encP 2 w.heap.size 223 v' (pre++[(5,zcut ((s.toList.drop k).take m))]) w5:=Own.snoc (x:=(5,zcut ((s.toList.drop k).take m))) (by rw[hzz.out]at hown;exact hown);go_wp2
                    go_roundw
                    case rel=>exact⟨k+m,pre++[(5,zcut ((s.toList.drop k).take m))],by omega,by go_num,hid (by rw[hp.out,run5 hlt g H2.out hm,List.append_assoc];rfl),by simp;omega,hO,hB5⟩
                    case measure=>simp[intOf];omega
                · obtain rfl:j=k+m:=by omega
                  have hzz:=hid (qKX hz.out);go_wp2_with (at_builtin;refine wpList_append_own _ rfl _ _ 220 rfl w.heap.size 223 i0 (.agg #[.int .u8 0,.string ByteArray.empty]) 2 24 Tryz.underlying220 hi hz0 hz1 hz2 rfl (by decide) _ _ _ rfl (World.ownsRow.alloc hrow _) ⟨w0.heap.size,0,none⟩ 1 1 [.int .u8 (5),.string (⟨#[]⟩)] rfl rfl (cell_two_new _ _ _ _) (by simp[Value.oneCell']) (by simp only[maxLen];omega) (by omega) (by simp;omega) ?_;intro v' w5 hown hgrow _)
                  have hB5:Below w.heap.size w w5:=(hB.alloc hBs _).grown hgrow (by simp;omega) (fun k e=>(World.ownsRow.lt hrow k e).1);have hO:Own encP 2 w.heap.size 223 v' (pre++[(5,zcut ((s.toList.drop k).take m))]) w5:=Own.snoc (x:=(5,zcut ((s.toList.drop k).take m))) (by rw[hzz.out];exact hown);go_wp2
                  go_roundw
                  case rel=>exact⟨k+m,pre++[(5,zcut ((s.toList.drop k).take m))],by omega,by go_num,hid (by rw[hp.out,run5 hlt g H2.out hm,List.append_assoc];rfl),by simp;omega,hO,hB5⟩
                  case measure=>simp[intOf];omega
          · have H2:=hid (Up.last hup (by omega));have hgd:decide ((k:Int)+(m:Int)<(s.size:Int))=false:=decide_eq_false (by omega);clear hup;go_wp2
            go_loop [4] (fun e => ∃j:Nat,k<=j/\j<=k+m/\e=.int .i64 (j:Int)/\RowKit.Hid (zcut ((s.toList.drop k).take m)=zcut ((s.toList.drop j).take (k+m - j)))) (fun e=>s.size - (intOf e).toNat)
            case atStart=>exact⟨k,by omega,by omega,rfl,hid (by rw[Nat.add_sub_cancel_left])⟩
            case round =>
              obtain⟨j,hj1,hj2,rfl,hz⟩:=hrel;by_cases hlt3:j<k+m
              · by_cases hb:s[j]=48
                · have h48:((s[j].toNat:Int) == 48)=true:=by rw[hb];rfl
                  have hzz:=hid (qTG hlt3 hm hb hz.out);clear hb;go_wp2
                  go_round
                  case rel=>exact⟨j+1,by omega,by omega,by go_num,hzz⟩
                  case measure=>simp[intOf];omega
                · have h48:((s[j].toNat:Int) == 48)=false:=(show ((s[j].toNat:Int) == 48)=(s[j] == 48) from qFW s[j] 48 (by omega)).trans (by simpa using hb);have hzz:=hid (qNP hlt3 hm hb hz.out);clear hb;go_wp2_with (at_builtin;refine wpList_append_own _ rfl _ _ 220 rfl w.heap.size 223 i0 (.agg #[.int .u8 0,.string ByteArray.empty]) 2 24 Tryz.underlying220 hi hz0 hz1 hz2 rfl (by decide) _ _ _ rfl (World.ownsRow.alloc hrow _) ⟨w0.heap.size,0,none⟩ 1 1 [.int .u8 (5),.string (s.extract j (k+m))] rfl rfl (cell_two_new _ _ _ _) (by simp[Value.oneCell']) (by simp only[maxLen];omega) (by omega) (by simp;omega) ?_;intro v' w5 hown hgrow _)
                  have hB5:Below w.heap.size w w5:=(hB.alloc hBs _).grown hgrow (by simp;omega) (fun k e=>(World.ownsRow.lt hrow k e).1);have hO:Own encP 2 w.heap.size 223 v' (pre++[(5,zcut ((s.toList.drop k).take m))]) w5:=Own.snoc (x:=(5,zcut ((s.toList.drop k).take m))) (by rw[hzz.out]at hown;exact hown);go_wp2
                  go_roundw
                  case rel=>exact⟨k+m,pre++[(5,zcut ((s.toList.drop k).take m))],by omega,by go_num,hid (by rw[hp.out,run5 hlt g H2.out hm,List.append_assoc];rfl),by simp;omega,hO,hB5⟩
                  case measure=>simp[intOf];omega
              · obtain rfl:j=k+m:=by omega
                have hzz:=hid (qKX hz.out);go_wp2_with (at_builtin;refine wpList_append_own _ rfl _ _ 220 rfl w.heap.size 223 i0 (.agg #[.int .u8 0,.string ByteArray.empty]) 2 24 Tryz.underlying220 hi hz0 hz1 hz2 rfl (by decide) _ _ _ rfl (World.ownsRow.alloc hrow _) ⟨w0.heap.size,0,none⟩ 1 1 [.int .u8 (5),.string (⟨#[]⟩)] rfl rfl (cell_two_new _ _ _ _) (by simp[Value.oneCell']) (by simp only[maxLen];omega) (by omega) (by simp;omega) ?_;intro v' w5 hown hgrow _)
                have hB5:Below w.heap.size w w5:=(hB.alloc hBs _).grown hgrow (by simp;omega) (fun k e=>(World.ownsRow.lt hrow k e).1);have hO:Own encP 2 w.heap.size 223 v' (pre++[(5,zcut ((s.toList.drop k).take m))]) w5:=Own.snoc (x:=(5,zcut ((s.toList.drop k).take m))) (by rw[hzz.out];exact hown);go_wp2
                go_roundw
                case rel=>exact⟨k+m,pre++[(5,zcut ((s.toList.drop k).take m))],by omega,by go_num,hid (by rw[hp.out,run5 hlt g H2.out hm,List.append_assoc];rfl),by simp;omega,hO,hB5⟩
                case measure=>simp[intOf];omega
    · obtain rfl:k=s.size:=by omega
      have hpe:pts s.toList=pre:=by rw[hp.out,List.drop_of_length_le (by rw[qA7];omega)];simp[qRZ]
      have hpe2:=hid hpe;clear hpe;go_wp2
      go_ret;exact⟨_,rfl,by rw[hpe2.out];exact hrow,hB⟩
