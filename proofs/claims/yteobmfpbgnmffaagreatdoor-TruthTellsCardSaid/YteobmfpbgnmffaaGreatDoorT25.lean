/- IxNew -/
import Derived.Test.YteobmfpbgnmffaaGreatDoorT24
set_option linter.unusedVariables false
set_option maxHeartbeats 16000000
set_option maxRecDepth 100000
open Go.Lib (hid)
set_option linter.unusedSimpArgs false
namespace Go.Proofs.YteobmfpbgnmffaaGreatDoor
open Go.RowKit Go.Shelf Go.Maps
def gbP (w:World)(X x mb base N hz n:Nat)(f:ByteArray->List Int)(NB:Nat->Prop)(key:ByteArray)(i:Nat)(v:Value)(W:World) : Prop := match i with
 |0=>v=.pointer (some ⟨X,0,none⟩)
 |1=>v=.pointer (some ⟨X,0,none⟩)
 |2=>v=.pointer (some ⟨X,x,none⟩)
 |3=>v=.map (some mb)
 |4=>v=.pointer (some ⟨hz,0,none⟩)
 |5=>v=.string key
 |6=>v=.pointer (some ⟨X,0,none⟩)
 |7=>v=.pointer (some ⟨X,0,none⟩)
 |8=>v=.pointer (some ⟨X,x,none⟩)
 |9=>v=.map (some mb)
 |10=>v=.pointer (some ⟨hz,0,none⟩)
 |11=>v=.string key
 |12=>Below w.heap.size w W->LKf base mb N f key NB v W
 |13=>v=.int .i64 (n:Int)
 | 14 => ∃g,v=.slice (some ⟨g,0,none⟩) 1 1/\w.heap.size<=g/\g<W.heap.size/\W.cell? ⟨g,0,none⟩=some (.int .i64 (n:Int))
 |15=>APf w base mb N f key NB (fun _=>False) (n:Int) v W
 | _=>False
theorem qMS (w:World)(X x mb base N hz n:Nat)(f:ByteArray->List Int)(NB:Nat->Prop)(key:ByteArray):∀i v w' w'',(Below w.heap.size w w' \/ RelN w base NB w w')->gbP w X x mb base N hz n f NB key i v w'->Below w'.heap.size w' w''->gbP w X x mb base N hz n f NB key i v w'' := by
 intro i v w' w'' hB h hb
 match i,h with
 |12,h=>exact fun hb2=>(h (hB.elim id fun hr=>qFU hr hb hb2)).below hb
 |14,h=>obtain⟨g,e,h1,h2,h3⟩:=h;exact⟨g,e,h1,Nat.lt_of_lt_of_le h2 hb.size,(hb.cell (p:=⟨g,0,none⟩) h2).trans h3⟩
 |15,h=>exact h.below hb
 |0,h|1,h|2,h|3,h|4,h|5,h|6,h|7,h|8,h|9,h|10,h|11,h|13,h=>exact h
 | (k+16),h=>exact h.elim
theorem qJ9 (w:World)(X x mb base N hz n:Nat)(f:ByteArray->List Int)(NB:Nat->Prop)(key:ByteArray)(hr:∀g,¬NB g->g<w.heap.size):∀i v w' w'',i≠15->Below w.heap.size w w'->gbP w X x mb base N hz n f NB key i v w'->RelN w base NB w' w''->gbP w X x mb base N hz n f NB key i v w'' := by
 intro i v w' w'' hne hB h hS
 match i,h with
 |12,h=>exact fun hb2=>(h hB).below (hS.none_ hB hr hb2)
 |14,h=>obtain⟨g,e,h1,h2,h3⟩:=h;obtain⟨row,k1,k2⟩:=hS;have hg:some g≠row:=fun e2=>by { have:=hr g (k1 g e2.symm).2;omega };exact⟨g,e,h1,Nat.lt_of_lt_of_le h2 k2.size,(World.cell?_of_block (a:=⟨g,0,none⟩) (k2.block g h2 hg)).trans h3⟩
 |15,h=>exact absurd rfl hne
 |0,h|1,h|2,h|3,h|4,h|5,h|6,h|7,h|8,h|9,h|10,h|11,h|13,h=>exact h
 | (k+16),h=>exact h.elim
def gsP (w:World)(X x mb base N hz n:Nat)(f:ByteArray->List Int)(NB:Nat->Prop)(key:ByteArray)(i:Nat)(v:Value)(W:World) : Prop := match i with
 |0=>v=.pointer (some ⟨X,0,none⟩)
 |1=>v=.pointer (some ⟨X,0,none⟩)
 |2=>v=.pointer (some ⟨X,x,none⟩)
 |3=>v=.map (some mb)
 |4=>v=.string key
 |5=>v=.pointer (some ⟨X,0,none⟩)
 |6=>v=.pointer (some ⟨X,0,none⟩)
 |7=>v=.pointer (some ⟨X,x,none⟩)
 |8=>v=.map (some mb)
 |9=>v=.string key
 |10=>Below w.heap.size w W->LKf base mb N f key NB v W
 |11=>v=.int .i64 (n:Int)
 | 12 => ∃g,v=.slice (some ⟨g,0,none⟩) 1 1/\w.heap.size<=g/\g<W.heap.size/\W.cell? ⟨g,0,none⟩=some (.int .i64 (n:Int))
 |13=>APf w base mb N f key NB (fun _=>False) (n:Int) v W
 | _=>False
theorem qU1 (w:World)(X x mb base N hz n:Nat)(f:ByteArray->List Int)(NB:Nat->Prop)(key:ByteArray):∀i v w' w'',(Below w.heap.size w w' \/ RelN w base NB w w')->gsP w X x mb base N hz n f NB key i v w'->Below w'.heap.size w' w''->gsP w X x mb base N hz n f NB key i v w'' := by
 intro i v w' w'' hB h hb
 match i,h with
 |10,h=>exact fun hb2=>(h (hB.elim id fun hr=>qFU hr hb hb2)).below hb
 |12,h=>obtain⟨g,e,h1,h2,h3⟩:=h;exact⟨g,e,h1,Nat.lt_of_lt_of_le h2 hb.size,(hb.cell (p:=⟨g,0,none⟩) h2).trans h3⟩
 |13,h=>exact h.below hb
 |0,h|1,h|2,h|3,h|4,h|5,h|6,h|7,h|8,h|9,h|11,h=>exact h
 | (k+14),h=>exact h.elim
theorem qQO (w:World)(X x mb base N hz n:Nat)(f:ByteArray->List Int)(NB:Nat->Prop)(key:ByteArray)(hr:∀g,¬NB g->g<w.heap.size):∀i v w' w'',i≠13->Below w.heap.size w w'->gsP w X x mb base N hz n f NB key i v w'->RelN w base NB w' w''->gsP w X x mb base N hz n f NB key i v w'' := by
 intro i v w' w'' hne hB h hS
 match i,h with
 |10,h=>exact fun hb2=>(h hB).below (hS.none_ hB hr hb2)
 |12,h=>obtain⟨g,e,h1,h2,h3⟩:=h;obtain⟨row,k1,k2⟩:=hS;have hg:some g≠row:=fun e2=>by { have:=hr g (k1 g e2.symm).2;omega };exact⟨g,e,h1,Nat.lt_of_lt_of_le h2 k2.size,(World.cell?_of_block (a:=⟨g,0,none⟩) (k2.block g h2 hg)).trans h3⟩
 |13,h=>exact absurd rfl hne
 |0,h|1,h|2,h|3,h|4,h|5,h|6,h|7,h|8,h|9,h|11,h=>exact h
 | (k+14),h=>exact h.elim
def rwP (w:World)(X base n:Nat)(q:Pk)(L:List Pk)(A2:Option Addr)(c2:Nat)(i:Nat)(v:Value)(W:World) : Prop := match i with
 |0=>v=.pointer (some ⟨X,0,none⟩)
 |1=>v=.pointer (some ⟨X,0,none⟩)
 |2=>v=.pointer (some ⟨X,0,none⟩)
 |3=>v=.pointer (some ⟨X,0,none⟩)
 |4=>v=.slice A2 n c2
 |5=>v=.agg #[.string q.name,.int .i64 q.epoch,.string q.ver,.string q.rel,.int .u8 q.arch,.string q.vendor,.slice q.provA q.prov.length q.provC,.slice q.reqA q.req.length q.reqC,.slice q.conA q.con.length q.conC,.slice q.obsA q.obs.length q.obsC,.slice q.rcmA q.rcm.length q.rcmC,.slice q.supA q.sup.length q.supC,.slice q.sugA q.sug.length q.sugC,.slice q.enhA q.enh.length q.enhC,.slice q.filesA q.files.length q.filesC]
 | 6 => ∃g,v=.slice (some ⟨g,0,none⟩) 1 1/\Rd Pk.cells 15 W.heap.size (some ⟨g,0,none⟩) 1 [q] W/\w.heap.size<=g/\g<W.heap.size
 |7=>Own Pk.cells 15 base 28 v (L++[q]) W/\(v.ownBlock=(Value.slice A2 n c2).ownBlock \/ ∃g,v.ownBlock=some g/\w.heap.size<=g)
 |8=>v=.pointer (some ⟨X,0,none⟩)
 |9=>v=.pointer (some ⟨X,0,none⟩)
 | _=>False
theorem qVC (w:World)(X base n:Nat)(q:Pk)(L:List Pk)(A2:Option Addr)(c2:Nat):∀i v w' w'',(Below w.heap.size w w' \/ RelR (Value.slice A2 n c2) w w')->rwP w X base n q L A2 c2 i v w'->Below w'.heap.size w' w''->rwP w X base n q L A2 c2 i v w'' := by
 intro i v w' w'' hB h hb
 match i,h with
 |6,h=>obtain⟨g,e,hr,h1,h2⟩:=h;exact⟨g,e,qDM hr (hb.block g h2) hb.size,h1,Nat.lt_of_lt_of_le h2 hb.size⟩
 |7,h=>exact⟨qAP h.1 lR (fun g hg=>hb.block g (World.ownsRow.lt h.1 g hg).2),h.2⟩
 |0,h|1,h|2,h|3,h|4,h|5,h|8,h|9,h=>exact h
 | (k+10),h=>exact h.elim
theorem qSF (w:World)(X base n:Nat)(q:Pk)(L:List Pk)(A2:Option Addr)(c2:Nat)(hr:∀g,(Value.slice A2 n c2).ownBlock=some g->g<w.heap.size):∀i v w' w'',i≠7->Below w.heap.size w w'->rwP w X base n q L A2 c2 i v w'->RelR (Value.slice A2 n c2) w' w''->rwP w X base n q L A2 c2 i v w'' := by
 intro i v w' w'' hne hB h hS
 match i,h with
 |6,h=>obtain⟨g,e,hd,h1,h2⟩:=h;exact⟨g,e,qDM hd (hS.block g h2 fun e=>by { have:=hr g e.symm;omega }) hS.size,h1,Nat.lt_of_lt_of_le h2 hS.size⟩
 |7,h=>exact absurd rfl hne
 |0,h|1,h|2,h|3,h|4,h|5,h|8,h|9,h=>exact h
 | (k+10),h=>exact h.elim
def hsP (w:World)(X mb base N hz n:Nat)(f:ByteArray->List Int)(NB:Nat->Prop)(key:ByteArray)(r:Bool)(i:Nat)(v:Value)(W:World) : Prop := match i with
 |0=>v=.pointer (some ⟨X,0,none⟩)
 |1=>v=.pointer (some ⟨X,0,none⟩)
 |2=>v=.pointer (some ⟨X,3,none⟩)
 |3=>v=.map (some mb)
 |4=>v=.pointer (some ⟨hz,0,none⟩)
 |5=>v=.string key
 |6=>LKf base mb N f key NB v W
 |7=>v=.int .i64 (n:Int)
 |8=>v=.bool r
 |9=>v=.bool (!r)
 | _=>False
theorem qU4 (w:World)(X mb base N hz n:Nat)(f:ByteArray->List Int)(NB:Nat->Prop)(key:ByteArray)(r:Bool):∀i v w' w'',hsP w X mb base N hz n f NB key r i v w'->Below w'.heap.size w' w''->hsP w X mb base N hz n f NB key r i v w'' := by
 intro i v w' w'' h hb
 match i,h with
 |6,h=>exact LKf.below h hb
 |0,h|1,h|2,h|3,h|4,h|5,h|7,h|8,h|9,h=>exact h
 | (k+10),h=>exact h.elim
theorem qJA {W:World}{mb base:Nat}(h:W.heap[mb]?=some (.map #[] 0))(hb:mb<base) : Grp base mb 0 (fun _=>[]) W :=
 ⟨.map [],⟨#[],0,h,⟨by simp,MapKept.stamped_empty 0,by simp⟩,Nat.le_refl _,rfl,hb,by simp,by simp⟩,qP6⟩
theorem qM9 {W:World}{mb:Nat}{No:Nat->Prop}(h:W.heap[mb]?=some (.map #[] 0)) : W.Shuns mb No := fun es clock hb x hx=>by
 rw[h]at hb;cases hb;simp at hx
theorem IxSt.start (w:World) : IxSt w (w.heap.size+1+1+1) (fun i=>w.heap.size+i - 1) (w.heap.size+1+1+1+1) 0 [] (fun _ _=>[]) (fun _=>0) (.slice none 0 0) ((((w.alloc (.map #[] 0)).alloc (.map #[] 0)).alloc (.map #[] 0)).alloc (.cells #[.slice none 0 0,.map (some w.heap.size),.map (some (w.heap.size+1)),.map (some (w.heap.size+1+1))] 191)) := by
 have hA:=(MapKept.heap_alloc w (.map #[] 0)).1;have hB:=(MapKept.heap_alloc (w.alloc (.map #[] 0)) (.map #[] 0)).1;have hC:=(MapKept.heap_alloc ((w.alloc (.map #[] 0)).alloc (.map #[] 0)) (.map #[] 0)).1;rw[World.size_alloc]at hB;rw[World.size_alloc,World.size_alloc]at hC;have bC:=(Below.refl _ (((w.alloc (.map #[] 0)).alloc (.map #[] 0)).alloc (.map #[] 0))).alloc lR (.cells #[.slice none 0 0,.map (some w.heap.size),.map (some (w.heap.size+1)),.map (some (w.heap.size+1+1))] 191);have bB:=((Below.refl _ ((w.alloc (.map #[] 0)).alloc (.map #[] 0))).alloc lR (.map #[] 0)).trans (bC.mono (by simp only[World.size_alloc];omega));have bA:=((Below.refl _ (w.alloc (.map #[] 0))).alloc lR (.map #[] 0)).trans (bB.mono (by simp only[World.size_alloc];omega));have hmap:∀i,R3 i->((((w.alloc (.map #[] 0)).alloc (.map #[] 0)).alloc (.map #[] 0)).alloc (.cells #[.slice none 0 0,.map (some w.heap.size),.map (some (w.heap.size+1)),.map (some (w.heap.size+1+1))] 191)).heap[w.heap.size+i - 1]?=some (.map #[] 0):=by
  rintro i ⟨h1,h2⟩;obtain rfl|rfl|rfl:i=1 \/ i=2 \/ i=3:=by omega
  ·exact (bA.block w.heap.size (by rw[World.size_alloc];omega)).trans hA
  ·exact (bB.block (w.heap.size+1) (by rw[World.size_alloc,World.size_alloc];omega)).trans hB
  ·exact (bC.block (w.heap.size+1+1) (by rw[World.size_alloc,World.size_alloc,World.size_alloc];omega)).trans hC
 have bW:=((Below.refl _ w).alloc lR (.map #[] 0)).trans (bA.mono (by simp only[World.size_alloc];omega));clear hA hB hC bC bB bA;refine⟨bW,by omega,by omega,fun i hi=>by have:=hi.1;omega,fun i hi=>by have:=hi.2;omega,fun i hi=>by have:=hi.2;omega,fun i j hi hj hij=>by have:=hi.1;have:=hj.1;omega,by simp,by simp[go_sem],?_,by simp[go_sem],Own.nil_ _ _ _,by simp,by simp[Value.ownBlock],by simp,fun i hi=>qJA (hmap i hi) (by have:=hi.2;omega),fun i hi=>qM9 (hmap i hi)⟩;rintro i ⟨h1,h2⟩;obtain rfl|rfl|rfl:i=1 \/ i=2 \/ i=3:=by omega
 iterate 3 ·simp[go_sem]
theorem qIH (x:Pk) : x.cells.length=15 := rfl
theorem qXL (W:World)(y:Pk) : Rd Pk.cells 15 (W.alloc (.cells y.cells.toArray 28)).heap.size (some ⟨W.heap.size,0,none⟩) 1 [y] (W.alloc (.cells y.cells.toArray 28)) := by
 refine⟨by simp,by unfold maxLen;omega,fun k hk=>⟨W.heap.size,0,rfl,by simp,fun j u hu => ?_⟩⟩;obtain rfl:k=0:=by simp at hk;exact hk
 refine (World.cell?_alloc_at _ _ _ _ rfl).trans ?_
 simpa using hu
theorem qYP {w9:World}{base n2:Nat}{e:TypeId}{v9:Value}{L2:List Pk}(h:Own Pk.cells 15 base e v9 L2 w9)(hn:n2=L2.length) : w9.ownsRow base e 15 v9 n2 (L2.flatMap Pk.cells) := by
 rw[hn];exact h
theorem qRP {w9:World}{base n2:Nat}{e:TypeId}{v9:Value}{L2:List Pk}{q:Pk}(hn:n2=L2.length)(h:w9.ownsRow base e 15 v9 (n2+[q].length) (L2.flatMap Pk.cells++[q].flatMap Pk.cells)) : Own Pk.cells 15 base e v9 (L2++[q]) w9 := by
 unfold Own;rw[List.length_append,List.flatMap_append,<- hn];exact h
theorem IxSt.off {w0:World}{X base N:Nat}{m:Nat->Nat}{L:List Pk}{f:Nat->ByteArray->List Int}{col:Nat->Nat}{v:Value}{W W':World}(h:IxSt w0 X m base N L f col v W){r:Nat}(hg:W.grownBy W' (some r))(hc:col r=0)(hr:base<=r) : IxSt w0 X m base N L f col v W' := by
 have hX:X<W.heap.size:=Nat.lt_of_lt_of_le h.hX h.hb;have hM:∀i,R3 i->m i<W.heap.size:=fun i hi=>Nat.lt_of_lt_of_le (h.hM i hi) h.hb;have nX:some X≠some r:=fun e=>by have:=Option.some.inj e;have:=h.hX;omega
 have nM:∀i,R3 i->some (m i)≠some r:=fun i hi e=>by have:=Option.some.inj e;have:=h.hM i hi;omega
 have pX:W'.heap[X]?=W.heap[X]?:=hg.block X hX nX;have blk:∀b,col b≠0->W'.heap[b]?=W.heap[b]?:=fun b hb=>hg.block b (h.dom b hb).2 (fun e=>hb (by rw[Option.some.inj e];exact hc))
 exact { h with
  old:=h.old.grown hg h.old.size (fun k e=>by have:=Option.some.inj e;have:=h.loX;have:=h.hX;omega)
  hb:=Nat.le_trans h.hb hg.size
  c0:=(World.cell?_of_block (w:=W) (a:=⟨X,0,none⟩) pX).trans h.c0
  cm:=fun i hi=>(World.cell?_of_block (w:=W) (a:=⟨X,i,none⟩) pX).trans (h.cm i hi)
  fz:=(World.frozen?_of_block (w:=W) (a:=⟨X,0,none⟩) pX).trans h.fz
  own:=qAP h.own lR fun g hg=>blk g (by rw[h.row g hg];decide)
  hang:=fun x hx=>(h.hang x hx).keep hg.size (fun b hq=>blk b (by rw[hq];decide)) (fun _ hq=>hq) fun b hq=>Nat.lt_of_lt_of_le (h.dom b (by rw[hq];decide)).2 hg.size
  dom:=fun g hg'=>⟨(h.dom g hg').1,Nat.lt_of_lt_of_le (h.dom g hg').2 hg.size⟩
  grp:=fun i hi=>by
   obtain⟨D,hD,hS⟩:=h.grp i hi;exact⟨D,hD.kept hg (nM i hi) ((h.shun i hi).rowsOff (fun j e=>by rw[<- Option.some.inj e,hc];have:=hi.1;omega)),hS⟩
  shun:=fun i hi=>(h.shun i hi).kept hg (hM i hi) (nM i hi) }
theorem qE4 {key:Value}{kl:Lit}(h:keyOf Tryz.prog 9 key=some kl):∃x : ByteArray,key=.string x/\kl=.string x.data.toList/\x.size<=maxLen := by
 have hk:=Tryz.underlying9;cases key<;>simp[keyOf,hk,mapKey]at h
 exact⟨_,rfl,h.2.symm,h.1⟩
theorem qRA (w:World){ops:Array Oper}{rest:List Oper}{o:Oper}{a:Act}{Q:Exit->Act->World->Prop}(hg:o.guard=none)(it:Operand)(hop:o.op=Op.next it false)(b r n:Nat)(D:DataW Unit)(left:Lit->Bool)(cnt:Nat)(hit:a.eval it=.pointer (some ⟨r,0,none⟩))(h:w.ranges Tryz.prog 9 (unitElem (H := Unit)) b r n D left cnt)
  (hDone:cnt=0->(∀kl,left kl=false)->wpList Tryz.prog ops Q rest (a.put o.dst (.tuple #[.bool false])) w)
  (hMore:∀(s:ByteArray) (w':World) (cnt':Nat),s.size<=maxLen->left (.string s.data.toList)=true->Maps.has D (.string s.data.toList)=true->w'.ranges Tryz.prog 9 (unitElem (H:=Unit)) b r n D (fun z=>left z && !z.sameKey (.string s.data.toList)) cnt'->cnt'<cnt->w.grownBy w' (some r)->w'.heap.size=w.heap.size->(Instr.entry (.pointer (some ⟨r,0,none⟩))).run Tryz.prog w'=.ok (.tuple #[.string s,.agg #[]]) w'->wpList Tryz.prog ops Q rest (a.put o.dst (.tuple #[.bool true,.string s,.agg #[]])) w') :
  wpList Tryz.prog ops Q (o::rest) a w :=
 wpList_next_ranges w hg it hop 9 qC9 (unitElem (H:=Unit)) Value.string (fun _:Unit=>.agg #[]) (fun key kl hkey=>by obtain⟨x,rfl,_⟩:=qE4 hkey;exact⟨x,rfl⟩) (fun v y hv=>⟨(),(unitElem_inv hv).1⟩) b r n D left cnt hit h hDone (fun x c kl y w' cnt' hkey hlk hv hat hrg hlt hgr hsz hen=>by
  obtain⟨x',ex,rfl,hs⟩:=qE4 hkey;cases ex
  exact hMore x w' cnt' hs hlk (Maps.has_true_of_atKey hat) hrg hlt hgr hsz hen)
theorem qUM {F G:ByteArray->List Int}{q:Pk}{key:ByteArray}{left:Lit->Bool}{k:Int}(h:∀s,F s=G s++(if hasN (offN q) s && !left (.string s.data.toList) then [k] else []))(hl:left (.string key.data.toList)=true)(hh:hasN (offN q) key=true)(s:ByteArray) : addF F key k s=G s++(if hasN (offN q) s && !(left (.string s.data.toList) && !(Lit.string s.data.toList).sameKey (.string key.data.toList)) then [k] else []) := by
 unfold addF;by_cases e:s=key
 ·subst e;rw[if_pos rfl,h s,hl,hh,qDY,decide_eq_true rfl];simp
 ·rw[if_neg e,h s,qDY,decide_eq_false e];simp
theorem qJ2 {col:Nat->Nat}{i b lim:Nat}{v':Value}(hc:col b=0)(hv:∀g,v'.ownBlock=some g->(col g=i \/ lim<=g))(hi:i≠0)(hb:b<lim) : colU col i v' b=0 := by
 unfold colU;split
 ·rename_i e
  rcases hv b e with h|h<;>omega
 ·exact hc
theorem qY7 {l:List Pr}{L2:List Pk}{k:Nat}(h:qAQ ((l.map Pr.pk).take k) L2)(hk:k<=l.length) : L2.length=k := by
 rw[h.1,List.length_take,List.length_map];omega
theorem qWM {l:List Pr}{L2:List Pk}{k:Nat}(h:qAQ ((l.map Pr.pk).take k) L2)(hk:k<l.length){q:Pk}(hq:Alike l[k].pk q) : qAQ ((l.map Pr.pk).take (k+1)) (L2++[q]) := by
 rw[List.take_succ_eq_append_getElem (by rw[List.length_map];exact hk),List.getElem_map];exact h.snoc hq
theorem qJO {P:Nat}{I:Int}{L:List Pr}{w:World}(hp:Pool P I L w)(hn:L.length<=1000) : Calls Tryz.prog 107 #[.pointer (some ⟨P,0,none⟩)] w fun e w' => ∃(X:Nat) (L2:List Pk),e=.returned (.tuple #[.pointer (some ⟨X,0,none⟩),.int .i64 0])/\IndexAt X L2 (idxF L2) w'/\qAQ (L.map Pr.pk) L2/\w.heap.size<=X/\Below w.heap.size w w' := by
 have hn2:L.length<=1000000:=by omega
 have PKG:=hid (fun (k:Nat) (hk:k<L.length) W (hb:Below w.heap.size w W)=>qLU (hp.then hb) hk hn2);have CNT:=hid (fun W (hb:Below w.heap.size w W)=>qE6 (hp.then hb).at_);have FEW:=hid (fun (k:Nat) (hk:k<L.length)=>(hp.may _ (List.getElem_mem hk)).1);have LDW:=hid (fun (k:Nat) (hk:k<L.length)=>hp.at_.laid _ (List.getElem_mem hk));obtain⟨n,hn9⟩:∃n,n=L.length:=⟨_,rfl⟩;have HN0:=hid hn9;rw[<- hn9]at CNT hn;have HNN:=hid hn;clear hn9 hn2 hp;have S0:=hid (IxSt.start w);have hmm := @run_makeMap Tryz.prog
 go_enter Tryz.func107,Tryz.ntmps107
 go_wp2_with fail
 obtain⟨W0,hW0⟩:∃W0,W0=((((w.alloc (.map #[] 0)).alloc (.map #[] 0)).alloc (.map #[] 0)).alloc (.cells #[.slice none 0 0,.map (some w.heap.size),.map (some (w.heap.size+1)),.map (some (w.heap.size+1+1))] 191)):=⟨_,rfl⟩;rw[<- hW0]at S0 |-;clear hW0;obtain⟨X,hX⟩:∃X,X=w.heap.size+1+1+1:=⟨_,rfl⟩;rw[<- hX]at S0 |-;have HXW:=hid (show w.heap.size<=X by omega);clear hX;obtain⟨m,base,S0⟩:∃m base,Hid (IxSt w X m base 0 [] (fun _ _=>[]) (fun _=>0) (.slice none 0 0) W0):=⟨_,_,S0⟩;go_at_call 61
 refine (CNT.out W0 S0.out.old).mono ?_;rintro en W1 ⟨rfl,h⟩;have S1:=hid (S0.out.then h);clear h S0 CNT hmm;go_wp2_with fail
 go_loopw[20] (fun iv wr => ∃(k:Nat) (L2:List Pk) (f:Nat->ByteArray->List Int) (col:Nat->Nat) (v:Value) (M:Nat),k<=n/\iv=.int .i64 (k:Int)/\IxSt w X m base M L2 f col v wr/\M<=302 * k/\f 1=idxF L2/\qAQ ((L.map Pr.pk).take k) L2) (fun iv _=>n - (intOf iv).toNat)
 case atStart=>exact⟨0,[],fun _ _=>[],fun _=>0,.slice none 0 0,0,Nat.zero_le _,rfl,S1.out,by simp,qU5.symm,qAQ.nil⟩
 case round =>
  obtain⟨k,L2,f,col,v,M,hk,rfl,hS,hM,hf,hAL⟩:=hrel;rename World=>wr
  have S:=hid hS;have HM:=hid hM;have HF:=hid hf;have AL:=hid hAL;clear S1 hS hM hf hAL;by_cases hlt:k<n
  ·have hkl:k<L.length:=by have:=HN0.out;omega
   have PK:=hid (PKG.out k hkl wr S.out.old);have FX:=hid (FEW.out k hkl);have LX:=hid (LDW.out k hkl);have SN:=hid (fun (q:Pk) (h:Alike L[k].pk q)=>qWM AL.out hkl h);have HLN:=hid (show L2.length=k from (qY7 AL.out (by omega)));generalize L[k].pk=x at *;have j0:(0:Int)<=(k:Int):=by omega
   have j1:(k:Int)<(n:Int):=by omega
   clear hkl;obtain⟨A2,c2,hv⟩:=qAG S.out.own;subst hv;obtain⟨n2,hn2⟩:∃n2,n2=L2.length:=⟨_,rfl⟩;rw[<- hn2]at S HLN;have HN2:=hid hn2;clear hn2;go_wp2_with fail
   go_at_call 48
   refine PK.out.mono ?_;rintro en V ⟨q,rfl,ha,hq,h⟩;have SV:=hid (S.out.then h);have HGV:=hid (hq.hangs ha LX.out);have QF:=hid (qCC (ha.may.trans FX.out));have SNQ:=hid (SN.out q ha);have HFREE:=hid (show ∀b,wr.heap.size+1<=b->col b=0 from fun b hb=>Decidable.not_not.1 fun e=>by have:=(S.out.dom b e).2;omega);have HLO:=hid (show base<=wr.heap.size+1 by have:=S.out.hb;omega);have QN:=hid (show q.name.size<=maxLen from (hq.laid ha LX.out).n0);clear h ha hq S PK SN FX LX;obtain⟨lo,hlo⟩:∃lo,lo=wr.heap.size+1:=⟨_,rfl⟩;rw[<- hlo]at HGV HFREE HLO;clear hlo;unfold Pk.val;go_wp2_with fail
   have B1:=(Below.refl V.heap.size V).alloc lR (.cells #[.string q.name,.int .i64 q.epoch,.string q.ver,.string q.rel,.int .u8 q.arch,.string q.vendor,.slice q.provA q.prov.length q.provC,.slice q.reqA q.req.length q.reqC,.slice q.conA q.con.length q.conC,.slice q.obsA q.obs.length q.obsC,.slice q.rcmA q.rcm.length q.rcmC,.slice q.supA q.sup.length q.supC,.slice q.sugA q.sug.length q.sugC,.slice q.enhA q.enh.length q.enhC,.slice q.filesA q.files.length q.filesC] 28);have XB:=hid (show qAJ V.heap.size q (V.alloc (.cells #[.string q.name,.int .i64 q.epoch,.string q.ver,.string q.rel,.int .u8 q.arch,.string q.vendor,.slice q.provA q.prov.length q.provC,.slice q.reqA q.req.length q.reqC,.slice q.conA q.con.length q.conC,.slice q.obsA q.obs.length q.obsC,.slice q.rcmA q.rcm.length q.rcmC,.slice q.supA q.sup.length q.supC,.slice q.sugA q.sug.length q.sugC,.slice q.enhA q.enh.length q.enhC,.slice q.filesA q.files.length q.filesC] 28)) from⟨PkAt.new V q,fun i hi=>by simp[go_sem],by simp⟩);have S1:=hid (SV.out.then B1);have HG1:=hid (show Hangs (fun b=>lo<=b/\b<V.heap.size) q (V.alloc (.cells #[.string q.name,.int .i64 q.epoch,.string q.ver,.string q.rel,.int .u8 q.arch,.string q.vendor,.slice q.provA q.prov.length q.provC,.slice q.reqA q.req.length q.reqC,.slice q.conA q.con.length q.conC,.slice q.obsA q.obs.length q.obsC,.slice q.rcmA q.rcm.length q.rcmC,.slice q.supA q.sup.length q.supC,.slice q.sugA q.sug.length q.sugC,.slice q.enhA q.enh.length q.enhC,.slice q.filesA q.files.length q.filesC] 28)) from HGV.out.keep B1.size (fun b hb=>B1.block b hb.2) (fun _ h=>h) (fun b hb=>Nat.lt_of_lt_of_le hb.2 B1.size));have CZ:=hid (show col V.heap.size=0 from Decidable.not_not.1 fun e=>by have:=(SV.out.dom _ e).2;omega);have HBZ:=hid SV.out.hb;clear B1 SV HGV;generalize V.alloc (.cells #[.string q.name,.int .i64 q.epoch,.string q.ver,.string q.rel,.int .u8 q.arch,.string q.vendor,.slice q.provA q.prov.length q.provC,.slice q.reqA q.req.length q.reqC,.slice q.conA q.con.length q.conC,.slice q.obsA q.obs.length q.obsC,.slice q.rcmA q.rcm.length q.rcmC,.slice q.supA q.sup.length q.supC,.slice q.sugA q.sug.length q.sugC,.slice q.enhA q.enh.length q.enhC,.slice q.filesA q.files.length q.filesC] 28)=wx at *;obtain⟨hz,hhz⟩:∃hz,hz=V.heap.size:=⟨_,rfl⟩;rw[<- hhz]at XB HG1 CZ HBZ |-;clear hhz;have HRX:=hid (show ∀g,(Value.slice A2 n2 c2).ownBlock=some g->base<=g/\g<wx.heap.size from World.ownsRow.lt S1.out.own);have C0:=hid S1.out.c0;have HXV:=hid (show X<wx.heap.size from Nat.lt_of_lt_of_le S1.out.hX S1.out.hb);have PZ:=hid S1.out.hX;have R4:=hid S1.out.row;have HZX:=hid XB.out.2.2;have HXZ:=hid (show base<=hz from HBZ.out);have HNZ:=hid (show (Value.slice A2 n2 c2).ownBlock≠some hz from fun e=>by have:=R4.out hz e;have:=CZ.out;omega);have OWL:=hid S1.out.own;have HBS:=hid S1.out.hb;have HM1:=hid (show n2<=1000 by have:=HLN.out;have:=HNN.out;omega);refine qB7 (PP:=rwP wx X base n2 q L2 A2 c2) (RelS:=RelR (.slice A2 n2 c2)) 10 7 rfl (by kernel_rfl) (by kernel_rfl) (by decide) (by decide) (by decide) (qVC wx X base n2 q L2 A2 c2) (qSF wx X base n2 q L2 A2 c2 (fun g hg=>(HRX.out g hg).2)) (fun b c h1 h2=>World.grownBy.trans h1 (qAC h2 _)) (fun b c h1 h2=>World.grownBy.trans (qAC h1 _) h2) (fun i=>match i with|0=>u32|1=>u33|2=>u34|3=>u35|4=>u36|5=>u37|6=>u38|7=>u39|8=>u40|_=>u41) (by simp[qA4,gQ]) ?_ ?_ ?_
   ·intro i o vs W hi hne ho he hBW hdep K hK;simp only[gT,qA4,gQ]at hK |-;have HSZ:=hid (show wx.heap.size<=W.heap.size from hBW.elim (fun h=>h.size) (fun h=>h.size));have pB:=fun (k:Nat) (hk:k<wx.heap.size) (hne:(Value.slice A2 n2 c2).ownBlock≠some k)=>(show W.heap[k]?=wx.heap[k]? from hBW.elim (fun h=>h.block k hk) (fun h=>h.block k hk fun e=>hne e.symm));have C0W:=hid ((World.cell?_of_block (w:=wx) (a:=⟨X,0,none⟩) (pB X HXV.out (fun e=>by have:=(HRX.out X e).1;have:=PZ.out;omega))).trans C0.out);have XW:=hid (qBG XB.out (pB hz HZX.out HNZ.out) HSZ.out);clear pB hdep;obtain rfl|rfl|rfl|rfl|rfl|rfl|rfl|rfl|rfl|rfl:=c10_ hi<;>simp only[gE]at ho<;>subst ho
    iterate 2 ·rw[if_pos (by rfl)];simp only[gQ]at hK;have HK:=hid hK;clear hK he hBW hi hne;go_simp;exact HK.out _ _ (by first|rfl|simp[rwP]) bR
    ·have e1:vs 1=_:=dq he 1;rw[e1]at hK |-;rw[if_pos (by rfl)];simp only[gQ]at hK;have HK:=hid hK;clear hK he hBW hi hne;go_simp;exact HK.out _ _ (by first|rfl|simp[rwP]) bR
    ·have e2:vs 2=_:=dq he 2;rw[e2]at hK |-;rw[if_pos (by rfl)];simp only[gQ]at hK;have HK:=hid hK;clear hK he hBW hi hne;go_simp;exact HK.out _ _ (by first|rfl|simp[rwP]) bR
    ·have e3:vs 3=_:=dq he 3;rw[e3]at hK |-;rw[if_pos (by rfl)];simp only[gQ]at hK;have HK:=hid hK;clear hK he hBW hi hne;have c0':=C0W.out;go_simp;exact HK.out _ _ rfl bR
    ·rw[if_pos (by rfl)];simp only[gQ]at hK;have HK:=hid hK;clear hK he hBW hi hne;obtain⟨⟨_,c0,c1,c2,c3,c4,c5,c6,c7,c8,c9,c10,c11,c12,c13,c14⟩,_,_⟩:=XW.out;go_simp;exact HK.out _ _ rfl bR
    ·have e5:vs 5=_:=dq he 5;rw[e5]at hK |-;rw[if_pos (by rfl)];simp only[gQ]at hK;have HK:=hid hK;clear hK he hBW hi hne;go_simp;have BA:=(Below.refl W.heap.size W).alloc lR (.cells q.cells.toArray 28);exact HK.out _ _ ⟨W.heap.size,rfl,qXL W _,HSZ.out,by simp⟩ BA
    ·exact absurd rfl hne
    ·have e0:vs 0=_:=dq he 0;rw[e0]at hK |-;rw[if_pos (by rfl)];simp only[gQ]at hK;have HK:=hid hK;clear hK he hBW hi hne;go_simp;exact HK.out _ _ (by first|rfl|simp[rwP]) bR
    ·have e8:vs 8=_:=dq he 8;rw[e8]at hK |-;rw[if_pos (by rfl)];simp only[gQ]at hK;have HK:=hid hK;clear hK he hBW hi hne;go_simp;exact HK.out _ _ (by first|rfl|simp[rwP]) bR
   ·intro o vs W ho he hBW K hK;simp only[gT,qA4,gQ]at hK |-;have BW:=hid hBW;simp only[gE]at ho;subst ho;have e4:vs 4=_:=dq he 4;rw[e4]at hK |-;obtain⟨g6,e6,hr6,_,_⟩:=dq he 6;rw[e6]at hK |-;have R6:=hid hr6;rw[if_pos (by rfl)];simp only[gQ]at hK;have HK:=hid hK;clear hK he hBW;refine qAM (P:=Tryz.prog) W _ _ 41 rfl base 28 _ _ 15 _ (by rfl) (by rfl) (by rfl) (by rfl) (by rfl) (by rfl) (by decide) qIH qDV (.slice A2 n2 c2) n2 (L2.flatMap Pk.cells) rfl (qYP (Own.below OWL.out BW.out lR) HN2.out) W.heap.size (some ⟨g6,0,none⟩) 1 [q] 1 rfl rfl R6.out (by have:=HM1.out;simp;omega) (by decide) (Nat.le_trans HBS.out BW.out.size) ?_;intro v9 w9 ho9 hg9 hl9;exact HK.out _ _ ⟨qRP HN2.out ho9,hl9.imp id fun e=>⟨_,e,BW.out.size⟩⟩ hg9
   ·intro vs W hall hRel;obtain⟨ho,hl⟩:Own Pk.cells 15 base 28 (vs 7) (L2++[q]) W/\((vs 7).ownBlock=(Value.slice A2 n2 c2).ownBlock \/ ∃g,(vs 7).ownBlock=some g/\wx.heap.size<=g):=hall 7 (by decide);have e9:vs 9=.pointer (some ⟨X,0,none⟩):=hall 9 (by decide);simp only[gT,qA4,gQ];rw[e9];have pX:W.heap[X]?=wx.heap[X]?:=hRel.block X HXV.out (fun e=>by have:=(HRX.out X e.symm).1;have:=PZ.out;omega);have cX:=(World.cell?_of_block (w:=wx) (a:=⟨X,0,none⟩) pX).trans C0.out;have fX:=(World.frozen?_of_block (w:=wx) (a:=⟨X,0,none⟩) pX).trans S1.out.fz;have HGW:=hid (HG1.out.keep hRel.size (fun b hb=>hRel.block b (HG1.out.lt b hb) (fun e=>by have:=R4.out b e.symm;have:=HFREE.out b hb.1;omega)) (fun _ h=>h) (fun b hb=>Nat.lt_of_lt_of_le (HG1.out.lt b hb) hRel.size));have S3:=S1.out.more (lo:=lo) (hi:=hz) hRel ho HGW.out HLO.out (Nat.le_of_lt HZX.out) HFREE.out hl;have CZ3:=hid (show colR col lo hz (vs 7) hz=0 from by unfold colR;rw[if_neg (fun e=>by rcases hl with h|⟨g,h,hge⟩;exact HNZ.out (h ▸ e);rw[h]at e;have:=Option.some.inj e;have:=HZX.out;omega),if_neg (by omega)];exact CZ.out);have XB3:=hid (qBG XB.out (W':=W.setCell ⟨X,0,none⟩ (vs 7)) ((Below.heap_setCell _ _ _ _ (show hz≠X by have:=HLO.out;have:=PZ.out;have:=HXZ.out;omega)).trans (hRel.block hz HZX.out (fun e=>HNZ.out e.symm))) (by rw[show (W.setCell ⟨X,0,none⟩ (vs 7)).heap.size=W.heap.size by simp[World.setCell]];exact hRel.size));obtain⟨A9,k9,e11⟩:=qAG ho;rw[e11]at S3 CZ3 XB3 |-;obtain⟨L3,hL3⟩:∃L3,L3=L2++[q]:=⟨_,rfl⟩;rw[<- hL3]at S3 SNQ CZ3 XB3 |-;have QM:=hid (show q∈L3 by rw[hL3];simp);have HL3:=hid hL3;obtain⟨n9,hn9⟩:∃n9,n9=L3.length:=⟨_,rfl⟩;rw[<- hn9]at S3 CZ3 XB3 |-;have HN9:=hid hn9;obtain⟨col3,hcol3⟩:∃col3,col3=colR col lo hz (.slice A9 n9 k9):=⟨_,rfl⟩;rw[<- hcol3]at S3 CZ3;have S:=hid S3;clear hcol3 hn9 hL3 e11 S3;generalize vs 0=u140,vs 1=u141,vs 2=u142,vs 3=u143,vs 4=u144,vs 5=u145,vs 6=u146,vs 7=u147,vs 8=u148;have HBZ3:=hid HXZ.out;clear hall hRel ho hl e9 pX HGW S1 HG1 CZ XB HRX C0 HXV PZ R4 HZX HNZ OWL HBS HM1 HLO HFREE HXZ HBZ AL;go_wp2_with fail
    generalize W.setCell ⟨X,0,none⟩ (.slice A9 n9 k9)=V at *;have HMB:=hid (show M<=302000 by have:=HM.out;have:=HNN.out;omega);have HNX:=hid (show M<maxLen by have:=HMB.out;unfold maxLen;omega);have HWF:=hid (show (Lit.int .i64 (k:Int)).wf=true by have:=HNN.out;exact decide_eq_true (by simp[IntKind.signed,IntKind.bits];omega));obtain⟨key,hkey⟩:∃key,key=q.name:=⟨_,rfl⟩;have BZ:=hid (show V.cell? ⟨hz,0,none⟩=some (.string key) by rw[hkey];exact XB3.out.1.2.1);have HKL:=hid (show key.size<=maxLen by rw[hkey];exact QN.out);clear hkey cX fX;have HZ:=hid (show hz<V.heap.size from XB3.out.2.2);have HBZ:=hid HBZ3.out;have CZ:=hid CZ3.out;clear CZ3;obtain⟨col,hcol⟩:∃col,col=col3:=⟨_,rfl⟩;rw[<- hcol]at S CZ;clear hcol;have NB1:=hid (show ∀g,¬(fun b=>col b≠2) g->g<V.heap.size from fun g hg=>(S.out.dom g (fun e=>hg (by show col g≠2;omega))).2);have CX:=hid (fun W (hb:Below V.heap.size V W)=>(S.out.then hb).cm 2 ⟨by decide,by decide⟩);obtain⟨mb,hmb⟩:∃mb,mb=m 2:=⟨_,rfl⟩;obtain⟨fk,hfk⟩:∃fk,fk=f 2:=⟨_,rfl⟩;obtain⟨NB,hNB⟩:∃NB:Nat->Prop,NB=fun b=>col b≠2:=⟨_,rfl⟩;have GR:=hid (fun W (hb:Below V.heap.size V W)=>show Grp base mb M fk W from by rw[hmb,hfk];exact (S.out.then hb).grp 2 ⟨by decide,by decide⟩);have SH:=hid (fun W (hb:Below V.heap.size V W)=>show W.Shuns mb NB from by rw[hmb,hNB];exact (S.out.then hb).shun 2 ⟨by decide,by decide⟩);rw[<- hmb]at CX;rw[<- hNB]at NB1;have HMK:=hid hmb;have HMZ:=hid (show mb<base by rw[hmb];exact S.out.hM 2 ⟨by decide,by decide⟩);have HFK:=hid hfk;have HNB:=hid hNB;clear hmb hfk hNB;have HXV:=hid (show X<V.heap.size from Nat.lt_of_lt_of_le S.out.hX S.out.hb);have PZ:=hid S.out.hX;have COL:=hid (show ∀j,base<=j -> ¬NB j->col j=2 from fun j _ h=>by rw[HNB.out]at h;exact Decidable.not_not.1 h);refine qB7 (PP:=gbP V X 2 mb base M hz k fk NB key) (RelS:=RelN V base NB) 16 15 rfl (by kernel_rfl) (by kernel_rfl) (by decide) (by decide) (by decide) (qMS V X 2 mb base M hz k fk NB key) (qJ9 V X 2 mb base M hz k fk NB key NB1.out) (fun b c h1 h2=>h1.two h2) (fun b c h1 h2=>RelN.three h1 h2) (fun i=>match i with|0=>u42|1=>u43|2=>u44|3=>u45|4=>u46|5=>u47|6=>u48|7=>u49|8=>u50|9=>u51|10=>u52|11=>u53|12=>u54|13=>u55|14=>u56|_=>u57) (by simp[qA4,gQ]) ?_ ?_ ?_
    ·intro i o vs W hi hne ho he hBW hdep K hK;simp only[gT,qA4,gQ]at hK |-;have HSZ:=hid (qFN hBW);have pX:=qC5 hBW HXV.out (.inl PZ.out);have CXW:=hid ((World.cell?_of_block (w:=V) (a:=⟨X,2,none⟩) pX).trans (CX.out _ bR));have CNW:=hid (show W.cell? ⟨hz,0,none⟩=some (.string key) from (World.cell?_of_block (w:=V) (a:=⟨hz,0,none⟩) (qC5 hBW HZ.out (.inr (by rw[HNB.out];show col hz≠2;rw[CZ.out];decide)))).trans BZ.out);have DEP:=hid hdep;clear pX hdep;obtain rfl|rfl|rfl|rfl|rfl|rfl|rfl|rfl|rfl|rfl|rfl|rfl|rfl|rfl|rfl|rfl:=c16_ hi<;>simp only[gE]at ho<;>subst ho
     ·rw[if_pos (by rfl)];simp only[gQ]at hK;have HK:=hid hK;clear hK he hBW hi hne;go_simp;exact HK.out _ _ (by first|rfl|simp[gbP]) bR
     ·have e0:vs 0=_:=dq he 0;rw[e0]at hK |-;rw[if_pos (by rfl)];simp only[gQ]at hK;have HK:=hid hK;clear hK he hBW hi hne;go_simp;exact HK.out _ _ (by first|rfl|simp[gbP]) bR
     ·have e1:vs 1=_:=dq he 1;rw[e1]at hK |-;rw[if_pos (by rfl)];simp only[gQ]at hK;have HK:=hid hK;clear hK he hBW hi hne;go_simp;exact HK.out _ _ (by first|rfl|simp[gbP]) bR
     ·have e2:vs 2=_:=dq he 2;rw[e2]at hK |-;rw[if_pos (by rfl)];simp only[gQ]at hK;have HK:=hid hK;clear hK he hBW hi hne;have cx:=CXW.out;go_simp;exact HK.out _ _ rfl bR
     ·rw[if_pos (by rfl)];simp only[gQ]at hK;have HK:=hid hK;clear hK he hBW hi hne;go_simp;exact HK.out _ _ (by first|rfl|simp[gbP]) bR
     ·have e4:vs 4=_:=dq he 4;rw[e4]at hK |-;rw[if_pos (by rfl)];simp only[gQ]at hK;have HK:=hid hK;clear hK he hBW hi hne;have cn:=CNW.out;go_simp;exact HK.out _ _ rfl bR
     ·rw[if_pos (by rfl)];simp only[gQ]at hK;have HK:=hid hK;clear hK he hBW hi hne;go_simp;exact HK.out _ _ (by first|rfl|simp[gbP]) bR
     ·have e6:vs 6=_:=dq he 6;rw[e6]at hK |-;rw[if_pos (by rfl)];simp only[gQ]at hK;have HK:=hid hK;clear hK he hBW hi hne;go_simp;exact HK.out _ _ (by first|rfl|simp[gbP]) bR
     ·have e7:vs 7=_:=dq he 7;rw[e7]at hK |-;rw[if_pos (by rfl)];simp only[gQ]at hK;have HK:=hid hK;clear hK he hBW hi hne;go_simp;exact HK.out _ _ (by first|rfl|simp[gbP]) bR
     ·have e8:vs 8=_:=dq he 8;rw[e8]at hK |-;rw[if_pos (by rfl)];simp only[gQ]at hK;have HK:=hid hK;clear hK he hBW hi hne;have cx:=CXW.out;go_simp;exact HK.out _ _ rfl bR
     ·rw[if_pos (by rfl)];simp only[gQ]at hK;have HK:=hid hK;clear hK he hBW hi hne;go_simp;exact HK.out _ _ (by first|rfl|simp[gbP]) bR
     ·have e10:vs 10=_:=dq he 10;rw[e10]at hK |-;rw[if_pos (by rfl)];simp only[gQ]at hK;have HK:=hid hK;clear hK he hBW hi hne;have cn:=CNW.out;go_simp;exact HK.out _ _ rfl bR
     ·have e9:vs 9=_:=dq he 9;rw[e9]at hK |-;have e11:vs 11=_:=dq he 11;rw[e11]at hK |-;rw[if_pos (by rfl)];simp only[gQ]at hK;have HK:=hid hK;clear hK he hBW hi hne;exact qBL W _ _ rfl (mb:=mb) rfl rfl HKL.out HNX.out (GR.out _ (DEP.out (by kernel_rfl))) (SH.out _ (DEP.out (by kernel_rfl))) fun u hu=>HK.out _ _ (fun _=>hu) bR
     ·rw[if_pos (by rfl)];simp only[gQ]at hK;have HK:=hid hK;clear hK he hBW hi hne;go_simp;exact HK.out _ _ (by first|rfl|simp[gbP]) bR
     ·have e13:vs 13=_:=dq he 13;rw[e13]at hK |-;rw[if_pos (by rfl)];simp only[gQ]at hK;have HK:=hid hK;clear hK he hBW hi hne;go_simp;exact HK.out _ _ ⟨W.heap.size,rfl,HSZ.out,by simp,(World.cell?_alloc_at _ _ _ _ rfl).trans rfl⟩ (bR.alloc lR _)
     ·exact absurd rfl hne
    ·intro o vs W ho he hBW K hK;simp only[gT,qA4,gQ]at hK |-;have BW:=hid hBW;simp only[gE]at ho;subst ho;have LK12:=hid ((dq he 12:gbP V X 2 mb base M hz k fk NB key 12 (vs 12) W) hBW);obtain⟨g18,e18,_,hg18,hc18⟩:=dq he 14;rw[e18]at hK |-;have RD18:=hid (qCP hg18 hc18);rw[if_pos (by rfl)];simp only[gQ]at hK;have HK:=hid hK;clear hK he hBW;obtain⟨DD,l1,ls,l2,l3,l4,l5,l6⟩:=LK12.out;refine qAM (P:=Tryz.prog) W _ _ 42 rfl base 3 _ _ 1 _ (by rfl) (by rfl) (by rfl) (by rfl) (by rfl) (by rfl) (by decide) qAZ qBW (vs 12) (fk key).length ((fk key).map (Value.int .i64)) rfl l2.1 W.heap.size (some ⟨g18,0,none⟩) 1 [(k:Int)] 1 rfl rfl RD18.out (by have:=HMB.out;simp;omega) (by decide) (Nat.le_trans S.out.hb BW.out.size) ?_;intro v9 w9 ho9 hg9 hl9;exact HK.out _ _ (APf.mk BW.out LK12.out (fun _ h=>h.elim) (fun _ h=>h.elim) HWF.out ho9 hg9 hl9) ⟨_,fun j hj=>⟨(l2.1.lt j hj).1,l6 j hj⟩,hg9⟩
    ·intro vs W hall hRel;have e3:vs 3=.map (some mb):=hall 3 (by decide);have e5:vs 5=.string key:=hall 5 (by decide);have hAP:APf V base mb M fk key NB (fun _=>False) (k:Int) (vs 15) W:=hall 15 (by decide);simp only[gT,qA4,gQ];rw[e3,e5];obtain⟨W2,u,h0,⟨DD,g1,gs,g2,g3,g4,g5,g6⟩,g7,g8,g9,_⟩:=hAP;have SW:=hid (S.out.then h0);have HR:=hid (show ∀j,u.ownBlock=some j->base<=j/\col j=2 from fun j e=>⟨(g2.1.lt j e).1,COL.out j (g2.1.lt j e).1 (g6 j e)⟩);have LN:=hid (show (fk key++[(k:Int)]).length<=M+1 by simp;omega);have G1:=hid g1;have Gs:=hid gs;have G2:=hid g2;have G4:=hid g4;have G5:=hid g5;have G7:=hid g7;have G8:=hid g8;have G9:=hid g9;have G0:=hid h0;generalize vs 15=v9 at *;generalize vs 0=u200,vs 1=u201,vs 2=u202,vs 4=u204,vs 6=u206,vs 7=u207,vs 8=u208,vs 9=u209,vs 10=u210,vs 11=u211,vs 12=u212,vs 13=u213,vs 14=u214;clear hall hRel e3 e5 h0 g1 gs g2 g3 g4 g5 g6 g7 g8 g9 GR SH CX NB1 COL HXV PZ;have HV9:=hid (show ∀g,v9.ownBlock=some g->base<=g/\g<W.heap.size/\(u.ownBlock=some g \/ W2.heap.size<=g) from fun g hg=>⟨(G8.out.1.lt g hg).1,(G8.out.1.lt g hg).2,G9.out.elim (fun e=>.inl (by rw[<- e];exact hg)) fun⟨g',e,hge⟩=>.inr (by rw[e]at hg;cases hg;exact hge)⟩);have HS9:=hid (show W2.Shuns mb (fun b=>colU col 2 v9 b≠2) from qDD G5.out fun b hb=>by rw[HNB.out];show col b≠2;unfold colU at hb;split at hb;exact absurd rfl hb;exact hb);have HN9:=hid (show ∀g,v9.ownBlock=some g -> ¬(fun b=>colU col 2 v9 b≠2) g from fun g hg h=>h (by unfold colU;rw[if_pos hg]));go_wp2_with (at_mapUpdate;refine wpList_mapUpdate_back_shuns (H:=Unit) W rfl _ _ _ 122 rfl qC9 Tryz.underlying122 (WideMaps.keyOf_string_mk (P:=Tryz.prog) Tryz.underlying9 HKL.out) G1.out HNX.out G2.out HS9.out HN9.out G4.out rfl rfl rfl G7.out G8.out LN.out G9.out ?_;intro w3 hown3 hgrow3 hsh3;have XB:=hid (qBG ((XB3.out.then G0.out)) (W':=w3) ((hgrow3.block hz (Nat.lt_of_lt_of_le HZ.out (Nat.le_trans G0.out.size G7.out.size)) (fun e=>by have:=Option.some.inj e;have:=HMZ.out;have:=HBZ.out;omega)).trans (G7.out.block hz (Nat.lt_of_lt_of_le HZ.out G0.out.size) (fun e=>by have:=(HR.out hz e.symm).2;have:=CZ.out;omega))) (Nat.le_trans G7.out.size hgrow3.size));obtain⟨⟨_,c0,c1,c2,c3,c4,c5,c6,c7,c8,c9,c10,c11,c12,c13,c14⟩,_,_⟩:=XB.out;go_frame)
     have S3:=hid (SW.out.named (i:=2) ⟨by decide,by decide⟩ HR.out G7.out (HMK.out ▸ hgrow3) (fun g hg=>⟨(HV9.out g hg).1,Nat.lt_of_lt_of_le (HV9.out g hg).2.1 hgrow3.size,(HV9.out g hg).2.2⟩) (HMK.out ▸ hown3) (Gs.out.put G8.out) (HMK.out ▸ hsh3));have CU:=hid (show colU col 2 v9 hz=0 from qJ2 CZ.out (fun g hg=>(HV9.out g hg).2.2.elim (fun e=>.inl (HR.out g e).2) (fun h=>.inr (Nat.le_trans G0.out.size h))) (by decide) HZ.out);obtain⟨f3,hf3⟩:∃f3,f3=(fun j=>if j=2 then addF fk key (k:Int) else f j):=⟨_,rfl⟩;rw[<- hf3]at S3;have HF3:=hid (show f3 1=idxF L2 from by rw[hf3];exact HF.out);obtain⟨col4,hcol4⟩:∃col4,col4=colU col 2 v9:=⟨_,rfl⟩;rw[<- hcol4]at S3 CU;have S4:=hid S3.out;clear hf3 hcol4 S3 hown3 hgrow3 hsh3 c0 c1 c2 c3 c4 c5 c6 c7 c8 c9 c10 c11 c12 c13 c14 HF SW HR LN G0 G1 Gs G2 G4 G5 G7 G8 G9 HV9 HS9 HN9 HKL BZ XB3 HMK HMZ HFK HNB CZ S;have OFC:=hid (qLL q w3 (S4.out.hang q QM.out).now (by have:=QF.out.provN;omega) (by have:=QF.out.filesN;omega));unfold Pk.val at OFC;go_at_call 149
     refine OFC.out.mono ?_;rintro en V2 ⟨b,rfl,hb,hown,h⟩;have S5:=hid (S4.out.then h);have XB5:=hid (XB.out.then h);have CB:=hid (show col4 b=0 from Decidable.not_not.1 fun e=>by have:=(S4.out.dom b e).2;omega);have BBS:=hid (show base<=b from Nat.le_trans S4.out.hb hb);have OWN:=hid hown;have SZ9:=hid (show Maps.size (setD (offN q))<=201 from Nat.le_trans hown.size_le (by have:=QF.out.provN;have:=QF.out.filesN;omega));have HBL:=hid hown.lt;clear h hb hown OFC S4 XB;go_wp2_with (at_range;refine wpList_range_own _ rfl _ 192 rfl 9 142 qC9 Tryz.underlying192 (unitElem (H:=Unit)) b _ (setD (offN q)) rfl OWN.out ?_;intro w4 hrg hg4 hs4;go_frame)
     have BG:=qGV hg4;have S6:=hid (S5.out.then BG);have XB6:=hid (XB5.out.then BG);have CR:=hid (show col4 V2.heap.size=0 from Decidable.not_not.1 fun e=>by have:=(S5.out.dom _ e).2;omega);have RG:=hid hrg;have BRS:=hid S5.out.hb;have HNB:=hid (show V2.heap.size≠b by have:=HBL.out;omega);have HZR:=hid (show hz≠V2.heap.size by have:=XB5.out.2.2;omega);generalize V2.heap.size=r at *;obtain⟨NN,hNN⟩:∃NN,NN=1+q.prov.length+q.files.length:=⟨_,rfl⟩;rw[<- hNN]at RG;clear hrg hg4 hs4 BG S5 XB5 OWN hNN
     go_loopw[8] (fun _ wx => ∃(left:Lit->Bool) (cnt:Nat) (f5:Nat->ByteArray->List Int) (col5:Nat->Nat) (M5:Nat),wx.ranges Tryz.prog 9 (unitElem (H:=Unit)) b r NN (setD (offN q)) left cnt/\IxSt w X m base M5 L3 f5 col5 (.slice A9 n9 k9) wx/\M5+cnt<=M+202/\(∀s,f5 1 s=idxF L2 s++(if hasN (offN q) s && !left (.string s.data.toList) then [(k:Int)] else []))/\qAJ hz q wx/\col5 hz=0/\col5 b=0/\col5 r=0) (fun _ wx=>wx.rangeLeft b r)
     case atStart=>exact⟨_,_,f3,col4,M+1,RG.out,S6.out,by have:=SZ9.out;omega,fun s=>by rw[HF3.out,qMT];cases hasN (offN q) s<;>simp,XB6.out,CU.out,CB.out,CR.out⟩
     case round =>
      obtain⟨left,cnt,f5,col5,M5,hrg,hS,hM5,hf5,hX5,cz,cb,cr⟩:=hrel;rename World=>wx
      have RGX:=hid hrg;have SX:=hid hS;have HM5:=hid hM5;have HF5:=hid hf5;have XBX:=hid hX5;have CZX:=hid cz;have CBX:=hid cb;have CRX:=hid cr;clear hrg hS hM5 hf5 hX5 cz cb cr RG S6 XB6 CU CB CR HF3 SZ9;have HZX:=hid (show hz<wx.heap.size from XBX.out.2.2);go_wp2_with (at_next;refine qRA _ rfl _ rfl b r _ _ _ _ rfl RGX.out ?_ ?_)
      ·intro hc0 hl0;have F6:=hid (show f5 1=idxF L3 from funext fun s=>by rw[HF5.out s,hl0,HL3.out,qQT];congr 1;rw[show (L2.length:Int)=(k:Int) by have:=HLN.out;have:=HN2.out;omega];simp);have S7:=hid SX.out;have HM7:=hid (show M5<=M+202 by have:=HM5.out;omega);obtain⟨⟨_,c0,c1,c2,c3,c4,c5,c6,c7,c8,c9,c10,c11,c12,c13,c14⟩,_,_⟩:=XBX.out;clear hc0 hl0 RGX SX HF5 XBX HM5 CZX CBX CRX HZX;go_wp2_with fail
       go_loopw[82] (fun iv wy => ∃(j:Nat) (f6:Nat->ByteArray->List Int) (col6:Nat->Nat) (M6:Nat),j<=q.obs.length/\iv=.int .i64 (j:Int)/\IxSt w X m base M6 L3 f6 col6 (.slice A9 n9 k9) wy/\M6<=M+202+j/\f6 1=idxF L3) (fun iv _=>q.obs.length - (intOf iv).toNat)
       case atStart=>exact⟨0,f5,col5,M5,Nat.zero_le _,rfl,S7.out,HM7.out,F6.out⟩
       case round =>
        obtain⟨j,f,col,M6,hj,rfl,hS,hM6,hf6⟩:=hrel;rename World=>wy
        have S8:=hid hS;have HM6:=hid hM6;have F8:=hid hf6;clear hS hM6 hf6 S7 HM7 F6 c0 c1 c2 c3 c4 c5 c6 c7 c8 c9 c10 c11 c12 c13 c14;have OB:=hid (S8.out.hang q QM.out).now;have HOB:=hid QF.out.obsN;have hob1:q.obs.length<=100:=QF.out.obsN;by_cases hj2:j<q.obs.length
        ·obtain⟨bo,oo,hA,hbo,e0,e1,e2,e3,e4⟩:=OB.out.obs.dep_at hj2;have KLD:=hid (qI4 (OB.out.obsW _ (List.getElem_mem hj2)));generalize q.obs[j]=d at *;have jj0:(0:Int)<=(j:Int):=by omega
         have jj1:(j:Int)<(q.obs.length:Int):=by omega
         rw[hA];clear hA;go_wp2_with fail
         have B1:=(Below.refl wy.heap.size wy).alloc lR (.cells #[.string (bs d.name),.int .u8 d.op,.int .i64 d.evr.epoch,.string (bs d.evr.ver),.string (bs d.evr.rel)] 37);have S9:=hid (S8.out.then B1);have DB:=hid (DpAt.new wy d);have CZ:=hid (show col wy.heap.size=0 from Decidable.not_not.1 fun e=>by have:=(S8.out.dom _ e).2;omega);have HBZ:=hid S8.out.hb;clear B1 S8 OB e0 e1 e2 e3 e4 hbo;generalize wy.alloc (.cells #[.string (bs d.name),.int .u8 d.op,.int .i64 d.evr.epoch,.string (bs d.evr.ver),.string (bs d.evr.rel)] 37)=V at *;generalize wy.heap.size=db at *;obtain⟨key,hkey⟩:∃key,key=bs d.name:=⟨_,rfl⟩;have BZ0:=hid (show V.cell? ⟨db,0,none⟩=some (.string key) by rw[hkey];exact DB.out.2.1);have HKL:=hid (show key.size<=maxLen by rw[hkey];exact KLD.out);have HZ0:=hid DB.out.1;clear hkey DB KLD;have HMB:=hid (show M6<=303000 by have:=HM6.out;have:=HM.out;have:=HNN.out;have:=HOB.out;omega);have HNX:=hid (show M6<maxLen by have:=HMB.out;unfold maxLen;omega);obtain⟨mb,hmb⟩:∃mb,mb=m 3:=⟨_,rfl⟩;obtain⟨fk,hfk⟩:∃fk,fk=f 3:=⟨_,rfl⟩;have GR:=hid (fun W (hb:Below V.heap.size V W)=>show Grp base mb M6 fk W from by rw[hmb,hfk];exact (S9.out.then hb).grp 3 ⟨by decide,by decide⟩);have CX:=hid (fun W (hb:Below V.heap.size V W)=>(S9.out.then hb).cm 3 ⟨by decide,by decide⟩);rw[<- hmb]at CX;clear hmb hfk;obtain⟨r,hr⟩:∃r,r=(fk key).any (fun s=>(k:Int) == s):=⟨_,rfl⟩;have HRR:=hid hr.symm;clear hr;refine qA6 (PP:=hsP V X mb base M6 db k fk (fun _=>False) key r) 10 rfl (by kernel_rfl) (by kernel_rfl) (by decide) (by decide) (qU4 V X mb base M6 db k fk (fun _=>False) key r) (fun i=>match i with|0=>u86|1=>u87|2=>u88|3=>u89|4=>u90|5=>u91|6=>u92|7=>u93|8=>u94|_=>u95) (by simp[qA4,gQ]) ?_ ?_
         ·intro i o vs W hi ho he hBW K hK;simp only[gT,qA4,gQ]at hK |-;have BW:=hid hBW;have CXW:=hid (CX.out _ hBW);have CNW:=hid ((hBW.cell (p:=⟨db,0,none⟩) HZ0.out).trans BZ0.out);obtain rfl|rfl|rfl|rfl|rfl|rfl|rfl|rfl|rfl|rfl:=c10_ hi<;>simp only[gE]at ho<;>subst ho
          ·rw[if_pos (by rfl)];simp only[gQ]at hK;have HK:=hid hK;clear hK he hi hBW;go_simp;exact HK.out _ _ (by first|rfl|simp[hsP]) bR
          ·have e0:vs 0=_:=dq he 0;rw[e0]at hK |-;rw[if_pos (by rfl)];simp only[gQ]at hK;have HK:=hid hK;clear hK he hi hBW;go_simp;exact HK.out _ _ (by first|rfl|simp[hsP]) bR
          ·have e1:vs 1=_:=dq he 1;rw[e1]at hK |-;rw[if_pos (by rfl)];simp only[gQ]at hK;have HK:=hid hK;clear hK he hi hBW;go_simp;exact HK.out _ _ (by first|rfl|simp[hsP]) bR
          ·have e2:vs 2=_:=dq he 2;rw[e2]at hK |-;rw[if_pos (by rfl)];simp only[gQ]at hK;have HK:=hid hK;clear hK he hi hBW;have cx:=CXW.out;go_simp;exact HK.out _ _ rfl bR
          ·rw[if_pos (by rfl)];simp only[gQ]at hK;have HK:=hid hK;clear hK he hi hBW;go_simp;exact HK.out _ _ (by first|rfl|simp[hsP]) bR
          ·have e4:vs 4=_:=dq he 4;rw[e4]at hK |-;rw[if_pos (by rfl)];simp only[gQ]at hK;have HK:=hid hK;clear hK he hi hBW;have cn:=CNW.out;go_simp;exact HK.out _ _ rfl bR
          ·have e3:vs 3=_:=dq he 3;rw[e3]at hK |-;have e5:vs 5=_:=dq he 5;rw[e5]at hK |-;rw[if_pos (by rfl)];simp only[gQ]at hK;have HK:=hid hK;clear hK he hi hBW;exact qBL W _ _ rfl (mb:=mb) (No:=fun _=>False) rfl rfl HKL.out HNX.out (GR.out _ BW.out) (fun _ _ _ _ _ _ _ h=>h) fun u hu=>HK.out _ _ hu bR
          ·rw[if_pos (by rfl)];simp only[gQ]at hK;have HK:=hid hK;clear hK he hi hBW;go_simp;exact HK.out _ _ (by first|rfl|simp[hsP]) bR
          ·have LK6:=hid (dq he 6:hsP V X mb base M6 db k fk (fun _=>False) key r 6 (vs 6) W);have e7:vs 7=_:=dq he 7;rw[e7]at hK |-;rw[if_pos (by rfl)];simp only[gQ]at hK;have HK:=hid hK;clear hK he hi hBW;obtain⟨DD,l1,ls,l2,l3,_⟩:=LK6.out;obtain⟨A6,c6,e6,hr6⟩:=qQW l2;rw[e6]at HK |-;have HI:=hid (qO6 (k:Int) (fk key) A6 c6 W hr6 (by have:=HMB.out;omega));rw[HRR.out]at HI;clear e6 l1 ls l2 l3 hr6;generalize (fk key).length=ln at *;go_simp;go_at_call 150
           refine HI.out.mono ?_;rintro en w9 ⟨rfl,h⟩;go_simp;exact HK.out _ _ rfl h
          ·have e8:vs 8=_:=dq he 8;rw[e8]at hK |-;rw[if_pos (by rfl)];simp only[gQ]at hK;have HK:=hid hK;clear hK he hi hBW;go_simp;exact HK.out _ _ rfl bR
         ·intro vs Wq hall hBW;have e9:vs 9=.bool (!r):=hall 9 (by decide);simp only[gT,qA4,qAB,qAA,gP];rw[e9];generalize vs 0=y0,vs 1=y1,vs 2=y2,vs 3=y3,vs 4=y4,vs 5=y5,vs 6=y6,vs 7=y7,vs 8=y8;have S:=hid (S9.out.then hBW);have BZ:=hid ((hBW.cell (p:=⟨db,0,none⟩) HZ0.out).trans BZ0.out);have HZ:=hid (Nat.lt_of_lt_of_le HZ0.out hBW.size);clear hall hBW e9 S9 BZ0 HZ0 GR CX;cases r
          ·clear HRR mb fk;go_wp2_with fail
           have NB1:=hid (show ∀g,¬(fun b=>col b≠3) g->g<Wq.heap.size from fun g hg=>(S.out.dom g (fun e=>hg (by show col g≠3;omega))).2);have CX:=hid (fun W (hb:Below Wq.heap.size Wq W)=>(S.out.then hb).cm 3 ⟨by decide,by decide⟩);obtain⟨mb,hmb⟩:∃mb,mb=m 3:=⟨_,rfl⟩;obtain⟨fk,hfk⟩:∃fk,fk=f 3:=⟨_,rfl⟩;obtain⟨NB,hNB⟩:∃NB:Nat->Prop,NB=fun b=>col b≠3:=⟨_,rfl⟩;have GR:=hid (fun W (hb:Below Wq.heap.size Wq W)=>show Grp base mb M6 fk W from by rw[hmb,hfk];exact (S.out.then hb).grp 3 ⟨by decide,by decide⟩);have SH:=hid (fun W (hb:Below Wq.heap.size Wq W)=>show W.Shuns mb NB from by rw[hmb,hNB];exact (S.out.then hb).shun 3 ⟨by decide,by decide⟩);rw[<- hmb]at CX;rw[<- hNB]at NB1;have HMK:=hid hmb;have HMZ:=hid (show mb<base by rw[hmb];exact S.out.hM 3 ⟨by decide,by decide⟩);have HFK:=hid hfk;have HNB:=hid hNB;clear hmb hfk hNB;have HXV:=hid (show X<Wq.heap.size from Nat.lt_of_lt_of_le S.out.hX S.out.hb);have PZ:=hid S.out.hX;have COL:=hid (show ∀j,base<=j -> ¬NB j->col j=3 from fun j _ h=>by rw[HNB.out]at h;exact Decidable.not_not.1 h);refine qB7 (PP:=gbP Wq X 3 mb base M6 db k fk NB key) (RelS:=RelN Wq base NB) 16 15 rfl (by kernel_rfl) (by kernel_rfl) (by decide) (by decide) (by decide) (qMS Wq X 3 mb base M6 db k fk NB key) (qJ9 Wq X 3 mb base M6 db k fk NB key NB1.out) (fun b c h1 h2=>h1.two h2) (fun b c h1 h2=>RelN.three h1 h2) (fun i=>match i with|0=>u96|1=>u97|2=>u98|3=>u99|4=>u100|5=>u101|6=>u102|7=>u103|8=>u104|9=>u105|10=>u106|11=>u107|12=>u108|13=>u109|14=>u110|_=>u111) (by simp[qA4,gQ]) ?_ ?_ ?_
           ·intro i o vs W hi hne ho he hBW hdep K hK;simp only[gT,qA4,gQ]at hK |-;have HSZ:=hid (qFN hBW);have pX:=qC5 hBW HXV.out (.inl PZ.out);have CXW:=hid ((World.cell?_of_block (w:=Wq) (a:=⟨X,3,none⟩) pX).trans (CX.out _ bR));have CNW:=hid (show W.cell? ⟨db,0,none⟩=some (.string key) from (World.cell?_of_block (w:=Wq) (a:=⟨db,0,none⟩) (qC5 hBW HZ.out (.inr (by rw[HNB.out];show col db≠3;rw[CZ.out];decide)))).trans BZ.out);have DEP:=hid hdep;clear pX hdep;obtain rfl|rfl|rfl|rfl|rfl|rfl|rfl|rfl|rfl|rfl|rfl|rfl|rfl|rfl|rfl|rfl:=c16_ hi<;>simp only[gE]at ho<;>subst ho
            ·rw[if_pos (by rfl)];simp only[gQ]at hK;have HK:=hid hK;clear hK he hBW hi hne;go_simp;exact HK.out _ _ (by first|rfl|simp[gbP]) bR
            ·have e0:vs 0=_:=dq he 0;rw[e0]at hK |-;rw[if_pos (by rfl)];simp only[gQ]at hK;have HK:=hid hK;clear hK he hBW hi hne;go_simp;exact HK.out _ _ (by first|rfl|simp[gbP]) bR
            ·have e1:vs 1=_:=dq he 1;rw[e1]at hK |-;rw[if_pos (by rfl)];simp only[gQ]at hK;have HK:=hid hK;clear hK he hBW hi hne;go_simp;exact HK.out _ _ (by first|rfl|simp[gbP]) bR
            ·have e2:vs 2=_:=dq he 2;rw[e2]at hK |-;rw[if_pos (by rfl)];simp only[gQ]at hK;have HK:=hid hK;clear hK he hBW hi hne;have cx:=CXW.out;go_simp;exact HK.out _ _ rfl bR
            ·rw[if_pos (by rfl)];simp only[gQ]at hK;have HK:=hid hK;clear hK he hBW hi hne;go_simp;exact HK.out _ _ (by first|rfl|simp[gbP]) bR
            ·have e4:vs 4=_:=dq he 4;rw[e4]at hK |-;rw[if_pos (by rfl)];simp only[gQ]at hK;have HK:=hid hK;clear hK he hBW hi hne;have cn:=CNW.out;go_simp;exact HK.out _ _ rfl bR
            ·rw[if_pos (by rfl)];simp only[gQ]at hK;have HK:=hid hK;clear hK he hBW hi hne;go_simp;exact HK.out _ _ (by first|rfl|simp[gbP]) bR
            ·have e6:vs 6=_:=dq he 6;rw[e6]at hK |-;rw[if_pos (by rfl)];simp only[gQ]at hK;have HK:=hid hK;clear hK he hBW hi hne;go_simp;exact HK.out _ _ (by first|rfl|simp[gbP]) bR
            ·have e7:vs 7=_:=dq he 7;rw[e7]at hK |-;rw[if_pos (by rfl)];simp only[gQ]at hK;have HK:=hid hK;clear hK he hBW hi hne;go_simp;exact HK.out _ _ (by first|rfl|simp[gbP]) bR
            ·have e8:vs 8=_:=dq he 8;rw[e8]at hK |-;rw[if_pos (by rfl)];simp only[gQ]at hK;have HK:=hid hK;clear hK he hBW hi hne;have cx:=CXW.out;go_simp;exact HK.out _ _ rfl bR
            ·rw[if_pos (by rfl)];simp only[gQ]at hK;have HK:=hid hK;clear hK he hBW hi hne;go_simp;exact HK.out _ _ (by first|rfl|simp[gbP]) bR
            ·have e10:vs 10=_:=dq he 10;rw[e10]at hK |-;rw[if_pos (by rfl)];simp only[gQ]at hK;have HK:=hid hK;clear hK he hBW hi hne;have cn:=CNW.out;go_simp;exact HK.out _ _ rfl bR
            ·have e9:vs 9=_:=dq he 9;rw[e9]at hK |-;have e11:vs 11=_:=dq he 11;rw[e11]at hK |-;rw[if_pos (by rfl)];simp only[gQ]at hK;have HK:=hid hK;clear hK he hBW hi hne;exact qBL W _ _ rfl (mb:=mb) rfl rfl HKL.out HNX.out (GR.out _ (DEP.out (by kernel_rfl))) (SH.out _ (DEP.out (by kernel_rfl))) fun u hu=>HK.out _ _ (fun _=>hu) bR
            ·rw[if_pos (by rfl)];simp only[gQ]at hK;have HK:=hid hK;clear hK he hBW hi hne;go_simp;exact HK.out _ _ (by first|rfl|simp[gbP]) bR
            ·have e13:vs 13=_:=dq he 13;rw[e13]at hK |-;rw[if_pos (by rfl)];simp only[gQ]at hK;have HK:=hid hK;clear hK he hBW hi hne;go_simp;exact HK.out _ _ ⟨W.heap.size,rfl,HSZ.out,by simp,(World.cell?_alloc_at _ _ _ _ rfl).trans rfl⟩ (bR.alloc lR _)
            ·exact absurd rfl hne
           ·intro o vs W ho he hBW K hK;simp only[gT,qA4,gQ]at hK |-;have BW:=hid hBW;simp only[gE]at ho;subst ho;have LK12:=hid ((dq he 12:gbP Wq X 3 mb base M6 db k fk NB key 12 (vs 12) W) hBW);obtain⟨g18,e18,_,hg18,hc18⟩:=dq he 14;rw[e18]at hK |-;have RD18:=hid (qCP hg18 hc18);rw[if_pos (by rfl)];simp only[gQ]at hK;have HK:=hid hK;clear hK he hBW;obtain⟨DD,l1,ls,l2,l3,l4,l5,l6⟩:=LK12.out;refine qAM (P:=Tryz.prog) W _ _ 42 rfl base 3 _ _ 1 _ (by rfl) (by rfl) (by rfl) (by rfl) (by rfl) (by rfl) (by decide) qAZ qBW (vs 12) (fk key).length ((fk key).map (Value.int .i64)) rfl l2.1 W.heap.size (some ⟨g18,0,none⟩) 1 [(k:Int)] 1 rfl rfl RD18.out (by have:=HMB.out;simp;omega) (by decide) (Nat.le_trans S.out.hb BW.out.size) ?_;intro v9 w9 ho9 hg9 hl9;exact HK.out _ _ (APf.mk BW.out LK12.out (fun _ h=>h.elim) (fun _ h=>h.elim) HWF.out ho9 hg9 hl9) ⟨_,fun j hj=>⟨(l2.1.lt j hj).1,l6 j hj⟩,hg9⟩
           ·intro vs W hall hRel;have e3:vs 3=.map (some mb):=hall 3 (by decide);have e5:vs 5=.string key:=hall 5 (by decide);have hAP:APf Wq base mb M6 fk key NB (fun _=>False) (k:Int) (vs 15) W:=hall 15 (by decide);simp only[gT,qA4,gQ];rw[e3,e5];obtain⟨W2,u,h0,⟨DD,g1,gs,g2,g3,g4,g5,g6⟩,g7,g8,g9,_⟩:=hAP;have SW:=hid (S.out.then h0);have HR:=hid (show ∀j,u.ownBlock=some j->base<=j/\col j=3 from fun j e=>⟨(g2.1.lt j e).1,COL.out j (g2.1.lt j e).1 (g6 j e)⟩);have LN:=hid (show (fk key++[(k:Int)]).length<=M6+1 by simp;omega);have G1:=hid g1;have Gs:=hid gs;have G2:=hid g2;have G4:=hid g4;have G5:=hid g5;have G7:=hid g7;have G8:=hid g8;have G9:=hid g9;have G0:=hid h0;generalize vs 15=v9 at *;generalize vs 0=u200,vs 1=u201,vs 2=u202,vs 4=u204,vs 6=u206,vs 7=u207,vs 8=u208,vs 9=u209,vs 10=u210,vs 11=u211,vs 12=u212,vs 13=u213,vs 14=u214;clear hall hRel e3 e5 h0 g1 gs g2 g3 g4 g5 g6 g7 g8 g9 GR SH CX NB1 COL HXV PZ;have HV9:=hid (show ∀g,v9.ownBlock=some g->base<=g/\g<W.heap.size/\(u.ownBlock=some g \/ W2.heap.size<=g) from fun g hg=>⟨(G8.out.1.lt g hg).1,(G8.out.1.lt g hg).2,G9.out.elim (fun e=>.inl (by rw[<- e];exact hg)) fun⟨g',e,hge⟩=>.inr (by rw[e]at hg;cases hg;exact hge)⟩);have HS9:=hid (show W2.Shuns mb (fun b=>colU col 3 v9 b≠3) from qDD G5.out fun b hb=>by rw[HNB.out];show col b≠3;unfold colU at hb;split at hb;exact absurd rfl hb;exact hb);have HN9:=hid (show ∀g,v9.ownBlock=some g -> ¬(fun b=>colU col 3 v9 b≠3) g from fun g hg h=>h (by unfold colU;rw[if_pos hg]));go_wp2_with (at_mapUpdate;refine wpList_mapUpdate_back_shuns (H:=Unit) W rfl _ _ _ 122 rfl qC9 Tryz.underlying122 (WideMaps.keyOf_string_mk (P:=Tryz.prog) Tryz.underlying9 HKL.out) G1.out HNX.out G2.out HS9.out HN9.out G4.out rfl rfl rfl G7.out G8.out LN.out G9.out ?_;intro w3 hown3 hgrow3 hsh3;go_frame)
            have S3:=hid (SW.out.named (i:=3) ⟨by decide,by decide⟩ HR.out G7.out (HMK.out ▸ hgrow3) (fun g hg=>⟨(HV9.out g hg).1,Nat.lt_of_lt_of_le (HV9.out g hg).2.1 hgrow3.size,(HV9.out g hg).2.2⟩) (HMK.out ▸ hown3) (Gs.out.put G8.out) (HMK.out ▸ hsh3));clear hown3 hgrow3 hsh3;go_roundw
            case rel=>exact⟨j+1,_,_,M6+1,by omega,by go_num,S3.out,by have:=HM6.out;omega,(show (if 1=3 then addF fk key (k:Int) else f 1)=idxF L3 from F8.out)⟩
            case measure=>simp[intOf];omega
          ·go_wp2_with fail
           go_roundw
           case rel=>exact⟨j+1,f,col,M6,by omega,by go_num,S.out,by have:=HM6.out;omega,F8.out⟩
           case measure=>simp[intOf];omega
        ·obtain rfl:j=q.obs.length:=by omega
         have jj1:¬(q.obs.length:Int)<(q.obs.length:Int):=by omega
         have HME:=hid (show M6<=302 * (k+1) by have:=HM6.out;have:=HM.out;have:=HOB.out;omega);clear OB;go_wp2_with fail
         go_roundw
         case rel=>exact⟨k+1,L3,f,col,_,M6,by omega,by go_num,S8.out,HME.out,F8.out,SNQ.out⟩
         case measure=>simp[intOf];omega
      ·intro s w5 cnt5 hsz hlx hhas hrg1 hlt1 hg1 hs1 hen;have S:=hid (SX.out.off hg1 CRX.out BRS.out);have XB3:=hid (qBG XBX.out (hg1.block hz HZX.out (fun e=>by have:=Option.some.inj e;have:=HZR.out;omega)) hg1.size);have RG5:=hid hrg1;have HHAS:=hid hhas;have HLX:=hid hlx;have HLT:=hid hlt1;have HOLD:=hid RGX.out.left_eq;have HMB:=hid (show M5<=303000 by have:=HM5.out;have:=HM.out;have:=HNN.out;omega);have HNX:=hid (show M5<maxLen by have:=HMB.out;unfold maxLen;omega);have HKL:=hid hsz;clear hg1 hs1 hrg1 hlt1 hhas hlx hsz SX RGX XBX;go_wp2_with fail
       clear hen;obtain⟨key,hkey⟩:∃key,key=s:=⟨_,rfl⟩;rw[<- hkey];rw[<- hkey]at HHAS HLX RG5 HKL;clear hkey;obtain⟨col,hcol⟩:∃col,col=col5:=⟨_,rfl⟩;rw[<- hcol]at S CZX CBX CRX;obtain⟨f,hf9⟩:∃f,f=f5:=⟨_,rfl⟩;rw[<- hf9]at S HF5;clear hcol hf9;have NB1:=hid (show ∀g,¬(fun b=>col b≠1) g->g<w5.heap.size from fun g hg=>(S.out.dom g (fun e=>hg (by show col g≠1;omega))).2);have CX:=hid (fun W (hb:Below w5.heap.size w5 W)=>(S.out.then hb).cm 1 ⟨by decide,by decide⟩);obtain⟨mb,hmb⟩:∃mb,mb=m 1:=⟨_,rfl⟩;obtain⟨fk,hfk⟩:∃fk,fk=f 1:=⟨_,rfl⟩;obtain⟨NB,hNB⟩:∃NB:Nat->Prop,NB=fun b=>col b≠1:=⟨_,rfl⟩;have GR:=hid (fun W (hb:Below w5.heap.size w5 W)=>show Grp base mb M5 fk W from by rw[hmb,hfk];exact (S.out.then hb).grp 1 ⟨by decide,by decide⟩);have SH:=hid (fun W (hb:Below w5.heap.size w5 W)=>show W.Shuns mb NB from by rw[hmb,hNB];exact (S.out.then hb).shun 1 ⟨by decide,by decide⟩);rw[<- hmb]at CX;rw[<- hNB]at NB1;have HMK:=hid hmb;have HMZ:=hid (show mb<base by rw[hmb];exact S.out.hM 1 ⟨by decide,by decide⟩);have HFK:=hid hfk;have HNB:=hid hNB;clear hmb hfk hNB;have HXV:=hid (show X<w5.heap.size from Nat.lt_of_lt_of_le S.out.hX S.out.hb);have PZ:=hid S.out.hX;have COL:=hid (show ∀j,base<=j -> ¬NB j->col j=1 from fun j _ h=>by rw[HNB.out]at h;exact Decidable.not_not.1 h);refine qB7 (PP:=gsP w5 X 1 mb base M5 hz k fk NB key) (RelS:=RelN w5 base NB) 14 13 rfl (by kernel_rfl) (by kernel_rfl) (by decide) (by decide) (by decide) (qU1 w5 X 1 mb base M5 hz k fk NB key) (qQO w5 X 1 mb base M5 hz k fk NB key NB1.out) (fun b c h1 h2=>h1.two h2) (fun b c h1 h2=>RelN.three h1 h2) (fun i=>match i with|0=>u65|1=>u66|2=>u67|3=>u68|4=>u69|5=>u70|6=>u71|7=>u72|8=>u73|9=>u74|10=>u75|11=>u76|12=>u77|_=>u78) (by simp[qA4,gQ]) ?_ ?_ ?_
       ·intro i o vs W hi hne ho he hBW hdep K hK;simp only[gT,qA4,gQ]at hK |-;have HSZ:=hid (qFN hBW);have pX:=qC5 hBW HXV.out (.inl PZ.out);have CXW:=hid ((World.cell?_of_block (w:=w5) (a:=⟨X,1,none⟩) pX).trans (CX.out _ bR));have DEP:=hid hdep;clear pX hdep;obtain rfl|rfl|rfl|rfl|rfl|rfl|rfl|rfl|rfl|rfl|rfl|rfl|rfl|rfl:=c14_ hi<;>simp only[gE]at ho<;>subst ho
        ·rw[if_pos (by rfl)];simp only[gQ]at hK;have HK:=hid hK;clear hK he hBW hi hne;go_simp;exact HK.out _ _ (by first|rfl|simp[gsP]) bR
        ·have e0:vs 0=_:=dq he 0;rw[e0]at hK |-;rw[if_pos (by rfl)];simp only[gQ]at hK;have HK:=hid hK;clear hK he hBW hi hne;go_simp;exact HK.out _ _ (by first|rfl|simp[gsP]) bR
        ·have e1:vs 1=_:=dq he 1;rw[e1]at hK |-;rw[if_pos (by rfl)];simp only[gQ]at hK;have HK:=hid hK;clear hK he hBW hi hne;go_simp;exact HK.out _ _ (by first|rfl|simp[gsP]) bR
        ·have e2:vs 2=_:=dq he 2;rw[e2]at hK |-;rw[if_pos (by rfl)];simp only[gQ]at hK;have HK:=hid hK;clear hK he hBW hi hne;have cx:=CXW.out;go_simp;exact HK.out _ _ rfl bR
        iterate 2 ·rw[if_pos (by rfl)];simp only[gQ]at hK;have HK:=hid hK;clear hK he hBW hi hne;go_simp;exact HK.out _ _ (by first|rfl|simp[gsP]) bR
        ·have e5:vs 5=_:=dq he 5;rw[e5]at hK |-;rw[if_pos (by rfl)];simp only[gQ]at hK;have HK:=hid hK;clear hK he hBW hi hne;go_simp;exact HK.out _ _ (by first|rfl|simp[gsP]) bR
        ·have e6:vs 6=_:=dq he 6;rw[e6]at hK |-;rw[if_pos (by rfl)];simp only[gQ]at hK;have HK:=hid hK;clear hK he hBW hi hne;go_simp;exact HK.out _ _ (by first|rfl|simp[gsP]) bR
        ·have e7:vs 7=_:=dq he 7;rw[e7]at hK |-;rw[if_pos (by rfl)];simp only[gQ]at hK;have HK:=hid hK;clear hK he hBW hi hne;have cx:=CXW.out;go_simp;exact HK.out _ _ rfl bR
        ·rw[if_pos (by rfl)];simp only[gQ]at hK;have HK:=hid hK;clear hK he hBW hi hne;go_simp;exact HK.out _ _ (by first|rfl|simp[gsP]) bR
        ·have e8:vs 8=_:=dq he 8;rw[e8]at hK |-;have e9:vs 9=_:=dq he 9;rw[e9]at hK |-;rw[if_pos (by rfl)];simp only[gQ]at hK;have HK:=hid hK;clear hK he hBW hi hne;exact qBL W _ _ rfl (mb:=mb) rfl rfl HKL.out HNX.out (GR.out _ (DEP.out (by kernel_rfl))) (SH.out _ (DEP.out (by kernel_rfl))) fun u hu=>HK.out _ _ (fun _=>hu) bR
        ·rw[if_pos (by rfl)];simp only[gQ]at hK;have HK:=hid hK;clear hK he hBW hi hne;go_simp;exact HK.out _ _ (by first|rfl|simp[gsP]) bR
        ·have e11:vs 11=_:=dq he 11;rw[e11]at hK |-;rw[if_pos (by rfl)];simp only[gQ]at hK;have HK:=hid hK;clear hK he hBW hi hne;go_simp;exact HK.out _ _ ⟨W.heap.size,rfl,HSZ.out,by simp,(World.cell?_alloc_at _ _ _ _ rfl).trans rfl⟩ (bR.alloc lR _)
        ·exact absurd rfl hne
       ·intro o vs W ho he hBW K hK;simp only[gT,qA4,gQ]at hK |-;have BW:=hid hBW;simp only[gE]at ho;subst ho;have LK12:=hid ((dq he 10:gsP w5 X 1 mb base M5 hz k fk NB key 10 (vs 10) W) hBW);obtain⟨g18,e18,_,hg18,hc18⟩:=dq he 12;rw[e18]at hK |-;have RD18:=hid (qCP hg18 hc18);rw[if_pos (by rfl)];simp only[gQ]at hK;have HK:=hid hK;clear hK he hBW;obtain⟨DD,l1,ls,l2,l3,l4,l5,l6⟩:=LK12.out;refine qAM (P:=Tryz.prog) W _ _ 42 rfl base 3 _ _ 1 _ (by rfl) (by rfl) (by rfl) (by rfl) (by rfl) (by rfl) (by decide) qAZ qBW (vs 10) (fk key).length ((fk key).map (Value.int .i64)) rfl l2.1 W.heap.size (some ⟨g18,0,none⟩) 1 [(k:Int)] 1 rfl rfl RD18.out (by have:=HMB.out;simp;omega) (by decide) (Nat.le_trans S.out.hb BW.out.size) ?_;intro v9 w9 ho9 hg9 hl9;exact HK.out _ _ (APf.mk BW.out LK12.out (fun _ h=>h.elim) (fun _ h=>h.elim) HWF.out ho9 hg9 hl9) ⟨_,fun j hj=>⟨(l2.1.lt j hj).1,l6 j hj⟩,hg9⟩
       ·intro vs W hall hRel;have e3:vs 3=.map (some mb):=hall 3 (by decide);have e5:vs 4=.string key:=hall 4 (by decide);have hAP:APf w5 base mb M5 fk key NB (fun _=>False) (k:Int) (vs 13) W:=hall 13 (by decide);simp only[gT,qA4,gQ];rw[e3,e5];obtain⟨W2,u,h0,⟨DD,g1,gs,g2,g3,g4,g5,g6⟩,g7,g8,g9,_⟩:=hAP;have SW:=hid (S.out.then h0);have HR:=hid (show ∀j,u.ownBlock=some j->base<=j/\col j=1 from fun j e=>⟨(g2.1.lt j e).1,COL.out j (g2.1.lt j e).1 (g6 j e)⟩);have LN:=hid (show (fk key++[(k:Int)]).length<=M5+1 by simp;omega);have G1:=hid g1;have Gs:=hid gs;have G2:=hid g2;have G4:=hid g4;have G5:=hid g5;have G7:=hid g7;have G8:=hid g8;have G9:=hid g9;have G0:=hid h0;generalize vs 13=v9 at *;generalize vs 0=u200,vs 1=u201,vs 2=u202,vs 5=u205,vs 6=u206,vs 7=u207,vs 8=u208,vs 9=u209,vs 10=u210,vs 11=u211,vs 12=u212;clear hall hRel e3 e5 h0 g1 gs g2 g3 g4 g5 g6 g7 g8 g9 GR SH CX NB1 COL HXV PZ;have HV9:=hid (show ∀g,v9.ownBlock=some g->base<=g/\g<W.heap.size/\(u.ownBlock=some g \/ W2.heap.size<=g) from fun g hg=>⟨(G8.out.1.lt g hg).1,(G8.out.1.lt g hg).2,G9.out.elim (fun e=>.inl (by rw[<- e];exact hg)) fun⟨g',e,hge⟩=>.inr (by rw[e]at hg;cases hg;exact hge)⟩);have HS9:=hid (show W2.Shuns mb (fun b=>colU col 1 v9 b≠1) from qDD G5.out fun b hb=>by rw[HNB.out];show col b≠1;unfold colU at hb;split at hb;exact absurd rfl hb;exact hb);have HN9:=hid (show ∀g,v9.ownBlock=some g -> ¬(fun b=>colU col 1 v9 b≠1) g from fun g hg h=>h (by unfold colU;rw[if_pos hg]));go_wp2_with (at_mapUpdate;refine wpList_mapUpdate_back_shuns (H:=Unit) W rfl _ _ _ 122 rfl qC9 Tryz.underlying122 (WideMaps.keyOf_string_mk (P:=Tryz.prog) Tryz.underlying9 HKL.out) G1.out HNX.out G2.out HS9.out HN9.out G4.out rfl rfl rfl G7.out G8.out LN.out G9.out ?_;intro w3 hown3 hgrow3 hsh3;go_frame)
        have S3:=hid (SW.out.named (i:=1) ⟨by decide,by decide⟩ HR.out G7.out (HMK.out ▸ hgrow3) (fun g hg=>⟨(HV9.out g hg).1,Nat.lt_of_lt_of_le (HV9.out g hg).2.1 hgrow3.size,(HV9.out g hg).2.2⟩) (HMK.out ▸ hown3) (Gs.out.put G8.out) (HMK.out ▸ hsh3));have HB5:=hid (show b<w5.heap.size/\r<w5.heap.size/\hz<w5.heap.size from⟨RG5.out.owns.lt,RG5.out.lt,XB3.out.2.2⟩);have CU:=fun (y:Nat) (hy:y<w5.heap.size) (hc:col y=0)=>(show colU col 1 v9 y=0 from qJ2 hc (fun g hg=>(HV9.out g hg).2.2.elim (fun e=>.inl (HR.out g e).2) (fun h=>.inr (Nat.le_trans G0.out.size h))) (by decide) hy);have NU:=fun (y:Nat) (hc:col y=0)=>(show some y≠u.ownBlock from fun e=>by have:=(HR.out y e.symm).2;omega);have NM:=fun (y:Nat) (hy:base<=y)=>(show some y≠some mb from fun e=>by have:=Option.some.inj e;have:=HMZ.out;omega);have RGN:=hid (((RG5.out.kept (qAC G0.out none) (by simp) (by simp)).kept G7.out (NU b CBX.out) (NU r CRX.out)).kept hgrow3 (NM b BBS.out) (NM r BRS.out));have XBN:=hid (qBG (XB3.out.then G0.out) (W':=w3) ((hgrow3.block hz (Nat.lt_of_lt_of_le HB5.out.2.2 (Nat.le_trans G0.out.size G7.out.size)) (NM hz HBZ3.out)).trans (G7.out.block hz (Nat.lt_of_lt_of_le HB5.out.2.2 G0.out.size) (NU hz CZX.out))) (Nat.le_trans G7.out.size hgrow3.size));have FN:=hid (qUM (F:=fk) (G:=idxF L2) (k:=(k:Int)) (fun s=>by rw[HFK.out];exact HF5.out s) HLX.out (by rw[<- qMT];exact HHAS.out));have C3:=hid (show colU col 1 v9 hz=0/\colU col 1 v9 b=0/\colU col 1 v9 r=0 from⟨CU hz HB5.out.2.2 CZX.out,CU b HB5.out.1 CBX.out,CU r HB5.out.2.1 CRX.out⟩);clear CU NU NM hown3 hgrow3 hsh3;go_roundw
        case rel=>exact⟨_,cnt5,_,_,M5+1,RGN.out,S3.out,by have:=HM5.out;have:=HLT.out;omega,fun s=>FN.out s,XBN.out,C3.out.1,C3.out.2.1,C3.out.2.2⟩
        case measure=>rw[RGN.out.left_eq,HOLD.out];exact HLT.out
  ·obtain rfl:k=n:=by omega
   have j1:¬(k:Int)<(k:Int):=by omega
   have AE:=hid (show qAQ (L.map Pr.pk) L2 from by have:=AL.out;rwa [List.take_of_length_le (by rw[List.length_map];have:=HN0.out;omega)]at this);have IE:=hid (show IndexAt X L2 (idxF L2) wr from HF.out ▸ S.out.at_ (by have:=HM.out;have:=HNN.out;unfold maxLen;omega));have BE:=hid S.out.old;clear AL S;go_wp2_with fail
   refine bodyPost_ret (v:=.tuple #[.pointer (some ⟨X,0,none⟩),.int .i64 0]) (by simp[results,Tryz.results107,go_sem]) rfl ?_;exact⟨X,rfl,L2,IE.out,AE.out,HXW.out,BE.out⟩
