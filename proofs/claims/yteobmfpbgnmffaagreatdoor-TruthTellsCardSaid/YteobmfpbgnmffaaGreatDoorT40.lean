/- R12New -/
import Derived.Test.YteobmfpbgnmffaaGreatDoorT24
import Derived.Test.YteobmfpbgnmffaaGreatDoorT39
set_option linter.unusedVariables false
set_option maxHeartbeats 16000000
set_option maxRecDepth 100000
open Go.Lib (hid)
set_option linter.unusedSimpArgs false
namespace Go.Proofs.YteobmfpbgnmffaaGreatDoor
theorem p1 {t:Array Value}{ds:List Deferred}{d:Tmp}{v:Value} : Act.put ⟨t,ds⟩ (some d) v=⟨t.setIfInBounds d v,ds⟩ := rfl
theorem p2 {l:List Value}{i:Nat}{v:Value} : l.toArray.setIfInBounds i v=(l.set i v).toArray := List.setIfInBounds_toArray ..
theorem p3 {a b:Value}{l:List Value} : (a::l).set 0 b=b::l := rfl
theorem p4 {a b:Value}{l:List Value}{i:Nat} : (a::l).set (i+1) b=a::l.set i b := rfl
theorem p5 {a:Oper}{l:List Oper}{i:Nat} : (a::l).take (i+1)=a::l.take i := rfl
theorem p6 {l:List Oper} : l.take 0=[] := rfl
theorem p7 {a:Oper}{l:List Oper}{i:Nat} : (a::l).drop (i+1)=l.drop i := rfl
theorem p8 {l:List Oper} : l.drop 0=l := rfl
open Go.RowKit Go.Shelf
def r12I (Q base B b o ni ic i n:Nat)(A2 A3 A4:Option Addr)(c2 c3 c4:Nat)(x:Pk)(L:List Pk)(RB RC:List Int)(i_:Nat)(vs:Nat->Value)(W:World) : Prop := match i_ with
 |0=>vs 0=.pointer (some ⟨Q,0,none⟩)
 |1=>vs 1=.pointer (some ⟨Q,0,none⟩)
 |2=>vs 2=.pointer (some ⟨Q,0,none⟩)
 |3=>vs 3=.pointer (some ⟨Q,0,none⟩)
 |4=>vs 4=.pointer (some ⟨Q,0,none⟩)
 |5=>vs 5=.pointer (some ⟨Q,0,none⟩)
 |6=>vs 6=.slice A2 n c2
 |7=>vs 7=.slice (some ⟨b,o,none⟩) ni ic
 |8=>vs 8=.int .i64 (i:Int)
 |9=>vs 9=.pointer (some ⟨b,o+i * 15,none⟩)
 |10=>vs 10=.agg #[.string x.name,.int .i64 x.epoch,.string x.ver,.string x.rel,.int .u8 x.arch,.string x.vendor,.slice x.provA x.prov.length x.provC,.slice x.reqA x.req.length x.reqC,.slice x.conA x.con.length x.conC,.slice x.obsA x.obs.length x.obsC,.slice x.rcmA x.rcm.length x.rcmC,.slice x.supA x.sup.length x.supC,.slice x.sugA x.sug.length x.sugC,.slice x.enhA x.enh.length x.enhC,.slice x.filesA x.files.length x.filesC]
 | 11 => ∃q:Pk,vs 11=q.val/\Alike x q/\PkOwn B q W
 | 12 => ∃(q:Pk) (g:Nat),vs 12=.slice (some ⟨g,0,none⟩) 1 1/\Alike x q/\PkOwn B q W/\Rd Pk.cells 15 W.heap.size (some ⟨g,0,none⟩) 1 [q] W/\B<=g/\g<W.heap.size
 |13=>QA base B x L (.slice A2 n c2) (vs 13) W
 |14=>vs 14=.pointer (some ⟨Q,0,none⟩)
 |15=>vs 15=.pointer (some ⟨Q,0,none⟩)
 |16=>vs 16=.pointer (some ⟨Q,2,none⟩)
 |17=>vs 17=.slice A3 n c3
 | 18 => ∃g,vs 18=.slice (some ⟨g,0,none⟩) 1 1/\B<=g/\g<W.heap.size/\W.cell? ⟨g,0,none⟩=some (.int .i64 (-1))
 |19=>QB base B x L RB (-1) (.slice A2 n c2) (.slice A3 n c3) (vs 13) (vs 19) W
 |20=>vs 20=.pointer (some ⟨Q,0,none⟩)
 |21=>vs 21=.pointer (some ⟨Q,0,none⟩)
 |22=>vs 22=.pointer (some ⟨Q,3,none⟩)
 |23=>vs 23=.slice A4 n c4
 | 24 => ∃g,vs 24=.slice (some ⟨g,0,none⟩) 1 1/\B<=g/\g<W.heap.size/\W.cell? ⟨g,0,none⟩=some (.int .i64 1025)
 |25=>QC base B x L RB RC (-1) 1025 (.slice A2 n c2) (.slice A3 n c3) (.slice A4 n c4) (vs 13) (vs 19) (vs 25) W
 |26=>vs 26=.pointer (some ⟨Q,0,none⟩)
 |27=>vs 27=.pointer (some ⟨Q,0,none⟩)
 |28=>W.cell? ⟨Q,0,none⟩=some (vs 13)
 |29=>vs 29=.pointer (some ⟨Q,0,none⟩)
 |30=>vs 30=.pointer (some ⟨Q,2,none⟩)
 |31=>W.cell? ⟨Q,2,none⟩=some (vs 19)
 |32=>vs 32=.pointer (some ⟨Q,0,none⟩)
 |33=>vs 33=.pointer (some ⟨Q,3,none⟩)
 |34=>W.cell? ⟨Q,3,none⟩=some (vs 25)
 | _=>False
theorem qV1 (Q base B b o ni ic i n:Nat)(A2 A3 A4:Option Addr)(c2 c3 c4:Nat)(x:Pk)(L:List Pk)(RB RC:List Int):∀i_ j vs v W,i_≠j->(j=19->i_≠13)->(j=25->i_≠13/\i_≠19)->(j=28->i_≠13)->(j=31->i_≠19)->(j=34->i_≠25)->r12I Q base B b o ni ic i n A2 A3 A4 c2 c3 c4 x L RB RC j vs W->r12I Q base B b o ni ic i n A2 A3 A4 c2 c3 c4 x L RB RC j (upd vs i_ v) W := by
 intro i_ j vs v W hne h1 h2 h3 h4 h5 h
 match j,h with
 |0,h=>simp only[r12I]at h |-;rw[qA2 hne];exact h
 |1,h=>simp only[r12I]at h |-;rw[qA2 hne];exact h
 |2,h=>simp only[r12I]at h |-;rw[qA2 hne];exact h
 |3,h=>simp only[r12I]at h |-;rw[qA2 hne];exact h
 |4,h=>simp only[r12I]at h |-;rw[qA2 hne];exact h
 |5,h=>simp only[r12I]at h |-;rw[qA2 hne];exact h
 |6,h=>simp only[r12I]at h |-;rw[qA2 hne];exact h
 |7,h=>simp only[r12I]at h |-;rw[qA2 hne];exact h
 |8,h=>simp only[r12I]at h |-;rw[qA2 hne];exact h
 |9,h=>simp only[r12I]at h |-;rw[qA2 hne];exact h
 |10,h=>simp only[r12I]at h |-;rw[qA2 hne];exact h
 |11,h=>simp only[r12I]at h |-;rw[qA2 hne];exact h
 |12,h=>simp only[r12I]at h |-;rw[qA2 hne];exact h
 |13,h=>simp only[r12I]at h |-;rw[qA2 hne];exact h
 |14,h=>simp only[r12I]at h |-;rw[qA2 hne];exact h
 |15,h=>simp only[r12I]at h |-;rw[qA2 hne];exact h
 |16,h=>simp only[r12I]at h |-;rw[qA2 hne];exact h
 |17,h=>simp only[r12I]at h |-;rw[qA2 hne];exact h
 |18,h=>simp only[r12I]at h |-;rw[qA2 hne];exact h
 |19,h=>simp only[r12I]at h |-;rw[qA2 hne,qA2 (h1 rfl)];exact h
 |20,h=>simp only[r12I]at h |-;rw[qA2 hne];exact h
 |21,h=>simp only[r12I]at h |-;rw[qA2 hne];exact h
 |22,h=>simp only[r12I]at h |-;rw[qA2 hne];exact h
 |23,h=>simp only[r12I]at h |-;rw[qA2 hne];exact h
 |24,h=>simp only[r12I]at h |-;rw[qA2 hne];exact h
 |25,h=>simp only[r12I]at h |-;rw[qA2 hne,qA2 (h2 rfl).1,qA2 (h2 rfl).2];exact h
 |26,h=>simp only[r12I]at h |-;rw[qA2 hne];exact h
 |27,h=>simp only[r12I]at h |-;rw[qA2 hne];exact h
 |28,h=>simp only[r12I]at h |-;rw[qA2 (h3 rfl)];exact h
 |29,h=>simp only[r12I]at h |-;rw[qA2 hne];exact h
 |30,h=>simp only[r12I]at h |-;rw[qA2 hne];exact h
 |31,h=>simp only[r12I]at h |-;rw[qA2 (h4 rfl)];exact h
 |32,h=>simp only[r12I]at h |-;rw[qA2 hne];exact h
 |33,h=>simp only[r12I]at h |-;rw[qA2 hne];exact h
 |34,h=>simp only[r12I]at h |-;rw[qA2 (h5 rfl)];exact h
 | (k_+35),h=>exact h.elim
theorem qS2 {w0 V:World}{I:Int}{No:Nat->Prop}(Q base B b o ni ic i n:Nat)(A2 A3 A4:Option Addr)(c2 c3 c4:Nat)(x:Pk)(L:List Pk)(RB RC:List Int)(hS:RqSt w0 Q base I L RB RC No (.slice A2 n c2) (.slice A3 n c3) (.slice A4 n c4) V)(hB:B=V.heap.size):∀i_ j vs w1 w2,i_≠j->(i_=19->j≠13)->(i_=25->j≠13/\j≠19)->r12I Q base B b o ni ic i n A2 A3 A4 c2 c3 c4 x L RB RC i_ vs w1->RelQ Q (rowQ Q 13 19 25 28 31 34 (.slice A2 n c2) (.slice A3 n c3) (.slice A4 n c4) j) (offQ 28 31 34 j) w1 w2->r12I Q base B b o ni ic i n A2 A3 A4 c2 c3 c4 x L RB RC i_ vs w2 := by
 intro i_ j vs w1 w2 hne h1 h2 h hq;have hr:=hq.grow;subst hB;have lt:∀k,rowQ Q 13 19 25 28 31 34 (.slice A2 n c2) (.slice A3 n c3) (.slice A4 n c4) j=some k->k<V.heap.size:=fun k e=>hS.rowLt e;have bl:∀b,V.heap.size<=b->b<w1.heap.size->w2.heap[b]?=w1.heap[b]?:=fun b h3 h4=>hr.block b h4 fun e=>by have:=lt b e.symm;omega
 match i_,h with
 |0,h|1,h|2,h|3,h|4,h|5,h|6,h|7,h|8,h|9,h|10,h=>exact h
 |11,h=>obtain⟨q,e,ha,hq⟩:=h;exact⟨q,e,ha,hq.keepB hr.size bl⟩
 |12,h=>obtain⟨q,g,e,ha,hq,hd,k1,k2⟩:=h;exact⟨q,g,e,ha,hq.keepB hr.size bl,qDM hd (bl g k1 k2) hr.size,k1,Nat.lt_of_lt_of_le k2 hr.size⟩
 |13,h=>exact QA.grow h hr fun k e=>hS.rowA (fun e2=>hne e2.symm) e
 |14,h|15,h|16,h|17,h=>exact h
 |18,h=>obtain⟨g,e,k1,k2,k3⟩:=h;exact⟨g,e,k1,Nat.lt_of_lt_of_le k2 hr.size,(World.cell?_of_block (a:=⟨g,0,none⟩) (bl g k1 k2)).trans k3⟩
 |19,h=>exact QB.grow h hr (fun k e=>hS.rowA (h1 rfl) e) fun k e=>hS.rowB (fun e2=>hne e2.symm) e
 |20,h|21,h|22,h|23,h=>exact h
 |24,h=>obtain⟨g,e,k1,k2,k3⟩:=h;exact⟨g,e,k1,Nat.lt_of_lt_of_le k2 hr.size,(World.cell?_of_block (a:=⟨g,0,none⟩) (bl g k1 k2)).trans k3⟩
 |25,h=>exact QC.grow h hr (fun k e=>hS.rowA (h2 rfl).1 e) (fun k e=>hS.rowB (h2 rfl).2 e) fun k e=>hS.rowC (fun e2=>hne e2.symm) e
 |26,h|27,h=>exact h
 |28,h=>exact (hq.cell 0 (qLI fun e=>hne e.symm)).trans h
 |29,h|30,h=>exact h
 |31,h=>exact (hq.cell 2 (qLJ fun e=>hne e.symm)).trans h
 |32,h|33,h=>exact h
 |34,h=>exact (hq.cell 3 (qLK fun e=>hne e.symm)).trans h
 | (k_+35),h=>exact h.elim
def r12R (Q base B b2 o2 nr rc i b o np pc k n:Nat)(A2 A3 A4:Option Addr)(c2 c3 c4:Nat)(prio:Int)(x:Pk)(L:List Pk)(RB RC:List Int)(i_:Nat)(vs:Nat->Value)(W:World) : Prop := match i_ with
 |0=>vs 0=.pointer (some ⟨Q,0,none⟩)
 |1=>vs 1=.pointer (some ⟨Q,0,none⟩)
 |2=>vs 2=.pointer (some ⟨Q,0,none⟩)
 |3=>vs 3=.pointer (some ⟨Q,0,none⟩)
 |4=>vs 4=.pointer (some ⟨Q,0,none⟩)
 |5=>vs 5=.pointer (some ⟨Q,0,none⟩)
 |6=>vs 6=.slice A2 n c2
 |7=>vs 7=.slice (some ⟨b2,o2,none⟩) nr rc
 |8=>vs 8=.int .i64 (i:Int)
 |9=>vs 9=.pointer (some ⟨b2,o2+i * 2,none⟩)
 |10=>vs 10=.pointer (some ⟨b2,o2+i * 2+1,none⟩)
 |11=>vs 11=.slice (some ⟨b,o,none⟩) np pc
 |12=>vs 12=.int .i64 (k:Int)
 |13=>vs 13=.pointer (some ⟨b,o+k * 15,none⟩)
 |14=>vs 14=.agg #[.string x.name,.int .i64 x.epoch,.string x.ver,.string x.rel,.int .u8 x.arch,.string x.vendor,.slice x.provA x.prov.length x.provC,.slice x.reqA x.req.length x.reqC,.slice x.conA x.con.length x.conC,.slice x.obsA x.obs.length x.obsC,.slice x.rcmA x.rcm.length x.rcmC,.slice x.supA x.sup.length x.supC,.slice x.sugA x.sug.length x.sugC,.slice x.enhA x.enh.length x.enhC,.slice x.filesA x.files.length x.filesC]
 | 15 => ∃q:Pk,vs 15=q.val/\Alike x q/\PkOwn B q W
 | 16 => ∃(q:Pk) (g:Nat),vs 16=.slice (some ⟨g,0,none⟩) 1 1/\Alike x q/\PkOwn B q W/\Rd Pk.cells 15 W.heap.size (some ⟨g,0,none⟩) 1 [q] W/\B<=g/\g<W.heap.size
 |17=>QA base B x L (.slice A2 n c2) (vs 17) W
 |18=>vs 18=.pointer (some ⟨Q,0,none⟩)
 |19=>vs 19=.pointer (some ⟨Q,0,none⟩)
 |20=>vs 20=.pointer (some ⟨Q,2,none⟩)
 |21=>vs 21=.slice A3 n c3
 |22=>vs 22=.int .i64 (i:Int)
 | 23 => ∃g,vs 23=.slice (some ⟨g,0,none⟩) 1 1/\B<=g/\g<W.heap.size/\W.cell? ⟨g,0,none⟩=some (.int .i64 (i:Int))
 |24=>QB base B x L RB (i:Int) (.slice A2 n c2) (.slice A3 n c3) (vs 17) (vs 24) W
 |25=>vs 25=.pointer (some ⟨Q,0,none⟩)
 |26=>vs 26=.pointer (some ⟨Q,0,none⟩)
 |27=>vs 27=.pointer (some ⟨Q,3,none⟩)
 |28=>vs 28=.slice A4 n c4
 |29=>vs 29=.slice (some ⟨b2,o2,none⟩) nr rc
 |30=>vs 30=.int .i64 (i:Int)
 |31=>vs 31=.pointer (some ⟨b2,o2+i * 2,none⟩)
 |32=>vs 32=.pointer (some ⟨b2,o2+i * 2,none⟩)
 |33=>vs 33=.int .i64 prio
 | 34 => ∃g,vs 34=.slice (some ⟨g,0,none⟩) 1 1/\B<=g/\g<W.heap.size/\W.cell? ⟨g,0,none⟩=some (.int .i64 prio)
 |35=>QC base B x L RB RC (i:Int) prio (.slice A2 n c2) (.slice A3 n c3) (.slice A4 n c4) (vs 17) (vs 24) (vs 35) W
 |36=>vs 36=.pointer (some ⟨Q,0,none⟩)
 |37=>vs 37=.pointer (some ⟨Q,0,none⟩)
 |38=>W.cell? ⟨Q,0,none⟩=some (vs 17)
 |39=>vs 39=.pointer (some ⟨Q,0,none⟩)
 |40=>vs 40=.pointer (some ⟨Q,2,none⟩)
 |41=>W.cell? ⟨Q,2,none⟩=some (vs 24)
 |42=>vs 42=.pointer (some ⟨Q,0,none⟩)
 |43=>vs 43=.pointer (some ⟨Q,3,none⟩)
 |44=>W.cell? ⟨Q,3,none⟩=some (vs 35)
 | _=>False
theorem qV2 (Q base B b2 o2 nr rc i b o np pc k n:Nat)(A2 A3 A4:Option Addr)(c2 c3 c4:Nat)(prio:Int)(x:Pk)(L:List Pk)(RB RC:List Int):∀i_ j vs v W,i_≠j->(j=24->i_≠17)->(j=35->i_≠17/\i_≠24)->(j=38->i_≠17)->(j=41->i_≠24)->(j=44->i_≠35)->r12R Q base B b2 o2 nr rc i b o np pc k n A2 A3 A4 c2 c3 c4 prio x L RB RC j vs W->r12R Q base B b2 o2 nr rc i b o np pc k n A2 A3 A4 c2 c3 c4 prio x L RB RC j (upd vs i_ v) W := by
 intro i_ j vs v W hne h1 h2 h3 h4 h5 h
 match j,h with
 |0,h=>simp only[r12R]at h |-;rw[qA2 hne];exact h
 |1,h=>simp only[r12R]at h |-;rw[qA2 hne];exact h
 |2,h=>simp only[r12R]at h |-;rw[qA2 hne];exact h
 |3,h=>simp only[r12R]at h |-;rw[qA2 hne];exact h
 |4,h=>simp only[r12R]at h |-;rw[qA2 hne];exact h
 |5,h=>simp only[r12R]at h |-;rw[qA2 hne];exact h
 |6,h=>simp only[r12R]at h |-;rw[qA2 hne];exact h
 |7,h=>simp only[r12R]at h |-;rw[qA2 hne];exact h
 |8,h=>simp only[r12R]at h |-;rw[qA2 hne];exact h
 |9,h=>simp only[r12R]at h |-;rw[qA2 hne];exact h
 |10,h=>simp only[r12R]at h |-;rw[qA2 hne];exact h
 |11,h=>simp only[r12R]at h |-;rw[qA2 hne];exact h
 |12,h=>simp only[r12R]at h |-;rw[qA2 hne];exact h
 |13,h=>simp only[r12R]at h |-;rw[qA2 hne];exact h
 |14,h=>simp only[r12R]at h |-;rw[qA2 hne];exact h
 |15,h=>simp only[r12R]at h |-;rw[qA2 hne];exact h
 |16,h=>simp only[r12R]at h |-;rw[qA2 hne];exact h
 |17,h=>simp only[r12R]at h |-;rw[qA2 hne];exact h
 |18,h=>simp only[r12R]at h |-;rw[qA2 hne];exact h
 |19,h=>simp only[r12R]at h |-;rw[qA2 hne];exact h
 |20,h=>simp only[r12R]at h |-;rw[qA2 hne];exact h
 |21,h=>simp only[r12R]at h |-;rw[qA2 hne];exact h
 |22,h=>simp only[r12R]at h |-;rw[qA2 hne];exact h
 |23,h=>simp only[r12R]at h |-;rw[qA2 hne];exact h
 |24,h=>simp only[r12R]at h |-;rw[qA2 hne,qA2 (h1 rfl)];exact h
 |25,h=>simp only[r12R]at h |-;rw[qA2 hne];exact h
 |26,h=>simp only[r12R]at h |-;rw[qA2 hne];exact h
 |27,h=>simp only[r12R]at h |-;rw[qA2 hne];exact h
 |28,h=>simp only[r12R]at h |-;rw[qA2 hne];exact h
 |29,h=>simp only[r12R]at h |-;rw[qA2 hne];exact h
 |30,h=>simp only[r12R]at h |-;rw[qA2 hne];exact h
 |31,h=>simp only[r12R]at h |-;rw[qA2 hne];exact h
 |32,h=>simp only[r12R]at h |-;rw[qA2 hne];exact h
 |33,h=>simp only[r12R]at h |-;rw[qA2 hne];exact h
 |34,h=>simp only[r12R]at h |-;rw[qA2 hne];exact h
 |35,h=>simp only[r12R]at h |-;rw[qA2 hne,qA2 (h2 rfl).1,qA2 (h2 rfl).2];exact h
 |36,h=>simp only[r12R]at h |-;rw[qA2 hne];exact h
 |37,h=>simp only[r12R]at h |-;rw[qA2 hne];exact h
 |38,h=>simp only[r12R]at h |-;rw[qA2 (h3 rfl)];exact h
 |39,h=>simp only[r12R]at h |-;rw[qA2 hne];exact h
 |40,h=>simp only[r12R]at h |-;rw[qA2 hne];exact h
 |41,h=>simp only[r12R]at h |-;rw[qA2 (h4 rfl)];exact h
 |42,h=>simp only[r12R]at h |-;rw[qA2 hne];exact h
 |43,h=>simp only[r12R]at h |-;rw[qA2 hne];exact h
 |44,h=>simp only[r12R]at h |-;rw[qA2 (h5 rfl)];exact h
 | (k_+45),h=>exact h.elim
theorem qS3 {w0 V:World}{I:Int}{No:Nat->Prop}(Q base B b2 o2 nr rc i b o np pc k n:Nat)(A2 A3 A4:Option Addr)(c2 c3 c4:Nat)(prio:Int)(x:Pk)(L:List Pk)(RB RC:List Int)(hS:RqSt w0 Q base I L RB RC No (.slice A2 n c2) (.slice A3 n c3) (.slice A4 n c4) V)(hB:B=V.heap.size):∀i_ j vs w1 w2,i_≠j->(i_=24->j≠17)->(i_=35->j≠17/\j≠24)->r12R Q base B b2 o2 nr rc i b o np pc k n A2 A3 A4 c2 c3 c4 prio x L RB RC i_ vs w1->RelQ Q (rowQ Q 17 24 35 38 41 44 (.slice A2 n c2) (.slice A3 n c3) (.slice A4 n c4) j) (offQ 38 41 44 j) w1 w2->r12R Q base B b2 o2 nr rc i b o np pc k n A2 A3 A4 c2 c3 c4 prio x L RB RC i_ vs w2 := by
 intro i_ j vs w1 w2 hne h1 h2 h hq;have hr:=hq.grow;subst hB;have lt:∀k,rowQ Q 17 24 35 38 41 44 (.slice A2 n c2) (.slice A3 n c3) (.slice A4 n c4) j=some k->k<V.heap.size:=fun k e=>hS.rowLt e;have bl:∀b,V.heap.size<=b->b<w1.heap.size->w2.heap[b]?=w1.heap[b]?:=fun b h3 h4=>hr.block b h4 fun e=>by have:=lt b e.symm;omega
 match i_,h with
 |0,h|1,h|2,h|3,h|4,h|5,h|6,h|7,h|8,h|9,h|10,h|11,h|12,h|13,h|14,h=>exact h
 |15,h=>obtain⟨q,e,ha,hq⟩:=h;exact⟨q,e,ha,hq.keepB hr.size bl⟩
 |16,h=>obtain⟨q,g,e,ha,hq,hd,k1,k2⟩:=h;exact⟨q,g,e,ha,hq.keepB hr.size bl,qDM hd (bl g k1 k2) hr.size,k1,Nat.lt_of_lt_of_le k2 hr.size⟩
 |17,h=>exact QA.grow h hr fun k e=>hS.rowA (fun e2=>hne e2.symm) e
 |18,h|19,h|20,h|21,h|22,h=>exact h
 |23,h=>obtain⟨g,e,k1,k2,k3⟩:=h;exact⟨g,e,k1,Nat.lt_of_lt_of_le k2 hr.size,(World.cell?_of_block (a:=⟨g,0,none⟩) (bl g k1 k2)).trans k3⟩
 |24,h=>exact QB.grow h hr (fun k e=>hS.rowA (h1 rfl) e) fun k e=>hS.rowB (fun e2=>hne e2.symm) e
 |25,h|26,h|27,h|28,h|29,h|30,h|31,h|32,h|33,h=>exact h
 |34,h=>obtain⟨g,e,k1,k2,k3⟩:=h;exact⟨g,e,k1,Nat.lt_of_lt_of_le k2 hr.size,(World.cell?_of_block (a:=⟨g,0,none⟩) (bl g k1 k2)).trans k3⟩
 |35,h=>exact QC.grow h hr (fun k e=>hS.rowA (h2 rfl).1 e) (fun k e=>hS.rowB (h2 rfl).2 e) fun k e=>hS.rowC (fun e2=>hne e2.symm) e
 |36,h|37,h=>exact h
 |38,h=>exact (hq.cell 0 (qLI fun e=>hne e.symm)).trans h
 |39,h|40,h=>exact h
 |41,h=>exact (hq.cell 2 (qLJ fun e=>hne e.symm)).trans h
 |42,h|43,h=>exact h
 |44,h=>exact (hq.cell 3 (qLK fun e=>hne e.symm)).trans h
 | (k_+45),h=>exact h.elim
theorem qOW (RA:Option Addr)(rc:Nat)(repos:List Rp)(IA:Option Addr)(ic:Nat)(ins:List Pk)(w:World)(hr:RpRow w.heap.size w RA rc repos)(hi:PRow w.heap.size w IA ic ins)(hd:∀x∈allP repos ins,x.deepOk/\x.few)(ht:ins.length+qBD repos<=1000000)(hk:repos.length<=1000000) : Calls Tryz.prog 24 #[.slice RA repos.length rc,.slice IA ins.length ic] w (qCR repos ins w) := by
 have HR:=hid (fun W (hb:Below w.heap.size w W)=>hr.calls hb);have HIN:=hid (fun W (hb:Below w.heap.size w W)=>(hi.below hb).more hb.size);have HD:=hid hd;have MY:=hid (fun (x:Pk) (hx:x.deepOk) W (h:x.Laid W.heap.size W)=>qOP x W h (Pk.partsOk_of hx));have CP:=hid (fun (x:Pk) (hx:x.few) W (h:x.Laid W.heap.size W)=>qM4 x W h hx);unfold Pk.val at MY;obtain⟨ni,hni⟩:∃n,n=ins.length:=⟨_,rfl⟩;obtain⟨nr,hnr⟩:∃n,n=repos.length:=⟨_,rfl⟩;have HNI:=hid hni;have HNR:=hid hnr;rw[<- hni]at ht |-;rw[<- hnr]at hk |-;have HT:=hid ht;have hni2:ni<=1000000:=by omega
 clear hr hi hd hni hnr
 go_enter Tryz.func24,Tryz.ntmps24
 go_wp2_with fail
 go_loopw[6,7] (fun n iv wr => ∃(i m:Nat),i<=nr/\iv=.int .i64 (i:Int)/\n=.int .i64 (m:Int)/\m=ni+qBD (repos.take i)/\Below w.heap.size w wr) (fun _ iv _=>nr - (intOf iv).toNat)
 case atStart=>exact⟨0,ni,Nat.zero_le _,rfl,rfl,by simp[qBD],Below.refl _ _⟩
 case round =>
  obtain⟨i,m,hi,rfl,rfl,hm,hB⟩:=hrel;rename World=>wr
  have HM:=hid hm;have HB:=hid hB;have hmb:m<=1000000:=by have:=qDJ repos i;have:=HT.out;omega
  clear hm hB;by_cases hlt:i<nr
  ·have hil:i<repos.length:=by have:=HNR.out;omega
   obtain⟨b,o,hadr,hbl,d0,d1⟩:=(HR.out wr HB.out).at_ hil
   have HM2:=hid (show m+(repos[i]).pk.length=ni+qBD (repos.take (i+1)) by rw[qBT repos i hil,HM.out];omega);have hpb:(repos[i]).pk.length<=1000000:=by have h1:=qDJ repos (i+1);have h2:=qBT repos i hil;have:=HT.out;omega
   generalize repos[i]=r at *;obtain⟨np,hnp⟩:∃np,np=r.pk.length:=⟨_,rfl⟩;rw[<- hnp]at d1 HM2 hpb;subst hadr;clear hnp hil;have j0:(0:Int)<=(i:Int):=by omega
   have j1:(i:Int)<(nr:Int):=by omega
   go_wp2_with fail
   go_roundw
   case rel=>exact⟨i+1,m+np,by omega,by go_num,by go_num,HM2.out,HB.out⟩
   case measure=>simp[intOf];omega
  ·obtain rfl:nr=i:=by omega
   have HMT:=hid (show m=ni+qBD repos by rw[HM.out,List.take_of_length_le (by have:=HNR.out;omega)]);have j1:¬(nr:Int)<(nr:Int):=by omega
   clear HM;by_cases q0:(16:Int)<(nr:Int)
   ·have EE:=hid (show qB4 repos ins=40 from qCS (.inl (by have:=HNR.out;omega)));go_wp2_with fail
    go_ret2
    exact qCR.no EE.out (by decide) HB.out
   by_cases q1:(256:Int)<(m:Int)
   ·have EE:=hid (show qB4 repos ins=40 from qCS (.inr (by have:=HNI.out;have:=HMT.out;omega)));go_wp2_with fail
    go_ret2
    exact qCR.no EE.out (by decide) HB.out
   have ER:=hid (show qB4 repos ins=if ins.all mayP && repos.all rpOk then 0 else 4 from qDS (by have:=HNR.out;have:=HNI.out;have:=HMT.out;omega));have SS:=hid (RqSt.start HB.out (ni:Int));have HT2:=hid (show ins.length+qBD repos<=256 by have:=HNI.out;have:=HMT.out;omega);clear hmb HMT;go_wp2_with fail
   clear q0 q1 HB;generalize wr.alloc (.cells #[.slice none 0 0,.int .i64 (ni:Int),.slice none 0 0,.slice none 0 0] 129)=w1 at *;generalize wr.heap.size+1=base at *;generalize wr.heap.size=Q at *
   go_loopw[9] (fun iv wx => ∃(k:Nat) (L:List Pk) (RB RC:List Int) (No:Nat->Prop) (va vb vc:Value),k<=ni/\iv=.int .i64 (k:Int)/\RqSt w Q base (ni:Int) L RB RC No va vb vc wx/\Hid (RB.length=L.length/\RC.length=L.length/\qAQ (ins.take k) L /\ ∀y∈ins.take k,mayP y=true)) (fun iv _=>ni - (intOf iv).toNat)
   case atStart=>exact⟨0,[],[],[],_,_,_,_,Nat.zero_le _,rfl,SS.out,hid ⟨rfl,rfl,by simpa using qAQ.nil,by simp⟩⟩
   case round =>
    obtain⟨i,L,RB,RC,No,va,vb,vc,hi,rfl,hS,HF⟩:=hrel;rename World=>wx
    have S:=hid hS;clear hS SS;by_cases hlt:i<ni
    ·have hil:i<ins.length:=by have:=HNI.out;omega
     obtain⟨b,o,hadr,hbl,e0,e1,e2,e3,e4,e5,e6,e7,e8,e9,e10,e11,e12,e13,e14⟩:=(HIN.out wx S.out.old).at_ hil
     have HX:=hid (HD.out _ (List.mem_append_left _ (List.getElem_mem hil)));have XL:=hid (fun W (hb:Below w.heap.size w W)=>(HIN.out W hb).2 _ (List.getElem_mem hil));have XC:=hid (fun W (hb:Below w.heap.size w W)=>show ∀j u,(ins[i].cells)[j]?=some u->W.cell? ⟨b,o+i * 15+j,none⟩=some u from by
      obtain⟨b',o',e,_,hc⟩:=(HIN.out W hb).1.cells hil;rw[hadr]at e;cases e
      exact hc)
     have HLN:=hid (show L.length<=1000 by rw[HF.out.2.2.1.1,List.length_take];have:=HT2.out;omega);have BAD:=hid (fun (h:mayP ins[i]=false)=>show qB4 repos ins=4 from by rw[ER.out,List.all_eq_false.2 ⟨_,List.getElem_mem hil,by simp[h]⟩];rfl);have NXT:=hid (fun (h:mayP ins[i]=true)=>show ∀q,Alike ins[i] q->qAQ (ins.take (i+1)) (L++[q]) /\ ∀y∈ins.take (i+1),mayP y=true from fun q hq=>by
      rw[List.take_succ_eq_append_getElem hil];exact⟨HF.out.2.2.1.snoc hq,fun y hy=>by
       rcases List.mem_append.1 hy with hy|hy
       ·exact HF.out.2.2.2 y hy
       ·simp at hy;subst hy;exact h⟩)
     have IK:=hid (show (0:Int)<=(i:Int)/\(i:Int)<(ni:Int) by omega);subst hadr;generalize ins[i]=x at *;have j0:=IK.out.1;have j1:=IK.out.2;clear hil hbl;go_wp2_with fail
     go_at_call 83
     refine (MY.out x HX.out.1 wx (XL.out wx S.out.old)).mono ?_;rintro en V ⟨rfl,h⟩;have S:=hid (S.out.then h);clear h;cases hm:mayP x
     ·have EE:=hid (BAD.out hm);clear hm;go_wp2_with fail
      go_ret2
      exact qCR.no EE.out (by decide) S.out.old
     ·have N9:=hid (NXT.out hm);clear hm BAD NXT;obtain⟨A2,c2,hv⟩:=qAG S.out.own;subst hv;obtain⟨A3,c3,hv⟩:=qAG S.out.ob;subst hv;obtain⟨A4,c4,hv⟩:=qAG S.out.oc;subst hv;have HF9:=HF.out;rw[HF9.1,HF9.2.1]at S;clear HF9;obtain⟨n,hn⟩:∃n,n=L.length:=⟨_,rfl⟩;rw[<- hn]at S;have HNL:=hid hn.symm;have HNRB:=hid (HF.out.1.trans hn.symm);have HNRC:=hid (HF.out.2.1.trans hn.symm);have HNN:=hid (show n<=1000 by rw[hn];exact HLN.out);clear hn;have CPX:=hid (fun W (h:x.Laid W.heap.size W)=>CP.out x HX.out.2 W h);go_wp2_with fail
      clear j0 j1;refine qDQ (PP:=r12I Q base V.heap.size b o ni ic i n A2 A3 A4 c2 c3 c4 x L RB RC) (Rel:=fun j w1 w2=>RelQ Q (rowQ Q 13 19 25 28 31 34 (.slice A2 n c2) (.slice A3 n c3) (.slice A4 n c4) j) (offQ 28 31 34 j) w1 w2) (Pre:=PreQ Q 13 19 25 6 17 23 28 31 34 base L RB RC (.slice A2 n c2) (.slice A3 n c3) (.slice A4 n c4)) (G:=GG V Q (ni:Int) (Value.slice A2 n c2).ownBlock (Value.slice A3 n c3).ownBlock (Value.slice A4 n c4).ownBlock) 35 rfl (by kernel_rfl) (by kernel_rfl) (by decide) (by decide) (fun j w1 w2 _ hr h=>h.step hr (qN1 _ _ _ _) (qSC _ _ _ _ _ _ _ _)) (fun i_ j vs w1 w2 hne hw _ h hr=>qS2 Q base V.heap.size b o ni ic i n A2 A3 A4 c2 c3 c4 x L RB RC S.out rfl i_ j vs w1 w2 hne (fun k1 k2=>by subst k1 k2;exact Bool.false_ne_true (hw.symm.trans (by kernel_rfl))) (fun k1=>⟨fun k2=>by subst k1 k2;exact Bool.false_ne_true (hw.symm.trans (by kernel_rfl)),fun k2=>by subst k1 k2;exact Bool.false_ne_true (hw.symm.trans (by kernel_rfl))⟩) h hr) (fun i_ j vs v w' hne hw h=>qV1 Q base V.heap.size b o ni ic i n A2 A3 A4 c2 c3 c4 x L RB RC i_ j vs v w' hne (fun k1 k2=>by subst k1 k2;exact Bool.false_ne_true (hw.symm.trans (by kernel_rfl))) (fun k1=>⟨fun k2=>by subst k1 k2;exact Bool.false_ne_true (hw.symm.trans (by kernel_rfl)),fun k2=>by subst k1 k2;exact Bool.false_ne_true (hw.symm.trans (by kernel_rfl))⟩) (fun k1 k2=>by subst k1 k2;exact Bool.false_ne_true (hw.symm.trans (by kernel_rfl))) (fun k1 k2=>by subst k1 k2;exact Bool.false_ne_true (hw.symm.trans (by kernel_rfl))) (fun k1 k2=>by subst k1 k2;exact Bool.false_ne_true (hw.symm.trans (by kernel_rfl))) h) (fun i_ j w1 w2 hne hw _ h hr=>PreQ.step S.out hne (fun k1 k2=>by subst k1 k2;exact Bool.false_ne_true (hw.symm.trans (by kernel_rfl))) (fun k1 k2=>by subst k1 k2;exact Bool.false_ne_true (hw.symm.trans (by kernel_rfl))) (fun k1 k2=>by subst k1 k2;exact Bool.false_ne_true (hw.symm.trans (by kernel_rfl))) h hr) (GG.drew S.out _ _ _) (fun i_ _=>PreQ.of S.out _ _ _ _ _ _ _ _ _ i_) (fun i_=>match i_ with|0=>u51|1=>u52|2=>u53|3=>u54|4=>u55|5=>u56|6=>u57|7=>u58|8=>u59|9=>u60|10=>u61|11=>u62|12=>u63|13=>u64|14=>u65|15=>u66|16=>u67|17=>u68|18=>u69|19=>u70|20=>u71|21=>u72|22=>u73|23=>u74|24=>u75|25=>u76|26=>u77|27=>u78|29=>u79|30=>u80|32=>u81|33=>u82|_=>undef) (by simp[qA4,qAB,qAA,p2,p3,p4]) ?_ ?_
      ·intro i_ o_ vs W hi_ ho_ he hGW hPre K hK;simp only[p5,p6,p7,p8,qA4,qAB,qAA,p2,p3,p4]at hK |-;have HSZ:=hid hGW.size;have QW:=hid (show Q<W.heap.size from Nat.lt_of_lt_of_le (Nat.lt_of_lt_of_le S.out.hQ S.out.hb) hGW.size);have FZ:=hid hGW.fz;have BW:=hid (hGW.below S.out);have PR:=hid hPre;clear hPre hGW;obtain rfl|rfl|rfl|rfl|rfl|rfl|rfl|rfl|rfl|rfl|rfl|rfl|rfl|rfl|rfl|rfl|rfl|rfl|rfl|rfl|rfl|rfl|rfl|rfl|rfl|rfl|rfl|rfl|rfl|rfl|rfl|rfl|rfl|rfl|rfl:=(show i_=0 \/ i_=1 \/ i_=2 \/ i_=3 \/ i_=4 \/ i_=5 \/ i_=6 \/ i_=7 \/ i_=8 \/ i_=9 \/ i_=10 \/ i_=11 \/ i_=12 \/ i_=13 \/ i_=14 \/ i_=15 \/ i_=16 \/ i_=17 \/ i_=18 \/ i_=19 \/ i_=20 \/ i_=21 \/ i_=22 \/ i_=23 \/ i_=24 \/ i_=25 \/ i_=26 \/ i_=27 \/ i_=28 \/ i_=29 \/ i_=30 \/ i_=31 \/ i_=32 \/ i_=33 \/ i_=34 by exact (by have:i_<35:=hi_;omega))<;>simp only[gE]at ho_<;>subst ho_
       iterate 4 ·rw[if_pos (by rfl)];simp only[p1,p2,p3,p4]at hK;have HK:=hid hK;clear hK he hi_;go_simp;exact HK.out _ _ (by first|rfl|simp[r12I,upd]) (.of_below bR QW.out)
       ·have e3:vs 3=_:=dq he 3;rw[e3]at hK |-;rw[if_pos (by rfl)];simp only[p1,p2,p3,p4]at hK;have HK:=hid hK;clear hK he hi_;go_simp;exact HK.out _ _ (by first|rfl|simp[r12I,upd]) (.of_below bR QW.out)
       ·have e4:vs 4=_:=dq he 4;rw[e4]at hK |-;rw[if_pos (by rfl)];simp only[p1,p2,p3,p4]at hK;have HK:=hid hK;clear hK he hi_;go_simp;exact HK.out _ _ (by first|rfl|simp[r12I,upd]) (.of_below bR QW.out)
       ·have e5:vs 5=_:=dq he 5;rw[e5]at hK |-;rw[if_pos (by rfl)];simp only[p1,p2,p3,p4]at hK;have HK:=hid hK;clear hK he hi_;have cc:=PR.out.2.2.2.1 (.inl rfl);go_simp;exact HK.out _ _ rfl (.of_below bR QW.out)
       iterate 2 ·rw[if_pos (by rfl)];simp only[p1,p2,p3,p4]at hK;have HK:=hid hK;clear hK he hi_;go_simp;exact HK.out _ _ (by first|rfl|simp[r12I,upd]) (.of_below bR QW.out)
       ·have e7:vs 7=_:=dq he 7;rw[e7]at hK |-;have e8:vs 8=_:=dq he 8;rw[e8]at hK |-;rw[if_pos (by rfl)];simp only[p1,p2,p3,p4]at hK;have HK:=hid hK;clear hK he hi_;have i0:=IK.out.1;have i1:=IK.out.2;go_simp;exact HK.out _ _ (by first|rfl|simp[r12I,upd]) (.of_below bR QW.out)
       ·have e9:vs 9=_:=dq he 9;rw[e9]at hK |-;rw[if_pos (by rfl)];simp only[p1,p2,p3,p4]at hK;have HK:=hid hK;clear hK he hi_;have X:=XC.out W BW.out;have e0':W.cell? ⟨b,o+i * 15,none⟩=some (.string x.name):=X 0 _ rfl;have e1':W.cell? ⟨b,o+i * 15+1,none⟩=some (.int .i64 x.epoch):=X 1 _ rfl;have e2':W.cell? ⟨b,o+i * 15+2,none⟩=some (.string x.ver):=X 2 _ rfl;have e3':W.cell? ⟨b,o+i * 15+3,none⟩=some (.string x.rel):=X 3 _ rfl;have e4':W.cell? ⟨b,o+i * 15+4,none⟩=some (.int .u8 x.arch):=X 4 _ rfl;have e5':W.cell? ⟨b,o+i * 15+5,none⟩=some (.string x.vendor):=X 5 _ rfl;have e6':W.cell? ⟨b,o+i * 15+6,none⟩=some (.slice x.provA x.prov.length x.provC):=X 6 _ rfl;have e7':W.cell? ⟨b,o+i * 15+7,none⟩=some (.slice x.reqA x.req.length x.reqC):=X 7 _ rfl;have e8':W.cell? ⟨b,o+i * 15+8,none⟩=some (.slice x.conA x.con.length x.conC):=X 8 _ rfl;have e9':W.cell? ⟨b,o+i * 15+9,none⟩=some (.slice x.obsA x.obs.length x.obsC):=X 9 _ rfl;have e10':W.cell? ⟨b,o+i * 15+10,none⟩=some (.slice x.rcmA x.rcm.length x.rcmC):=X 10 _ rfl;have e11':W.cell? ⟨b,o+i * 15+11,none⟩=some (.slice x.supA x.sup.length x.supC):=X 11 _ rfl;have e12':W.cell? ⟨b,o+i * 15+12,none⟩=some (.slice x.sugA x.sug.length x.sugC):=X 12 _ rfl;have e13':W.cell? ⟨b,o+i * 15+13,none⟩=some (.slice x.enhA x.enh.length x.enhC):=X 13 _ rfl;have e14':W.cell? ⟨b,o+i * 15+14,none⟩=some (.slice x.filesA x.files.length x.filesC):=X 14 _ rfl;clear X;go_simp;exact HK.out _ _ rfl (.of_below bR QW.out)
       ·have e10:vs 10=_:=dq he 10;rw[e10]at hK |-;rw[if_pos (by rfl)];simp only[p1,p2,p3,p4]at hK;have HK:=hid hK;clear hK he hi_;have CPW:=CPX.out W (XL.out W BW.out);unfold Pk.val at CPW;go_simp;go_at_call 14
        refine CPW.mono ?_;rintro en w9 ⟨q,rfl,ha,hq,h⟩;go_simp;exact HK.out _ _ ⟨q,rfl,ha,hq.more (Nat.le_trans HSZ.out (by omega))⟩ (.of_below h QW.out)
       ·obtain⟨q9,e11,ha9,ho9⟩:=dq he 11;rw[e11]at hK |-;have A9:=hid ha9;have O9:=hid ho9;clear ha9 ho9;rw[if_pos (by rfl)];simp only[p1,p2,p3,p4]at hK;have HK:=hid hK;clear hK he hi_;unfold Pk.val;go_simp;have BA:=(Below.refl W.heap.size W).alloc lR (.cells q9.cells.toArray 28);exact HK.out _ _ ⟨q9,W.heap.size,rfl,A9.out,O9.out.keepB BA.size (fun b _ h2=>BA.block b h2),qN9 W _,HSZ.out,by simp⟩ (.of_below BA QW.out)
       ·have e6:vs 6=_:=dq he 6;rw[e6]at hK |-;obtain⟨q9,g9,e12,ha9,ho9,hr9,_,_⟩:=dq he 12;rw[e12]at hK |-;have A9:=hid ha9;have O9:=hid ho9;have R9:=hid hr9;clear ha9 ho9 hr9;rw[if_pos (by rfl)];simp only[p1,p2,p3,p4]at hK;have HK:=hid hK;clear hK he hi_;have OW:=PR.out.1 rfl;have OW9:=hid OW;unfold Own at OW;rw[HNL.out]at OW;refine qAM (P:=Tryz.prog) W _ _ 41 rfl base 28 _ _ 15 _ (by rfl) (by rfl) (by rfl) (by rfl) (by rfl) (by rfl) (by decide) (fun _=>rfl) qDV (.slice A2 n c2) n (L.flatMap Pk.cells) rfl OW W.heap.size (some ⟨g9,0,none⟩) 1 [q9] 1 rfl rfl R9.out (by have:=HNN.out;simp;omega) (by decide) (Nat.le_trans S.out.hb HSZ.out) ?_;intro v9 w9 ho9 hg9 hl9;rw[<- HNL.out]at ho9;exact HK.out _ _ ⟨q9,_,RqA.of S.out HSZ.out OW9.out (XL.out W BW.out) A9.out O9.out ho9 hg9 hl9⟩ (.of_grown hg9 QW.out (fun e=>by have:=(World.ownsRow.lt S.out.own Q e).1;have:=S.out.hQ;omega))
       ·rw[if_pos (by rfl)];simp only[p1,p2,p3,p4]at hK;have HK:=hid hK;clear hK he hi_;go_simp;exact HK.out _ _ (by first|rfl|simp[r12I,upd]) (.of_below bR QW.out)
       ·have e14:vs 14=_:=dq he 14;rw[e14]at hK |-;rw[if_pos (by rfl)];simp only[p1,p2,p3,p4]at hK;have HK:=hid hK;clear hK he hi_;go_simp;exact HK.out _ _ (by first|rfl|simp[r12I,upd]) (.of_below bR QW.out)
       ·have e15:vs 15=_:=dq he 15;rw[e15]at hK |-;rw[if_pos (by rfl)];simp only[p1,p2,p3,p4]at hK;have HK:=hid hK;clear hK he hi_;go_simp;exact HK.out _ _ (by first|rfl|simp[r12I,upd]) (.of_below bR QW.out)
       ·have e16:vs 16=_:=dq he 16;rw[e16]at hK |-;rw[if_pos (by rfl)];simp only[p1,p2,p3,p4]at hK;have HK:=hid hK;clear hK he hi_;have cc:=PR.out.2.2.2.2.1 (.inl rfl);go_simp;exact HK.out _ _ rfl (.of_below bR QW.out)
       ·rw[if_pos (by rfl)];simp only[p1,p2,p3,p4]at hK;have HK:=hid hK;clear hK he hi_;go_simp;exact HK.out _ _ ⟨W.heap.size,rfl,HSZ.out,by simp,(World.cell?_alloc_at _ _ _ _ rfl).trans rfl⟩ (.of_below (bR.alloc lR _) QW.out)
       ·have e17:vs 17=_:=dq he 17;rw[e17]at hK |-;obtain⟨g9,e18,_,hg9,hc9⟩:=dq he 18;rw[e18]at hK |-;have R9:=hid (qCP hg9 hc9);clear hg9 hc9;have QAH:=hid (he ⟨13,.chain⟩ (by simp) rfl:r12I Q base V.heap.size b o ni ic i n A2 A3 A4 c2 c3 c4 x L RB RC 13 vs W);rw[if_pos (by rfl)];simp only[p1,p2,p3,p4]at hK;have HK:=hid hK;clear hK he hi_;have OW:=PR.out.2.1 rfl;unfold Own at OW;rw[HNRB.out]at OW;refine qAM (P:=Tryz.prog) W _ _ 42 rfl base 3 _ _ 1 _ (by rfl) (by rfl) (by rfl) (by rfl) (by rfl) (by rfl) (by decide) qAZ qBW (.slice A3 n c3) n (RB.flatMap encI) rfl OW W.heap.size (some ⟨g9,0,none⟩) 1 [(-1)] 1 rfl rfl R9.out (by have:=HNN.out;simp;omega) (by decide) (Nat.le_trans S.out.hb HSZ.out) ?_;intro v9 w9 ho9 hg9 hl9;rw[<- HNRB.out]at ho9;exact HK.out _ _ (QB.of S.out HSZ.out QAH.out ho9 hg9 hl9) (.of_grown hg9 QW.out (fun e=>by have:=(World.ownsRow.lt S.out.ob Q e).1;have:=S.out.hQ;omega))
       ·rw[if_pos (by rfl)];simp only[p1,p2,p3,p4]at hK;have HK:=hid hK;clear hK he hi_;go_simp;exact HK.out _ _ (by first|rfl|simp[r12I,upd]) (.of_below bR QW.out)
       ·have e20:vs 20=_:=dq he 20;rw[e20]at hK |-;rw[if_pos (by rfl)];simp only[p1,p2,p3,p4]at hK;have HK:=hid hK;clear hK he hi_;go_simp;exact HK.out _ _ (by first|rfl|simp[r12I,upd]) (.of_below bR QW.out)
       ·have e21:vs 21=_:=dq he 21;rw[e21]at hK |-;rw[if_pos (by rfl)];simp only[p1,p2,p3,p4]at hK;have HK:=hid hK;clear hK he hi_;go_simp;exact HK.out _ _ (by first|rfl|simp[r12I,upd]) (.of_below bR QW.out)
       ·have e22:vs 22=_:=dq he 22;rw[e22]at hK |-;rw[if_pos (by rfl)];simp only[p1,p2,p3,p4]at hK;have HK:=hid hK;clear hK he hi_;have cc:=PR.out.2.2.2.2.2 (.inl rfl);go_simp;exact HK.out _ _ rfl (.of_below bR QW.out)
       ·rw[if_pos (by rfl)];simp only[p1,p2,p3,p4]at hK;have HK:=hid hK;clear hK he hi_;go_simp;exact HK.out _ _ ⟨W.heap.size,rfl,HSZ.out,by simp,(World.cell?_alloc_at _ _ _ _ rfl).trans rfl⟩ (.of_below (bR.alloc lR _) QW.out)
       ·have e23:vs 23=_:=dq he 23;rw[e23]at hK |-;obtain⟨g9,e24,_,hg9,hc9⟩:=dq he 24;rw[e24]at hK |-;have R9:=hid (qCP hg9 hc9);clear hg9 hc9;have QBH:=hid (he ⟨19,.chain⟩ (by simp) rfl:r12I Q base V.heap.size b o ni ic i n A2 A3 A4 c2 c3 c4 x L RB RC 19 vs W);rw[if_pos (by rfl)];simp only[p1,p2,p3,p4]at hK;have HK:=hid hK;clear hK he hi_;have OW:=PR.out.2.2.1 rfl;unfold Own at OW;rw[HNRC.out]at OW;refine qAM (P:=Tryz.prog) W _ _ 42 rfl base 3 _ _ 1 _ (by rfl) (by rfl) (by rfl) (by rfl) (by rfl) (by rfl) (by decide) qAZ qBW (.slice A4 n c4) n (RC.flatMap encI) rfl OW W.heap.size (some ⟨g9,0,none⟩) 1 [1025] 1 rfl rfl R9.out (by have:=HNN.out;simp;omega) (by decide) (Nat.le_trans S.out.hb HSZ.out) ?_;intro v9 w9 ho9 hg9 hl9;rw[<- HNRC.out]at ho9;exact HK.out _ _ (QC.of S.out HSZ.out QBH.out ho9 hg9 hl9) (.of_grown hg9 QW.out (fun e=>by have:=(World.ownsRow.lt S.out.oc Q e).1;have:=S.out.hQ;omega))
       ·have e0:vs 0=_:=dq he 0;rw[e0]at hK |-;rw[if_pos (by rfl)];simp only[p1,p2,p3,p4]at hK;have HK:=hid hK;clear hK he hi_;go_simp;exact HK.out _ _ (by first|rfl|simp[r12I,upd]) (.of_below bR QW.out)
       ·have e26:vs 26=_:=dq he 26;rw[e26]at hK |-;rw[if_pos (by rfl)];simp only[p1,p2,p3,p4]at hK;have HK:=hid hK;clear hK he hi_;go_simp;exact HK.out _ _ (by first|rfl|simp[r12I,upd]) (.of_below bR QW.out)
       ·have e27:vs 27=_:=dq he 27;rw[e27]at hK |-;obtain⟨q9,N9',hq9⟩:=dq he 13;obtain⟨D9,d9,e13⟩:=qAG hq9.1;rw[e13]at hK |-;generalize (L++[q9]).length=l9 at *;clear hq9;rw[if_pos (by rfl)];simp only[p1,p2,p3,p4]at hK;have HK:=hid hK;clear hK he hi_;have cc:=PR.out.2.2.2.1 (.inr rfl);have ff:=FZ.out 0 (by omega);have E9:=hid e13;clear e13;go_simp;exact HK.out undef _ (by show World.cell? _ _=some (upd vs 28 undef 13);rw[qA2 (by decide),E9.out];exact qAY cc) (.of_set _ _)
       ·have e1:vs 1=_:=dq he 1;rw[e1]at hK |-;rw[if_pos (by rfl)];simp only[p1,p2,p3,p4]at hK;have HK:=hid hK;clear hK he hi_;go_simp;exact HK.out _ _ (by first|rfl|simp[r12I,upd]) (.of_below bR QW.out)
       ·have e29:vs 29=_:=dq he 29;rw[e29]at hK |-;rw[if_pos (by rfl)];simp only[p1,p2,p3,p4]at hK;have HK:=hid hK;clear hK he hi_;go_simp;exact HK.out _ _ (by first|rfl|simp[r12I,upd]) (.of_below bR QW.out)
       ·have e30:vs 30=_:=dq he 30;rw[e30]at hK |-;obtain⟨q9,N9',hq9⟩:=dq he 19;obtain⟨D9,d9,e19⟩:=qAG hq9.2.1.1;rw[e19]at hK |-;generalize (RB++[(-1)]).length=l9 at *;clear hq9;rw[if_pos (by rfl)];simp only[p1,p2,p3,p4]at hK;have HK:=hid hK;clear hK he hi_;have cc:=PR.out.2.2.2.2.1 (.inr rfl);have ff:=FZ.out 2 (by omega);have E9:=hid e19;clear e19;go_simp;exact HK.out undef _ (by show World.cell? _ _=some (upd vs 31 undef 19);rw[qA2 (by decide),E9.out];exact qAY cc) (.of_set _ _)
       ·have e2:vs 2=_:=dq he 2;rw[e2]at hK |-;rw[if_pos (by rfl)];simp only[p1,p2,p3,p4]at hK;have HK:=hid hK;clear hK he hi_;go_simp;exact HK.out _ _ (by first|rfl|simp[r12I,upd]) (.of_below bR QW.out)
       ·have e32:vs 32=_:=dq he 32;rw[e32]at hK |-;rw[if_pos (by rfl)];simp only[p1,p2,p3,p4]at hK;have HK:=hid hK;clear hK he hi_;go_simp;exact HK.out _ _ (by first|rfl|simp[r12I,upd]) (.of_below bR QW.out)
       ·have e33:vs 33=_:=dq he 33;rw[e33]at hK |-;obtain⟨q9,N9',hq9⟩:=dq he 25;obtain⟨D9,d9,e25⟩:=qAG hq9.2.2.1.1;rw[e25]at hK |-;generalize (RC++[1025]).length=l9 at *;clear hq9;rw[if_pos (by rfl)];simp only[p1,p2,p3,p4]at hK;have HK:=hid hK;clear hK he hi_;have cc:=PR.out.2.2.2.2.2 (.inr rfl);have ff:=FZ.out 3 (by omega);have E9:=hid e25;clear e25;go_simp;exact HK.out undef _ (by show World.cell? _ _=some (upd vs 34 undef 25);rw[qA2 (by decide),E9.out];exact qAY cc) (.of_set _ _)
      ·intro vs W hall hGW;have k0:=(hall 28 (by decide):r12I Q base V.heap.size b o ni ic i n A2 A3 A4 c2 c3 c4 x L RB RC 28 vs W);have k2:=(hall 31 (by decide):r12I Q base V.heap.size b o ni ic i n A2 A3 A4 c2 c3 c4 x L RB RC 31 vs W);have k3:=(hall 34 (by decide):r12I Q base V.heap.size b o ni ic i n A2 A3 A4 c2 c3 c4 x L RB RC 34 vs W);obtain⟨q,No',hA,hB,hC,hu,ht⟩:QC base V.heap.size x L RB RC (-1) 1025 (.slice A2 n c2) (.slice A3 n c3) (.slice A4 n c4) (vs 13) (vs 19) (vs 25) W:=hall 25 (by decide);simp only[p5,p6,p7,p8,qA4,qAB,qAA,p2,p3,p4];have SM:=hid (S.out.more hGW hA hB hC hu ht k0 k2 k3);have AX:=hid (hA.2.1);generalize vs 0=y0 at *;generalize vs 1=y1 at *;generalize vs 2=y2 at *;generalize vs 3=y3 at *;generalize vs 4=y4 at *;generalize vs 5=y5 at *;generalize vs 6=y6 at *;generalize vs 7=y7 at *;generalize vs 8=y8 at *;generalize vs 9=y9 at *;generalize vs 10=y10 at *;generalize vs 11=y11 at *;generalize vs 12=y12 at *;generalize vs 13=y13 at *;generalize vs 14=y14 at *;generalize vs 15=y15 at *;generalize vs 16=y16 at *;generalize vs 17=y17 at *;generalize vs 18=y18 at *;generalize vs 19=y19 at *;generalize vs 20=y20 at *;generalize vs 21=y21 at *;generalize vs 22=y22 at *;generalize vs 23=y23 at *;generalize vs 24=y24 at *;generalize vs 25=y25 at *;generalize vs 26=y26 at *;generalize vs 27=y27 at *;generalize vs 29=y29 at *;generalize vs 30=y30 at *;generalize vs 32=y32 at *;generalize vs 33=y33 at *;clear hall hGW hA hB hC hu ht k0 k2 k3;go_wp2_with fail
       go_roundw
       case rel=>exact⟨i+1,L++[q],RB++[(-1)],RC++[1025],_,_,_,_,by omega,by go_num,SM.out,hid ⟨by simp[HF.out.1],by simp[HF.out.2.1],(N9.out q AX.out).1,(N9.out q AX.out).2⟩⟩
       case measure=>simp[intOf];omega
    ·obtain rfl:ni=i:=by omega
     have j1:¬(ni:Int)<(ni:Int):=by omega
     have HIA:=hid (show ins.all mayP=true from List.all_eq_true.2 fun y hy=>HF.out.2.2.2 y (by rw[List.take_of_length_le (by have:=HNI.out;omega)];exact hy));have HF:=hid (show RB.length=L.length/\RC.length=L.length/\qAQ ins L from⟨HF.out.1,HF.out.2.1,by have:=HF.out.2.2.1;rwa [List.take_of_length_le (by have:=HNI.out;omega)]at this⟩);have ER:=hid (show qB4 repos ins=if repos.all rpOk then 0 else 4 by rw[ER.out,HIA.out];simp);clear HIA;go_wp2_with fail
     go_loopw[10] (fun iv wx => ∃(k:Nat) (L:List Pk) (RB RC:List Int) (No:Nat->Prop) (va vb vc:Value),k<=nr/\iv=.int .i64 (k:Int)/\RqSt w Q base (ni:Int) L RB RC No va vb vc wx/\Hid (RB.length=L.length/\RC.length=L.length/\qAQ (allP (repos.take k) ins) L /\ ∀r∈repos.take k,rpOk r=true)) (fun iv _=>nr - (intOf iv).toNat)
     case atStart=>exact⟨0,L,RB,RC,No,va,vb,vc,Nat.zero_le _,rfl,S.out,hid ⟨HF.out.1,HF.out.2.1,by simpa [allP] using HF.out.2.2,by simp⟩⟩
     case round =>
      clear HF S;obtain⟨i,L,RB,RC,No,va,vb,vc,hi,rfl,hS,HF⟩:=hrel;rename World=>wx
      have S:=hid hS;clear hS;by_cases hlt:i<nr
      ·have hkl:i<repos.length:=by have:=HNR.out;omega
       obtain⟨b2,o2,hadr,hbl,d0,d1⟩:=(HR.out wx S.out.old).at_ hkl
       have PR:=hid (fun W (hb:Below w.heap.size w W)=>(HR.out W hb).pks _ (List.getElem_mem hkl));have DR:=hid (show ∀x∈(repos[i]).pk,x.deepOk/\x.few from fun x hx=>HD.out x (qN0 (List.getElem_mem hkl) hx));have HLN0:=hid (show L.length+(repos[i]).pk.length<=256 by have h1:=qDJ repos (i+1);have h2:=qBT repos i hkl;have h3:=HF.out.2.2.1.1;rw[qHW]at h3;have:=HT2.out;omega);have BAD0:=hid (show rpOk (repos[i])=false->qB4 repos ins=4 from fun h=>by rw[ER.out,if_neg];intro h2;rw[List.all_eq_true.1 h2 _ (List.getElem_mem hkl)]at h;cases h);have NXT0:=hid (fun (h:rpOk (repos[i])=true)=>show ∀r∈repos.take (i+1),rpOk r=true from fun r hr=>by
        rw[List.take_succ_eq_append_getElem hkl]at hr;rcases List.mem_append.1 hr with hr|hr
        ·exact HF.out.2.2.2 r hr
        ·simp at hr;subst hr;exact h)
       have ALL:=hid (fun (L2:List Pk) (h:qAQ (allP (repos.take i) ins++(repos[i]).pk) L2)=>show qAQ (allP (repos.take (i+1)) ins) L2 by rw[qIV hkl];exact h);have RC2:=hid (fun W (hb:Below w.heap.size w W)=>show W.cell? ⟨b2,o2+i * 2,none⟩=some (.int .i64 (repos[i]).prio)/\W.cell? ⟨b2,o2+i * 2+1,none⟩=some (.slice (repos[i]).A (repos[i]).pk.length (repos[i]).c) from by
        obtain⟨b',o',e,_,h1,h2⟩:=(HR.out W hb).at_ hkl
        rw[hadr]at e;cases e
        exact⟨h1,h2⟩)
       generalize repos[i]=r at *;obtain⟨np,hnp⟩:∃np,np=r.pk.length:=⟨_,rfl⟩;rw[<- hnp]at d1 HLN0 RC2;have HNP:=hid hnp;have hnpb:np<=1000000:=by have:=HLN0.out;omega
       subst hadr;have IR:=hid (show (0:Int)<=(i:Int)/\(i:Int)<(nr:Int) by omega);clear hnp hkl hbl;have j0:=IR.out.1;have j2:=IR.out.2;by_cases q2:r.prio<0
       ·have EE:=hid (BAD0.out (by simp[rpOk];intro h;omega));go_wp2_with fail
        go_ret2
        exact qCR.no EE.out (by decide) S.out.old
       by_cases q3:1024<r.prio
       ·have EE:=hid (BAD0.out (by simp[rpOk];intro h;omega));go_wp2_with fail
        go_ret2
        exact qCR.no EE.out (by decide) S.out.old
       have RP:=hid (show rpOk r=r.pk.all mayP by simp[rpOk];intro _;omega);go_wp2_with fail
       clear q2 q3 d0 d1 j0 j2
       go_loopw[11] (fun iv wx => ∃(k:Nat) (L:List Pk) (RB RC:List Int) (No:Nat->Prop) (va vb vc:Value),k<=np/\iv=.int .i64 (k:Int)/\RqSt w Q base (ni:Int) L RB RC No va vb vc wx/\Hid (RB.length=L.length/\RC.length=L.length/\qAQ (allP (repos.take i) ins++r.pk.take k) L /\ ∀y∈r.pk.take k,mayP y=true)) (fun iv _=>np - (intOf iv).toNat)
       case atStart=>exact⟨0,L,RB,RC,No,va,vb,vc,Nat.zero_le _,rfl,S.out,hid ⟨HF.out.1,HF.out.2.1,by simpa using HF.out.2.2.1,by simp⟩⟩
       case round =>
        have HL0:=hid HF.out.2.2.1.1;clear HF S;obtain⟨k,L,RB,RC,No,va,vb,vc,hk2,rfl,hS,HF⟩:=hrel;rename World=>wx
        have S:=hid hS;clear hS;have dd:=RC2.out wx S.out.old;have d0:=dd.1;have d1:=dd.2;clear dd;have j0:=IR.out.1;have j2:=IR.out.2;by_cases hlt2:k<np
        ·have hil:k<r.pk.length:=by have:=HNP.out;omega
         obtain⟨b,o,hadr,hbl,e0,e1,e2,e3,e4,e5,e6,e7,e8,e9,e10,e11,e12,e13,e14⟩:=((PR.out wx S.out.old)).at_ hil
         have HX:=hid (DR.out _ (List.getElem_mem hil));have XL:=hid (fun W (hb:Below w.heap.size w W)=>(PR.out W hb).2 _ (List.getElem_mem hil));have XC:=hid (fun W (hb:Below w.heap.size w W)=>show ∀j u,(r.pk[k].cells)[j]?=some u->W.cell? ⟨b,o+k * 15+j,none⟩=some u from by
          obtain⟨b',o',e,_,hc⟩:=(PR.out W hb).1.cells hil;rw[hadr]at e;cases e
          exact hc)
         have HLN:=hid (show L.length<=1000 by rw[HF.out.2.2.1.1,List.length_append,<- HL0.out,List.length_take];have:=HLN0.out;have:=HNP.out;omega);have BAD:=hid (fun (h:mayP r.pk[k]=false)=>show qB4 repos ins=4 from BAD0.out (by rw[RP.out];exact List.all_eq_false.2 ⟨_,List.getElem_mem hil,by simp[h]⟩));have NXT:=hid (fun (h:mayP r.pk[k]=true)=>show ∀q,Alike r.pk[k] q->qAQ (allP (repos.take i) ins++r.pk.take (k+1)) (L++[q]) /\ ∀y∈r.pk.take (k+1),mayP y=true from fun q hq=>by
          rw[List.take_succ_eq_append_getElem hil,<- List.append_assoc];exact⟨HF.out.2.2.1.snoc hq,fun y hy=>by
           rcases List.mem_append.1 hy with hy|hy
           ·exact HF.out.2.2.2 y hy
           ·simp at hy;subst hy;exact h⟩)
         have IK:=hid (show (0:Int)<=(k:Int)/\(k:Int)<(np:Int) by omega);obtain⟨pc,hpc⟩:∃pc,pc=r.c:=⟨_,rfl⟩;have RC2:=hid (fun W (hb:Below w.heap.size w W)=>show W.cell? ⟨b2,o2+i * 2,none⟩=some (.int .i64 r.prio)/\W.cell? ⟨b2,o2+i * 2+1,none⟩=some (.slice (some ⟨b,o,none⟩) np pc) from by rw[hpc,<- hadr];exact RC2.out W hb);rw[hadr,<- hpc]at d1;obtain⟨prio,hpr⟩:∃z,z=r.prio:=⟨_,rfl⟩;rw[<- hpr]at RC2 d0;clear hpc hpr;generalize r.pk[k]=x at *;have j3:=IK.out.1;have j4:=IK.out.2;clear hil hbl hadr;go_wp2_with fail
         go_at_call 83
         refine (MY.out x HX.out.1 wx (XL.out wx S.out.old)).mono ?_;rintro en V ⟨rfl,h⟩;have S:=hid (S.out.then h);clear h;cases hm:mayP x
         ·have EE:=hid (BAD.out hm);clear hm;go_wp2_with fail
          go_ret2
          exact qCR.no EE.out (by decide) S.out.old
         ·have N9:=hid (NXT.out hm);clear hm BAD NXT;obtain⟨A2,c2,hv⟩:=qAG S.out.own;subst hv;obtain⟨A3,c3,hv⟩:=qAG S.out.ob;subst hv;obtain⟨A4,c4,hv⟩:=qAG S.out.oc;subst hv;have HF9:=HF.out;rw[HF9.1,HF9.2.1]at S;clear HF9;obtain⟨n,hn⟩:∃n,n=L.length:=⟨_,rfl⟩;rw[<- hn]at S;have HNL:=hid hn.symm;have HNRB:=hid (HF.out.1.trans hn.symm);have HNRC:=hid (HF.out.2.1.trans hn.symm);have HNN:=hid (show n<=1000 by rw[hn];exact HLN.out);clear hn;have CPX:=hid (fun W (h:x.Laid W.heap.size W)=>CP.out x HX.out.2 W h);go_wp2_with fail
          clear j0 j2 j3 j4 d0 d1;refine qDQ (PP:=r12R Q base V.heap.size b2 o2 nr rc i b o np pc k n A2 A3 A4 c2 c3 c4 prio x L RB RC) (Rel:=fun j w1 w2=>RelQ Q (rowQ Q 17 24 35 38 41 44 (.slice A2 n c2) (.slice A3 n c3) (.slice A4 n c4) j) (offQ 38 41 44 j) w1 w2) (Pre:=PreQ Q 17 24 35 6 21 28 38 41 44 base L RB RC (.slice A2 n c2) (.slice A3 n c3) (.slice A4 n c4)) (G:=GG V Q (ni:Int) (Value.slice A2 n c2).ownBlock (Value.slice A3 n c3).ownBlock (Value.slice A4 n c4).ownBlock) 45 rfl (by kernel_rfl) (by kernel_rfl) (by decide) (by decide) (fun j w1 w2 _ hr h=>h.step hr (qN1 _ _ _ _) (qSC _ _ _ _ _ _ _ _)) (fun i_ j vs w1 w2 hne hw _ h hr=>qS3 Q base V.heap.size b2 o2 nr rc i b o np pc k n A2 A3 A4 c2 c3 c4 prio x L RB RC S.out rfl i_ j vs w1 w2 hne (fun k1 k2=>by subst k1 k2;exact Bool.false_ne_true (hw.symm.trans (by kernel_rfl))) (fun k1=>⟨fun k2=>by subst k1 k2;exact Bool.false_ne_true (hw.symm.trans (by kernel_rfl)),fun k2=>by subst k1 k2;exact Bool.false_ne_true (hw.symm.trans (by kernel_rfl))⟩) h hr) (fun i_ j vs v w' hne hw h=>qV2 Q base V.heap.size b2 o2 nr rc i b o np pc k n A2 A3 A4 c2 c3 c4 prio x L RB RC i_ j vs v w' hne (fun k1 k2=>by subst k1 k2;exact Bool.false_ne_true (hw.symm.trans (by kernel_rfl))) (fun k1=>⟨fun k2=>by subst k1 k2;exact Bool.false_ne_true (hw.symm.trans (by kernel_rfl)),fun k2=>by subst k1 k2;exact Bool.false_ne_true (hw.symm.trans (by kernel_rfl))⟩) (fun k1 k2=>by subst k1 k2;exact Bool.false_ne_true (hw.symm.trans (by kernel_rfl))) (fun k1 k2=>by subst k1 k2;exact Bool.false_ne_true (hw.symm.trans (by kernel_rfl))) (fun k1 k2=>by subst k1 k2;exact Bool.false_ne_true (hw.symm.trans (by kernel_rfl))) h) (fun i_ j w1 w2 hne hw _ h hr=>PreQ.step S.out hne (fun k1 k2=>by subst k1 k2;exact Bool.false_ne_true (hw.symm.trans (by kernel_rfl))) (fun k1 k2=>by subst k1 k2;exact Bool.false_ne_true (hw.symm.trans (by kernel_rfl))) (fun k1 k2=>by subst k1 k2;exact Bool.false_ne_true (hw.symm.trans (by kernel_rfl))) h hr) (GG.drew S.out _ _ _) (fun i_ _=>PreQ.of S.out _ _ _ _ _ _ _ _ _ i_) (fun i_=>match i_ with|0=>u123|1=>u124|2=>u125|3=>u126|4=>u127|5=>u128|6=>u129|7=>u130|8=>u131|9=>u132|10=>u133|11=>u134|12=>u135|13=>u136|14=>u137|15=>u138|16=>u139|17=>u140|18=>u141|19=>u142|20=>u143|21=>u144|22=>u145|23=>u146|24=>u147|25=>u148|26=>u149|27=>u150|28=>u151|29=>u152|30=>u153|31=>u154|32=>u155|33=>u156|34=>u157|35=>u158|36=>u159|37=>u160|39=>u161|40=>u162|42=>u163|43=>u164|_=>undef) (by simp[qA4,qAB,qAA,p2,p3,p4]) ?_ ?_
          ·intro i_ o_ vs W hi_ ho_ he hGW hPre K hK;simp only[p5,p6,p7,p8,qA4,qAB,qAA,p2,p3,p4]at hK |-;have HSZ:=hid hGW.size;have QW:=hid (show Q<W.heap.size from Nat.lt_of_lt_of_le (Nat.lt_of_lt_of_le S.out.hQ S.out.hb) hGW.size);have FZ:=hid hGW.fz;have BW:=hid (hGW.below S.out);have PR:=hid hPre;clear hPre hGW;obtain rfl|rfl|rfl|rfl|rfl|rfl|rfl|rfl|rfl|rfl|rfl|rfl|rfl|rfl|rfl|rfl|rfl|rfl|rfl|rfl|rfl|rfl|rfl|rfl|rfl|rfl|rfl|rfl|rfl|rfl|rfl|rfl|rfl|rfl|rfl|rfl|rfl|rfl|rfl|rfl|rfl|rfl|rfl|rfl|rfl:=(show i_=0 \/ i_=1 \/ i_=2 \/ i_=3 \/ i_=4 \/ i_=5 \/ i_=6 \/ i_=7 \/ i_=8 \/ i_=9 \/ i_=10 \/ i_=11 \/ i_=12 \/ i_=13 \/ i_=14 \/ i_=15 \/ i_=16 \/ i_=17 \/ i_=18 \/ i_=19 \/ i_=20 \/ i_=21 \/ i_=22 \/ i_=23 \/ i_=24 \/ i_=25 \/ i_=26 \/ i_=27 \/ i_=28 \/ i_=29 \/ i_=30 \/ i_=31 \/ i_=32 \/ i_=33 \/ i_=34 \/ i_=35 \/ i_=36 \/ i_=37 \/ i_=38 \/ i_=39 \/ i_=40 \/ i_=41 \/ i_=42 \/ i_=43 \/ i_=44 by exact (by have:i_<45:=hi_;omega))<;>simp only[gE]at ho_<;>subst ho_
           iterate 4 ·rw[if_pos (by rfl)];simp only[p1,p2,p3,p4]at hK;have HK:=hid hK;clear hK he hi_;go_simp;exact HK.out _ _ (by first|rfl|simp[r12R,upd]) (.of_below bR QW.out)
           ·have e3:vs 3=_:=dq he 3;rw[e3]at hK |-;rw[if_pos (by rfl)];simp only[p1,p2,p3,p4]at hK;have HK:=hid hK;clear hK he hi_;go_simp;exact HK.out _ _ (by first|rfl|simp[r12R,upd]) (.of_below bR QW.out)
           ·have e4:vs 4=_:=dq he 4;rw[e4]at hK |-;rw[if_pos (by rfl)];simp only[p1,p2,p3,p4]at hK;have HK:=hid hK;clear hK he hi_;go_simp;exact HK.out _ _ (by first|rfl|simp[r12R,upd]) (.of_below bR QW.out)
           ·have e5:vs 5=_:=dq he 5;rw[e5]at hK |-;rw[if_pos (by rfl)];simp only[p1,p2,p3,p4]at hK;have HK:=hid hK;clear hK he hi_;have cc:=PR.out.2.2.2.1 (.inl rfl);go_simp;exact HK.out _ _ rfl (.of_below bR QW.out)
           iterate 2 ·rw[if_pos (by rfl)];simp only[p1,p2,p3,p4]at hK;have HK:=hid hK;clear hK he hi_;go_simp;exact HK.out _ _ (by first|rfl|simp[r12R,upd]) (.of_below bR QW.out)
           ·have e7:vs 7=_:=dq he 7;rw[e7]at hK |-;have e8:vs 8=_:=dq he 8;rw[e8]at hK |-;rw[if_pos (by rfl)];simp only[p1,p2,p3,p4]at hK;have HK:=hid hK;clear hK he hi_;have i0:=IR.out.1;have i1:=IR.out.2;go_simp;exact HK.out _ _ (by first|rfl|simp[r12R,upd]) (.of_below bR QW.out)
           ·have e9:vs 9=_:=dq he 9;rw[e9]at hK |-;rw[if_pos (by rfl)];simp only[p1,p2,p3,p4]at hK;have HK:=hid hK;clear hK he hi_;have i0:=IR.out.1;have i1:=IR.out.2;go_simp;exact HK.out _ _ (by first|rfl|simp[r12R,upd]) (.of_below bR QW.out)
           ·have e10:vs 10=_:=dq he 10;rw[e10]at hK |-;rw[if_pos (by rfl)];simp only[p1,p2,p3,p4]at hK;have HK:=hid hK;clear hK he hi_;have cc:=(RC2.out W BW.out).2;go_simp;exact HK.out _ _ rfl (.of_below bR QW.out)
           ·rw[if_pos (by rfl)];simp only[p1,p2,p3,p4]at hK;have HK:=hid hK;clear hK he hi_;go_simp;exact HK.out _ _ (by first|rfl|simp[r12R,upd]) (.of_below bR QW.out)
           ·have e11:vs 11=_:=dq he 11;rw[e11]at hK |-;have e12:vs 12=_:=dq he 12;rw[e12]at hK |-;rw[if_pos (by rfl)];simp only[p1,p2,p3,p4]at hK;have HK:=hid hK;clear hK he hi_;have i0:=IK.out.1;have i1:=IK.out.2;go_simp;exact HK.out _ _ (by first|rfl|simp[r12R,upd]) (.of_below bR QW.out)
           ·have e13:vs 13=_:=dq he 13;rw[e13]at hK |-;rw[if_pos (by rfl)];simp only[p1,p2,p3,p4]at hK;have HK:=hid hK;clear hK he hi_;have X:=XC.out W BW.out;have e0':W.cell? ⟨b,o+k * 15,none⟩=some (.string x.name):=X 0 _ rfl;have e1':W.cell? ⟨b,o+k * 15+1,none⟩=some (.int .i64 x.epoch):=X 1 _ rfl;have e2':W.cell? ⟨b,o+k * 15+2,none⟩=some (.string x.ver):=X 2 _ rfl;have e3':W.cell? ⟨b,o+k * 15+3,none⟩=some (.string x.rel):=X 3 _ rfl;have e4':W.cell? ⟨b,o+k * 15+4,none⟩=some (.int .u8 x.arch):=X 4 _ rfl;have e5':W.cell? ⟨b,o+k * 15+5,none⟩=some (.string x.vendor):=X 5 _ rfl;have e6':W.cell? ⟨b,o+k * 15+6,none⟩=some (.slice x.provA x.prov.length x.provC):=X 6 _ rfl;have e7':W.cell? ⟨b,o+k * 15+7,none⟩=some (.slice x.reqA x.req.length x.reqC):=X 7 _ rfl;have e8':W.cell? ⟨b,o+k * 15+8,none⟩=some (.slice x.conA x.con.length x.conC):=X 8 _ rfl;have e9':W.cell? ⟨b,o+k * 15+9,none⟩=some (.slice x.obsA x.obs.length x.obsC):=X 9 _ rfl;have e10':W.cell? ⟨b,o+k * 15+10,none⟩=some (.slice x.rcmA x.rcm.length x.rcmC):=X 10 _ rfl;have e11':W.cell? ⟨b,o+k * 15+11,none⟩=some (.slice x.supA x.sup.length x.supC):=X 11 _ rfl;have e12':W.cell? ⟨b,o+k * 15+12,none⟩=some (.slice x.sugA x.sug.length x.sugC):=X 12 _ rfl;have e13':W.cell? ⟨b,o+k * 15+13,none⟩=some (.slice x.enhA x.enh.length x.enhC):=X 13 _ rfl;have e14':W.cell? ⟨b,o+k * 15+14,none⟩=some (.slice x.filesA x.files.length x.filesC):=X 14 _ rfl;clear X;go_simp;exact HK.out _ _ rfl (.of_below bR QW.out)
           ·have e14:vs 14=_:=dq he 14;rw[e14]at hK |-;rw[if_pos (by rfl)];simp only[p1,p2,p3,p4]at hK;have HK:=hid hK;clear hK he hi_;have CPW:=CPX.out W (XL.out W BW.out);unfold Pk.val at CPW;go_simp;go_at_call 14
            refine CPW.mono ?_;rintro en w9 ⟨q,rfl,ha,hq,h⟩;go_simp;exact HK.out _ _ ⟨q,rfl,ha,hq.more (Nat.le_trans HSZ.out (by omega))⟩ (.of_below h QW.out)
           ·obtain⟨q9,e15,ha9,ho9⟩:=dq he 15;rw[e15]at hK |-;have A9:=hid ha9;have O9:=hid ho9;clear ha9 ho9;rw[if_pos (by rfl)];simp only[p1,p2,p3,p4]at hK;have HK:=hid hK;clear hK he hi_;unfold Pk.val;go_simp;have BA:=(Below.refl W.heap.size W).alloc lR (.cells q9.cells.toArray 28);exact HK.out _ _ ⟨q9,W.heap.size,rfl,A9.out,O9.out.keepB BA.size (fun b _ h2=>BA.block b h2),qN9 W _,HSZ.out,by simp⟩ (.of_below BA QW.out)
           ·have e6:vs 6=_:=dq he 6;rw[e6]at hK |-;obtain⟨q9,g9,e16,ha9,ho9,hr9,_,_⟩:=dq he 16;rw[e16]at hK |-;have A9:=hid ha9;have O9:=hid ho9;have R9:=hid hr9;clear ha9 ho9 hr9;rw[if_pos (by rfl)];simp only[p1,p2,p3,p4]at hK;have HK:=hid hK;clear hK he hi_;have OW:=PR.out.1 rfl;have OW9:=hid OW;unfold Own at OW;rw[HNL.out]at OW;refine qAM (P:=Tryz.prog) W _ _ 41 rfl base 28 _ _ 15 _ (by rfl) (by rfl) (by rfl) (by rfl) (by rfl) (by rfl) (by decide) (fun _=>rfl) qDV (.slice A2 n c2) n (L.flatMap Pk.cells) rfl OW W.heap.size (some ⟨g9,0,none⟩) 1 [q9] 1 rfl rfl R9.out (by have:=HNN.out;simp;omega) (by decide) (Nat.le_trans S.out.hb HSZ.out) ?_;intro v9 w9 ho9 hg9 hl9;rw[<- HNL.out]at ho9;exact HK.out _ _ ⟨q9,_,RqA.of S.out HSZ.out OW9.out (XL.out W BW.out) A9.out O9.out ho9 hg9 hl9⟩ (.of_grown hg9 QW.out (fun e=>by have:=(World.ownsRow.lt S.out.own Q e).1;have:=S.out.hQ;omega))
           ·rw[if_pos (by rfl)];simp only[p1,p2,p3,p4]at hK;have HK:=hid hK;clear hK he hi_;go_simp;exact HK.out _ _ (by first|rfl|simp[r12R,upd]) (.of_below bR QW.out)
           ·have e18:vs 18=_:=dq he 18;rw[e18]at hK |-;rw[if_pos (by rfl)];simp only[p1,p2,p3,p4]at hK;have HK:=hid hK;clear hK he hi_;go_simp;exact HK.out _ _ (by first|rfl|simp[r12R,upd]) (.of_below bR QW.out)
           ·have e19:vs 19=_:=dq he 19;rw[e19]at hK |-;rw[if_pos (by rfl)];simp only[p1,p2,p3,p4]at hK;have HK:=hid hK;clear hK he hi_;go_simp;exact HK.out _ _ (by first|rfl|simp[r12R,upd]) (.of_below bR QW.out)
           ·have e20:vs 20=_:=dq he 20;rw[e20]at hK |-;rw[if_pos (by rfl)];simp only[p1,p2,p3,p4]at hK;have HK:=hid hK;clear hK he hi_;have cc:=PR.out.2.2.2.2.1 (.inl rfl);go_simp;exact HK.out _ _ rfl (.of_below bR QW.out)
           ·rw[if_pos (by rfl)];simp only[p1,p2,p3,p4]at hK;have HK:=hid hK;clear hK he hi_;go_simp;exact HK.out _ _ (by first|rfl|simp[r12R,upd]) (.of_below bR QW.out)
           ·have e22:vs 22=_:=dq he 22;rw[e22]at hK |-;rw[if_pos (by rfl)];simp only[p1,p2,p3,p4]at hK;have HK:=hid hK;clear hK he hi_;go_simp;exact HK.out _ _ ⟨W.heap.size,rfl,HSZ.out,by simp,(World.cell?_alloc_at _ _ _ _ rfl).trans rfl⟩ (.of_below (bR.alloc lR _) QW.out)
           ·have e21:vs 21=_:=dq he 21;rw[e21]at hK |-;obtain⟨g9,e23,_,hg9,hc9⟩:=dq he 23;rw[e23]at hK |-;have R9:=hid (qCP hg9 hc9);clear hg9 hc9;have QAH:=hid (he ⟨17,.chain⟩ (by simp) rfl:r12R Q base V.heap.size b2 o2 nr rc i b o np pc k n A2 A3 A4 c2 c3 c4 prio x L RB RC 17 vs W);rw[if_pos (by rfl)];simp only[p1,p2,p3,p4]at hK;have HK:=hid hK;clear hK he hi_;have OW:=PR.out.2.1 rfl;unfold Own at OW;rw[HNRB.out]at OW;refine qAM (P:=Tryz.prog) W _ _ 42 rfl base 3 _ _ 1 _ (by rfl) (by rfl) (by rfl) (by rfl) (by rfl) (by rfl) (by decide) qAZ qBW (.slice A3 n c3) n (RB.flatMap encI) rfl OW W.heap.size (some ⟨g9,0,none⟩) 1 [(i:Int)] 1 rfl rfl R9.out (by have:=HNN.out;simp;omega) (by decide) (Nat.le_trans S.out.hb HSZ.out) ?_;intro v9 w9 ho9 hg9 hl9;rw[<- HNRB.out]at ho9;exact HK.out _ _ (QB.of S.out HSZ.out QAH.out ho9 hg9 hl9) (.of_grown hg9 QW.out (fun e=>by have:=(World.ownsRow.lt S.out.ob Q e).1;have:=S.out.hQ;omega))
           ·rw[if_pos (by rfl)];simp only[p1,p2,p3,p4]at hK;have HK:=hid hK;clear hK he hi_;go_simp;exact HK.out _ _ (by first|rfl|simp[r12R,upd]) (.of_below bR QW.out)
           ·have e25:vs 25=_:=dq he 25;rw[e25]at hK |-;rw[if_pos (by rfl)];simp only[p1,p2,p3,p4]at hK;have HK:=hid hK;clear hK he hi_;go_simp;exact HK.out _ _ (by first|rfl|simp[r12R,upd]) (.of_below bR QW.out)
           ·have e26:vs 26=_:=dq he 26;rw[e26]at hK |-;rw[if_pos (by rfl)];simp only[p1,p2,p3,p4]at hK;have HK:=hid hK;clear hK he hi_;go_simp;exact HK.out _ _ (by first|rfl|simp[r12R,upd]) (.of_below bR QW.out)
           ·have e27:vs 27=_:=dq he 27;rw[e27]at hK |-;rw[if_pos (by rfl)];simp only[p1,p2,p3,p4]at hK;have HK:=hid hK;clear hK he hi_;have cc:=PR.out.2.2.2.2.2 (.inl rfl);go_simp;exact HK.out _ _ rfl (.of_below bR QW.out)
           iterate 2 ·rw[if_pos (by rfl)];simp only[p1,p2,p3,p4]at hK;have HK:=hid hK;clear hK he hi_;go_simp;exact HK.out _ _ (by first|rfl|simp[r12R,upd]) (.of_below bR QW.out)
           ·have e29:vs 29=_:=dq he 29;rw[e29]at hK |-;have e30:vs 30=_:=dq he 30;rw[e30]at hK |-;rw[if_pos (by rfl)];simp only[p1,p2,p3,p4]at hK;have HK:=hid hK;clear hK he hi_;have i0:=IR.out.1;have i1:=IR.out.2;go_simp;exact HK.out _ _ (by first|rfl|simp[r12R,upd]) (.of_below bR QW.out)
           ·have e31:vs 31=_:=dq he 31;rw[e31]at hK |-;rw[if_pos (by rfl)];simp only[p1,p2,p3,p4]at hK;have HK:=hid hK;clear hK he hi_;have i0:=IR.out.1;have i1:=IR.out.2;go_simp;exact HK.out _ _ (by first|rfl|simp[r12R,upd]) (.of_below bR QW.out)
           ·have e32:vs 32=_:=dq he 32;rw[e32]at hK |-;rw[if_pos (by rfl)];simp only[p1,p2,p3,p4]at hK;have HK:=hid hK;clear hK he hi_;have cc:=(RC2.out W BW.out).1;go_simp;exact HK.out _ _ rfl (.of_below bR QW.out)
           ·have e33:vs 33=_:=dq he 33;rw[e33]at hK |-;rw[if_pos (by rfl)];simp only[p1,p2,p3,p4]at hK;have HK:=hid hK;clear hK he hi_;go_simp;exact HK.out _ _ ⟨W.heap.size,rfl,HSZ.out,by simp,(World.cell?_alloc_at _ _ _ _ rfl).trans rfl⟩ (.of_below (bR.alloc lR _) QW.out)
           ·have e28:vs 28=_:=dq he 28;rw[e28]at hK |-;obtain⟨g9,e34,_,hg9,hc9⟩:=dq he 34;rw[e34]at hK |-;have R9:=hid (qCP hg9 hc9);clear hg9 hc9;have QBH:=hid (he ⟨24,.chain⟩ (by simp) rfl:r12R Q base V.heap.size b2 o2 nr rc i b o np pc k n A2 A3 A4 c2 c3 c4 prio x L RB RC 24 vs W);rw[if_pos (by rfl)];simp only[p1,p2,p3,p4]at hK;have HK:=hid hK;clear hK he hi_;have OW:=PR.out.2.2.1 rfl;unfold Own at OW;rw[HNRC.out]at OW;refine qAM (P:=Tryz.prog) W _ _ 42 rfl base 3 _ _ 1 _ (by rfl) (by rfl) (by rfl) (by rfl) (by rfl) (by rfl) (by decide) qAZ qBW (.slice A4 n c4) n (RC.flatMap encI) rfl OW W.heap.size (some ⟨g9,0,none⟩) 1 [prio] 1 rfl rfl R9.out (by have:=HNN.out;simp;omega) (by decide) (Nat.le_trans S.out.hb HSZ.out) ?_;intro v9 w9 ho9 hg9 hl9;rw[<- HNRC.out]at ho9;exact HK.out _ _ (QC.of S.out HSZ.out QBH.out ho9 hg9 hl9) (.of_grown hg9 QW.out (fun e=>by have:=(World.ownsRow.lt S.out.oc Q e).1;have:=S.out.hQ;omega))
           ·have e0:vs 0=_:=dq he 0;rw[e0]at hK |-;rw[if_pos (by rfl)];simp only[p1,p2,p3,p4]at hK;have HK:=hid hK;clear hK he hi_;go_simp;exact HK.out _ _ (by first|rfl|simp[r12R,upd]) (.of_below bR QW.out)
           ·have e36:vs 36=_:=dq he 36;rw[e36]at hK |-;rw[if_pos (by rfl)];simp only[p1,p2,p3,p4]at hK;have HK:=hid hK;clear hK he hi_;go_simp;exact HK.out _ _ (by first|rfl|simp[r12R,upd]) (.of_below bR QW.out)
           ·have e37:vs 37=_:=dq he 37;rw[e37]at hK |-;obtain⟨q9,N9',hq9⟩:=dq he 17;obtain⟨D9,d9,e17⟩:=qAG hq9.1;rw[e17]at hK |-;generalize (L++[q9]).length=l9 at *;clear hq9;rw[if_pos (by rfl)];simp only[p1,p2,p3,p4]at hK;have HK:=hid hK;clear hK he hi_;have cc:=PR.out.2.2.2.1 (.inr rfl);have ff:=FZ.out 0 (by omega);have E9:=hid e17;clear e17;go_simp;exact HK.out undef _ (by show World.cell? _ _=some (upd vs 38 undef 17);rw[qA2 (by decide),E9.out];exact qAY cc) (.of_set _ _)
           ·have e1:vs 1=_:=dq he 1;rw[e1]at hK |-;rw[if_pos (by rfl)];simp only[p1,p2,p3,p4]at hK;have HK:=hid hK;clear hK he hi_;go_simp;exact HK.out _ _ (by first|rfl|simp[r12R,upd]) (.of_below bR QW.out)
           ·have e39:vs 39=_:=dq he 39;rw[e39]at hK |-;rw[if_pos (by rfl)];simp only[p1,p2,p3,p4]at hK;have HK:=hid hK;clear hK he hi_;go_simp;exact HK.out _ _ (by first|rfl|simp[r12R,upd]) (.of_below bR QW.out)
           ·have e40:vs 40=_:=dq he 40;rw[e40]at hK |-;obtain⟨q9,N9',hq9⟩:=dq he 24;obtain⟨D9,d9,e24⟩:=qAG hq9.2.1.1;rw[e24]at hK |-;generalize (RB++[(i:Int)]).length=l9 at *;clear hq9;rw[if_pos (by rfl)];simp only[p1,p2,p3,p4]at hK;have HK:=hid hK;clear hK he hi_;have cc:=PR.out.2.2.2.2.1 (.inr rfl);have ff:=FZ.out 2 (by omega);have E9:=hid e24;clear e24;go_simp;exact HK.out undef _ (by show World.cell? _ _=some (upd vs 41 undef 24);rw[qA2 (by decide),E9.out];exact qAY cc) (.of_set _ _)
           ·have e2:vs 2=_:=dq he 2;rw[e2]at hK |-;rw[if_pos (by rfl)];simp only[p1,p2,p3,p4]at hK;have HK:=hid hK;clear hK he hi_;go_simp;exact HK.out _ _ (by first|rfl|simp[r12R,upd]) (.of_below bR QW.out)
           ·have e42:vs 42=_:=dq he 42;rw[e42]at hK |-;rw[if_pos (by rfl)];simp only[p1,p2,p3,p4]at hK;have HK:=hid hK;clear hK he hi_;go_simp;exact HK.out _ _ (by first|rfl|simp[r12R,upd]) (.of_below bR QW.out)
           ·have e43:vs 43=_:=dq he 43;rw[e43]at hK |-;obtain⟨q9,N9',hq9⟩:=dq he 35;obtain⟨D9,d9,e35⟩:=qAG hq9.2.2.1.1;rw[e35]at hK |-;generalize (RC++[prio]).length=l9 at *;clear hq9;rw[if_pos (by rfl)];simp only[p1,p2,p3,p4]at hK;have HK:=hid hK;clear hK he hi_;have cc:=PR.out.2.2.2.2.2 (.inr rfl);have ff:=FZ.out 3 (by omega);have E9:=hid e35;clear e35;go_simp;exact HK.out undef _ (by show World.cell? _ _=some (upd vs 44 undef 35);rw[qA2 (by decide),E9.out];exact qAY cc) (.of_set _ _)
          ·intro vs W hall hGW;have k0:=(hall 38 (by decide):r12R Q base V.heap.size b2 o2 nr rc i b o np pc k n A2 A3 A4 c2 c3 c4 prio x L RB RC 38 vs W);have k2:=(hall 41 (by decide):r12R Q base V.heap.size b2 o2 nr rc i b o np pc k n A2 A3 A4 c2 c3 c4 prio x L RB RC 41 vs W);have k3:=(hall 44 (by decide):r12R Q base V.heap.size b2 o2 nr rc i b o np pc k n A2 A3 A4 c2 c3 c4 prio x L RB RC 44 vs W);obtain⟨q,No',hA,hB,hC,hu,ht⟩:QC base V.heap.size x L RB RC (i:Int) prio (.slice A2 n c2) (.slice A3 n c3) (.slice A4 n c4) (vs 17) (vs 24) (vs 35) W:=hall 35 (by decide);simp only[p5,p6,p7,p8,qA4,qAB,qAA,p2,p3,p4];have SM:=hid (S.out.more hGW hA hB hC hu ht k0 k2 k3);have AX:=hid (hA.2.1);generalize vs 0=y0 at *;generalize vs 1=y1 at *;generalize vs 2=y2 at *;generalize vs 3=y3 at *;generalize vs 4=y4 at *;generalize vs 5=y5 at *;generalize vs 6=y6 at *;generalize vs 7=y7 at *;generalize vs 8=y8 at *;generalize vs 9=y9 at *;generalize vs 10=y10 at *;generalize vs 11=y11 at *;generalize vs 12=y12 at *;generalize vs 13=y13 at *;generalize vs 14=y14 at *;generalize vs 15=y15 at *;generalize vs 16=y16 at *;generalize vs 17=y17 at *;generalize vs 18=y18 at *;generalize vs 19=y19 at *;generalize vs 20=y20 at *;generalize vs 21=y21 at *;generalize vs 22=y22 at *;generalize vs 23=y23 at *;generalize vs 24=y24 at *;generalize vs 25=y25 at *;generalize vs 26=y26 at *;generalize vs 27=y27 at *;generalize vs 28=y28 at *;generalize vs 29=y29 at *;generalize vs 30=y30 at *;generalize vs 31=y31 at *;generalize vs 32=y32 at *;generalize vs 33=y33 at *;generalize vs 34=y34 at *;generalize vs 35=y35 at *;generalize vs 36=y36 at *;generalize vs 37=y37 at *;generalize vs 39=y39 at *;generalize vs 40=y40 at *;generalize vs 42=y42 at *;generalize vs 43=y43 at *;clear hall hGW hA hB hC hu ht k0 k2 k3;go_wp2_with fail
           go_roundw
           case rel=>exact⟨k+1,L++[q],RB++[(i:Int)],RC++[prio],_,_,_,_,by omega,by go_num,SM.out,hid ⟨by simp[HF.out.1],by simp[HF.out.2.1],(N9.out q AX.out).1,(N9.out q AX.out).2⟩⟩
           case measure=>simp[intOf];omega
        ·obtain rfl:np=k:=by omega
         have j1:¬(np:Int)<(np:Int):=by omega
         have OK:=hid (show rpOk r=true by rw[RP.out];exact List.all_eq_true.2 fun y hy=>HF.out.2.2.2 y (by rw[List.take_of_length_le (by have:=HNP.out;omega)];exact hy));have HF:=hid (show RB.length=L.length/\RC.length=L.length/\qAQ (allP (repos.take (i+1)) ins) L from⟨HF.out.1,HF.out.2.1,ALL.out L (by have:=HF.out.2.2.1;rwa [show r.pk.take np=r.pk from List.take_of_length_le (by have:=HNP.out;omega)]at this)⟩);go_wp2_with fail
         go_roundw
         case rel=>exact⟨i+1,L,RB,RC,No,va,vb,vc,by omega,by go_num,S.out,hid ⟨HF.out.1,HF.out.2.1,HF.out.2.2,NXT0.out OK.out⟩⟩
         case measure=>simp[intOf];omega
      ·obtain rfl:nr=i:=by omega
       have j2:¬(nr:Int)<(nr:Int):=by omega
       have EE:=hid (show qB4 repos ins=0 by rw[ER.out,if_pos];exact List.all_eq_true.2 fun r hr=>HF.out.2.2.2 r (by rw[List.take_of_length_le (by have:=HNR.out;omega)];exact hr));have AE:=hid (show qAQ (allP repos ins) L by have:=HF.out.2.2.1;rwa [List.take_of_length_le (by have:=HNR.out;omega)]at this);go_wp2_with fail
       go_ret2
       exact⟨fun _=>⟨Q,L,rfl,S.out.at_ (by rw[HNI.out]),AE.out⟩,(fun h=>absurd EE.out h),S.out.old⟩
