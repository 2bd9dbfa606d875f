/- StMem, PkLessR, PkClone, PkCopyL -/
import Derived.Test.YteobmfpbgnmffaaGreatDoorT15
set_option linter.unusedVariables false
set_option maxHeartbeats 4000000
set_option maxRecDepth 100000
open Go.Lib (hid)
set_option linter.unusedSimpArgs false
namespace Go.Proofs.YteobmfpbgnmffaaGreatDoor
open Go.RowKit Go.Shelf
section
theorem qQ7 (p:Pk) : p.cells.length=15 := rfl
def PRow (B:Nat)(W:World)(A:Option Addr)(cap:Nat)(l:List Pk) : Prop := Rd Pk.cells 15 B A cap l W /\ ∀p∈l,p.Laid B W
theorem PRow.below {B:Nat}{W W':World}{A:Option Addr}{cap:Nat}{l:List Pk}(h:PRow B W A cap l)(hb:Below B W W') : PRow B W' A cap l := ⟨h.1.below hb,fun p hp=>(h.2 p hp).below hb⟩
theorem PRow.more {B B':Nat}{W:World}{A:Option Addr}{cap:Nat}{l:List Pk}(h:PRow B W A cap l)(hb:B<=B') : PRow B' W A cap l := ⟨h.1.more hb,fun p hp=>(h.2 p hp).more hb⟩
theorem PRow.calls {W W':World}{A:Option Addr}{cap:Nat}{l:List Pk}(h:PRow W.heap.size W A cap l)(hb:Below W.heap.size W W') : PRow W'.heap.size W' A cap l := (h.below hb).more hb.size
theorem PRow.at_ {B:Nat}{W:World}{A:Option Addr}{cap:Nat}{l:List Pk}(h:PRow B W A cap l){k:Nat}(hk:k<l.length):∃b o,A=some ⟨b,o,none⟩/\b<B/\W.cell? ⟨b,o+k * 15,none⟩=some (.string l[k].name)/\W.cell? ⟨b,o+k * 15+1,none⟩=some (.int .i64 l[k].epoch)/\W.cell? ⟨b,o+k * 15+2,none⟩=some (.string l[k].ver)/\W.cell? ⟨b,o+k * 15+3,none⟩=some (.string l[k].rel)/\W.cell? ⟨b,o+k * 15+4,none⟩=some (.int .u8 l[k].arch)/\W.cell? ⟨b,o+k * 15+5,none⟩=some (.string l[k].vendor)/\W.cell? ⟨b,o+k * 15+6,none⟩=some (.slice l[k].provA l[k].prov.length l[k].provC)/\W.cell? ⟨b,o+k * 15+7,none⟩=some (.slice l[k].reqA l[k].req.length l[k].reqC)/\W.cell? ⟨b,o+k * 15+8,none⟩=some (.slice l[k].conA l[k].con.length l[k].conC)/\W.cell? ⟨b,o+k * 15+9,none⟩=some (.slice l[k].obsA l[k].obs.length l[k].obsC)/\W.cell? ⟨b,o+k * 15+10,none⟩=some (.slice l[k].rcmA l[k].rcm.length l[k].rcmC)/\W.cell? ⟨b,o+k * 15+11,none⟩=some (.slice l[k].supA l[k].sup.length l[k].supC)/\W.cell? ⟨b,o+k * 15+12,none⟩=some (.slice l[k].sugA l[k].sug.length l[k].sugC)/\W.cell? ⟨b,o+k * 15+13,none⟩=some (.slice l[k].enhA l[k].enh.length l[k].enhC)/\W.cell? ⟨b,o+k * 15+14,none⟩=some (.slice l[k].filesA l[k].files.length l[k].filesC) := by
 obtain⟨b,o,e,hb,hc⟩:=h.1.cells hk;exact⟨b,o,e,hb,hc 0 _ rfl,hc 1 _ rfl,hc 2 _ rfl,hc 3 _ rfl,hc 4 _ rfl,hc 5 _ rfl,hc 6 _ rfl,hc 7 _ rfl,hc 8 _ rfl,hc 9 _ rfl,hc 10 _ rfl,hc 11 _ rfl,hc 12 _ rfl,hc 13 _ rfl,hc 14 _ rfl⟩
structure Rp where
 prio:Int
 A:Option Addr
 c:Nat
 pk:List Pk
def Rp.cells (r:Rp) : List Value := [.int .i64 r.prio,.slice r.A r.pk.length r.c]
theorem qP1 (r:Rp) : r.cells.length=2 := rfl
structure RpRow (B:Nat)(W:World)(A:Option Addr)(cap:Nat)(l:List Rp) : Prop where
 row:Rd Rp.cells 2 B A cap l W
 pks:∀r∈l,PRow B W r.A r.c r.pk
 wf:∀r∈l,(Lit.int .i64 r.prio).wf=true
 cnt:∀r∈l,r.pk.length<=1000000000000000
theorem RpRow.below {B:Nat}{W W':World}{A:Option Addr}{cap:Nat}{l:List Rp}(h:RpRow B W A cap l)(hb:Below B W W') : RpRow B W' A cap l := ⟨h.row.below hb,fun p hp=>(h.pks p hp).below hb,h.wf,h.cnt⟩
theorem RpRow.more {B B':Nat}{W:World}{A:Option Addr}{cap:Nat}{l:List Rp}(h:RpRow B W A cap l)(hb:B<=B') : RpRow B' W A cap l := ⟨h.row.more hb,fun p hp=>(h.pks p hp).more hb,h.wf,h.cnt⟩
theorem RpRow.calls {W W':World}{A:Option Addr}{cap:Nat}{l:List Rp}(h:RpRow W.heap.size W A cap l)(hb:Below W.heap.size W W') : RpRow W'.heap.size W' A cap l := (h.below hb).more hb.size
theorem RpRow.at_ {B:Nat}{W:World}{A:Option Addr}{cap:Nat}{l:List Rp}(h:RpRow B W A cap l){k:Nat}(hk:k<l.length):∃b o,A=some ⟨b,o,none⟩/\b<B/\W.cell? ⟨b,o+k * 2,none⟩=some (.int .i64 l[k].prio)/\W.cell? ⟨b,o+k * 2+1,none⟩=some (.slice l[k].A l[k].pk.length l[k].c) := by
 obtain⟨b,o,e,hb,hc⟩:=h.row.cells hk;exact⟨b,o,e,hb,hc 0 _ rfl,hc 1 _ rfl⟩
def qBD (l:List Rp) : Nat := (l.map fun r=>r.pk.length).sum
theorem qBT (l:List Rp)(k:Nat)(hk:k<l.length) : qBD (l.take (k+1))=qBD (l.take k)+l[k].pk.length := by
 unfold qBD;rw[List.take_succ_eq_append_getElem hk,List.map_append,List.sum_append];simp
structure Narrow (repos:List Rp)(ins:List Pk)(k:Int) : Prop where
 nr:repos.length<=30
 ni:ins.length<=30
 nk:k<=200
 si:∀p∈ins,p.slim
 sr:∀r∈repos,∀p∈r.pk,p.slim
 all:ins.length+qBD repos<=50
end
section
section
variable {α:Type}{enc:α->List Value}{size B:Nat}{W:World}
end
def offR : Nat->Nat|0=>7|1=>8|2=>10|3=>11|4=>12|_=>13
def Pk.rA (q:Pk) : Nat->Option Addr|0=>q.reqA|1=>q.conA|2=>q.rcmA|3=>q.supA|4=>q.sugA|_=>q.enhA
def Pk.rC (q:Pk) : Nat->Nat|0=>q.reqC|1=>q.conC|2=>q.rcmC|3=>q.supC|4=>q.sugC|_=>q.enhC
def Pk.setR (q:Pk)(i:Nat)(A:Option Addr)(c:Nat)(l:List RV) : Pk := match i with
 | 0 => { q with reqA:=A,reqC:=c,req:=l }
 | 1 => { q with conA:=A,conC:=c,con:=l }
 | 2 => { q with rcmA:=A,rcmC:=c,rcm:=l }
 | 3 => { q with supA:=A,supC:=c,sup:=l }
 | 4 => { q with sugA:=A,sugC:=c,sug:=l }
 | _ => { q with enhA:=A,enhC:=c,enh:=l }
theorem qQ3 {cb:Nat}{q:Pk}{W:World}(h:qAJ cb q W){i:Nat}(hi:i<6) : W.cell? ⟨cb,offR i,none⟩=some (.slice (q.rA i) (sixL q i).length (q.rC i)) := by
 obtain⟨⟨_,c0,c1,c2,c3,c4,c5,c6,c7,c8,c9,c10,c11,c12,c13,c14⟩,_⟩:=h;obtain rfl|rfl|rfl|rfl|rfl|rfl:i=0 \/ i=1 \/ i=2 \/ i=3 \/ i=4 \/ i=5:=by omega
 ·exact c7
 ·exact c8
 ·exact c10
 ·exact c11
 ·exact c12
 ·exact c13
theorem qRB (i:Nat) : offR i<15 := by unfold offR;split<;>omega
theorem qMZ {B:Nat}{q:Pk}{W:World}(h:q.Laid B W){i:Nat}(hi:i<6) : RRow B W (q.rA i) (q.rC i) (sixL q i) := by
 obtain rfl|rfl|rfl|rfl|rfl|rfl:i=0 \/ i=1 \/ i=2 \/ i=3 \/ i=4 \/ i=5:=by omega
 ·exact h.req
 ·exact h.con
 ·exact h.rcm
 ·exact h.sup
 ·exact h.sug
 ·exact h.enh
theorem qAJ.set_req {cb:Nat}{q:Pk}{W:World}(h:qAJ cb q W)(A:Option Addr)(c:Nat)(l:List RV) : qAJ cb { q with reqA := A,reqC := c,req := l } (W.setCell ⟨cb,7,none⟩ (.slice A l.length c)) := by
 obtain⟨⟨hl,c0,c1,c2,c3,c4,c5,c6,c7,c8,c9,c10,c11,c12,c13,c14⟩,hf,_⟩:=h;have hz:cb<(W.setCell ⟨cb,7,none⟩ (.slice A l.length c)).heap.size:=by simpa [World.setCell] using hl
 exact⟨⟨hz,(qA0 (by simp)).trans c0,(qA0 (by simp)).trans c1,(qA0 (by simp)).trans c2,(qA0 (by simp)).trans c3,(qA0 (by simp)).trans c4,(qA0 (by simp)).trans c5,(qA0 (by simp)).trans c6,qAY c7,(qA0 (by simp)).trans c8,(qA0 (by simp)).trans c9,(qA0 (by simp)).trans c10,(qA0 (by simp)).trans c11,(qA0 (by simp)).trans c12,(qA0 (by simp)).trans c13,(qA0 (by simp)).trans c14⟩,fun i hi=>by rw[World.frozen?_setCell];exact hf i hi,hz⟩
theorem qAJ.set_con {cb:Nat}{q:Pk}{W:World}(h:qAJ cb q W)(A:Option Addr)(c:Nat)(l:List RV) : qAJ cb { q with conA := A,conC := c,con := l } (W.setCell ⟨cb,8,none⟩ (.slice A l.length c)) := by
 obtain⟨⟨hl,c0,c1,c2,c3,c4,c5,c6,c7,c8,c9,c10,c11,c12,c13,c14⟩,hf,_⟩:=h;have hz:cb<(W.setCell ⟨cb,8,none⟩ (.slice A l.length c)).heap.size:=by simpa [World.setCell] using hl
 exact⟨⟨hz,(qA0 (by simp)).trans c0,(qA0 (by simp)).trans c1,(qA0 (by simp)).trans c2,(qA0 (by simp)).trans c3,(qA0 (by simp)).trans c4,(qA0 (by simp)).trans c5,(qA0 (by simp)).trans c6,(qA0 (by simp)).trans c7,qAY c8,(qA0 (by simp)).trans c9,(qA0 (by simp)).trans c10,(qA0 (by simp)).trans c11,(qA0 (by simp)).trans c12,(qA0 (by simp)).trans c13,(qA0 (by simp)).trans c14⟩,fun i hi=>by rw[World.frozen?_setCell];exact hf i hi,hz⟩
theorem qAJ.set_rcm {cb:Nat}{q:Pk}{W:World}(h:qAJ cb q W)(A:Option Addr)(c:Nat)(l:List RV) : qAJ cb { q with rcmA := A,rcmC := c,rcm := l } (W.setCell ⟨cb,10,none⟩ (.slice A l.length c)) := by
 obtain⟨⟨hl,c0,c1,c2,c3,c4,c5,c6,c7,c8,c9,c10,c11,c12,c13,c14⟩,hf,_⟩:=h;have hz:cb<(W.setCell ⟨cb,10,none⟩ (.slice A l.length c)).heap.size:=by simpa [World.setCell] using hl
 exact⟨⟨hz,(qA0 (by simp)).trans c0,(qA0 (by simp)).trans c1,(qA0 (by simp)).trans c2,(qA0 (by simp)).trans c3,(qA0 (by simp)).trans c4,(qA0 (by simp)).trans c5,(qA0 (by simp)).trans c6,(qA0 (by simp)).trans c7,(qA0 (by simp)).trans c8,(qA0 (by simp)).trans c9,qAY c10,(qA0 (by simp)).trans c11,(qA0 (by simp)).trans c12,(qA0 (by simp)).trans c13,(qA0 (by simp)).trans c14⟩,fun i hi=>by rw[World.frozen?_setCell];exact hf i hi,hz⟩
theorem qAJ.set_sup {cb:Nat}{q:Pk}{W:World}(h:qAJ cb q W)(A:Option Addr)(c:Nat)(l:List RV) : qAJ cb { q with supA := A,supC := c,sup := l } (W.setCell ⟨cb,11,none⟩ (.slice A l.length c)) := by
 obtain⟨⟨hl,c0,c1,c2,c3,c4,c5,c6,c7,c8,c9,c10,c11,c12,c13,c14⟩,hf,_⟩:=h;have hz:cb<(W.setCell ⟨cb,11,none⟩ (.slice A l.length c)).heap.size:=by simpa [World.setCell] using hl
 exact⟨⟨hz,(qA0 (by simp)).trans c0,(qA0 (by simp)).trans c1,(qA0 (by simp)).trans c2,(qA0 (by simp)).trans c3,(qA0 (by simp)).trans c4,(qA0 (by simp)).trans c5,(qA0 (by simp)).trans c6,(qA0 (by simp)).trans c7,(qA0 (by simp)).trans c8,(qA0 (by simp)).trans c9,(qA0 (by simp)).trans c10,qAY c11,(qA0 (by simp)).trans c12,(qA0 (by simp)).trans c13,(qA0 (by simp)).trans c14⟩,fun i hi=>by rw[World.frozen?_setCell];exact hf i hi,hz⟩
theorem qAJ.set_sug {cb:Nat}{q:Pk}{W:World}(h:qAJ cb q W)(A:Option Addr)(c:Nat)(l:List RV) : qAJ cb { q with sugA := A,sugC := c,sug := l } (W.setCell ⟨cb,12,none⟩ (.slice A l.length c)) := by
 obtain⟨⟨hl,c0,c1,c2,c3,c4,c5,c6,c7,c8,c9,c10,c11,c12,c13,c14⟩,hf,_⟩:=h;have hz:cb<(W.setCell ⟨cb,12,none⟩ (.slice A l.length c)).heap.size:=by simpa [World.setCell] using hl
 exact⟨⟨hz,(qA0 (by simp)).trans c0,(qA0 (by simp)).trans c1,(qA0 (by simp)).trans c2,(qA0 (by simp)).trans c3,(qA0 (by simp)).trans c4,(qA0 (by simp)).trans c5,(qA0 (by simp)).trans c6,(qA0 (by simp)).trans c7,(qA0 (by simp)).trans c8,(qA0 (by simp)).trans c9,(qA0 (by simp)).trans c10,(qA0 (by simp)).trans c11,qAY c12,(qA0 (by simp)).trans c13,(qA0 (by simp)).trans c14⟩,fun i hi=>by rw[World.frozen?_setCell];exact hf i hi,hz⟩
theorem qAJ.set_enh {cb:Nat}{q:Pk}{W:World}(h:qAJ cb q W)(A:Option Addr)(c:Nat)(l:List RV) : qAJ cb { q with enhA := A,enhC := c,enh := l } (W.setCell ⟨cb,13,none⟩ (.slice A l.length c)) := by
 obtain⟨⟨hl,c0,c1,c2,c3,c4,c5,c6,c7,c8,c9,c10,c11,c12,c13,c14⟩,hf,_⟩:=h;have hz:cb<(W.setCell ⟨cb,13,none⟩ (.slice A l.length c)).heap.size:=by simpa [World.setCell] using hl
 exact⟨⟨hz,(qA0 (by simp)).trans c0,(qA0 (by simp)).trans c1,(qA0 (by simp)).trans c2,(qA0 (by simp)).trans c3,(qA0 (by simp)).trans c4,(qA0 (by simp)).trans c5,(qA0 (by simp)).trans c6,(qA0 (by simp)).trans c7,(qA0 (by simp)).trans c8,(qA0 (by simp)).trans c9,(qA0 (by simp)).trans c10,(qA0 (by simp)).trans c11,(qA0 (by simp)).trans c12,qAY c13,(qA0 (by simp)).trans c14⟩,fun i hi=>by rw[World.frozen?_setCell];exact hf i hi,hz⟩
theorem qAJ.set_prov {cb:Nat}{q:Pk}{W:World}(h:qAJ cb q W)(A:Option Addr)(c:Nat)(l:List Dp) : qAJ cb { q with provA := A,provC := c,prov := l } (W.setCell ⟨cb,6,none⟩ (.slice A l.length c)) := by
 obtain⟨⟨hl,c0,c1,c2,c3,c4,c5,c6,c7,c8,c9,c10,c11,c12,c13,c14⟩,hf,_⟩:=h;have hz:cb<(W.setCell ⟨cb,6,none⟩ (.slice A l.length c)).heap.size:=by simpa [World.setCell] using hl
 exact⟨⟨hz,(qA0 (by simp)).trans c0,(qA0 (by simp)).trans c1,(qA0 (by simp)).trans c2,(qA0 (by simp)).trans c3,(qA0 (by simp)).trans c4,(qA0 (by simp)).trans c5,qAY c6,(qA0 (by simp)).trans c7,(qA0 (by simp)).trans c8,(qA0 (by simp)).trans c9,(qA0 (by simp)).trans c10,(qA0 (by simp)).trans c11,(qA0 (by simp)).trans c12,(qA0 (by simp)).trans c13,(qA0 (by simp)).trans c14⟩,fun i hi=>by rw[World.frozen?_setCell];exact hf i hi,hz⟩
theorem qAJ.set_obs {cb:Nat}{q:Pk}{W:World}(h:qAJ cb q W)(A:Option Addr)(c:Nat)(l:List Dp) : qAJ cb { q with obsA := A,obsC := c,obs := l } (W.setCell ⟨cb,9,none⟩ (.slice A l.length c)) := by
 obtain⟨⟨hl,c0,c1,c2,c3,c4,c5,c6,c7,c8,c9,c10,c11,c12,c13,c14⟩,hf,_⟩:=h;have hz:cb<(W.setCell ⟨cb,9,none⟩ (.slice A l.length c)).heap.size:=by simpa [World.setCell] using hl
 exact⟨⟨hz,(qA0 (by simp)).trans c0,(qA0 (by simp)).trans c1,(qA0 (by simp)).trans c2,(qA0 (by simp)).trans c3,(qA0 (by simp)).trans c4,(qA0 (by simp)).trans c5,(qA0 (by simp)).trans c6,(qA0 (by simp)).trans c7,(qA0 (by simp)).trans c8,qAY c9,(qA0 (by simp)).trans c10,(qA0 (by simp)).trans c11,(qA0 (by simp)).trans c12,(qA0 (by simp)).trans c13,(qA0 (by simp)).trans c14⟩,fun i hi=>by rw[World.frozen?_setCell];exact hf i hi,hz⟩
theorem qAJ.set_files {cb:Nat}{q:Pk}{W:World}(h:qAJ cb q W)(A:Option Addr)(c:Nat)(l:List ByteArray) : qAJ cb { q with filesA := A,filesC := c,files := l } (W.setCell ⟨cb,14,none⟩ (.slice A l.length c)) := by
 obtain⟨⟨hl,c0,c1,c2,c3,c4,c5,c6,c7,c8,c9,c10,c11,c12,c13,c14⟩,hf,_⟩:=h;have hz:cb<(W.setCell ⟨cb,14,none⟩ (.slice A l.length c)).heap.size:=by simpa [World.setCell] using hl
 exact⟨⟨hz,(qA0 (by simp)).trans c0,(qA0 (by simp)).trans c1,(qA0 (by simp)).trans c2,(qA0 (by simp)).trans c3,(qA0 (by simp)).trans c4,(qA0 (by simp)).trans c5,(qA0 (by simp)).trans c6,(qA0 (by simp)).trans c7,(qA0 (by simp)).trans c8,(qA0 (by simp)).trans c9,(qA0 (by simp)).trans c10,(qA0 (by simp)).trans c11,(qA0 (by simp)).trans c12,(qA0 (by simp)).trans c13,qAY c14⟩,fun i hi=>by rw[World.frozen?_setCell];exact hf i hi,hz⟩
theorem qAJ.setR {cb:Nat}{q:Pk}{W:World}(h:qAJ cb q W)(A:Option Addr)(c:Nat)(l:List RV){i:Nat}(hi:i<6) : qAJ cb (q.setR i A c l) (W.setCell ⟨cb,offR i,none⟩ (.slice A l.length c)) := by
 obtain rfl|rfl|rfl|rfl|rfl|rfl:i=0 \/ i=1 \/ i=2 \/ i=3 \/ i=4 \/ i=5:=by omega
 ·exact h.set_req A c l
 ·exact h.set_con A c l
 ·exact h.set_rcm A c l
 ·exact h.set_sup A c l
 ·exact h.set_sug A c l
 ·exact h.set_enh A c l
section
variable {α:Type}{enc:α->List Value}{size cb:Nat}{A:Option Addr}{c:Nat}{l:List α}{W W':World}
end
def qPO (gp cb:Nat)(offs:Nat->Nat)(n:Nat)(W:World) : Prop := gp<W.heap.size/\gp≠cb /\ ∀i,i<n->W.cell? ⟨gp,i,none⟩=some (.pointer (some ⟨cb,offs i,none⟩))
end
section
theorem qLP (A:Option Addr)(cap:Nat)(l:List Dp)(w:World)(h:Rd encD 5 w.heap.size A cap l w)(hl:l.length<=1000000) : Calls Tryz.prog 70 #[.slice A l.length cap] w fun e w' => ∃A' c',e=.returned (.slice A' l.length c')/\Own encD 5 w.heap.size 37 (.slice A' l.length c') l w'/\Below w.heap.size w w' := by
 have q:∀(w:World) (a:Option Addr) (n c n' c':Nat),(binOp .eql 24 (.slice a n c) (.slice none n' c')).run Tryz.prog w=.ok (.bool a.isNone) w:=fun w a n c n' c'=>Lib.run_eql_slice_nil w _ _ a n c n' c' (by rfl);have H:=hid h;have HL:=hid hl
 cases A with
 | none =>
  have hlen:l.length=0:=by
   cases l with
   | nil=>rfl
   | cons x r=>obtain⟨b,o,e,_⟩:=h.2.2 0 (by simp);cases e
  obtain rfl:=List.eq_nil_of_length_eq_zero hlen;clear h hl hlen
  go_enter Tryz.func70,Tryz.ntmps70
  go_wp2_with fail
  go_ret;exact⟨none,0,rfl,Own.nil_ _ _ _,Below.refl _ _⟩
 | some ad =>
  obtain⟨n,hn⟩:∃n,n=l.length:=⟨_,rfl⟩;have HN:=hid hn;rw[<- hn];clear h hl hn
  go_enter Tryz.func70,Tryz.ntmps70
  go_wp2_with (at_builtin;refine qB5 _ rfl _ _ 24 rfl w.heap.size 37 _ _ 5 _ (by rfl) (by rfl) (by rfl) (by rfl) (by rfl) (by rfl) (by decide) qE2 qI5 _ 0 [] rfl (World.ownsRow_made w #[] 0 lR (Nat.zero_le _) rfl) w.heap.size (some ad) cap l n HN.out rfl (H.out.alloc lR _) (by have:=HL.out;omega) (by decide) (by simp) ?_;intro v1 w1 ho1 hg1 hw1)
  go_ret;have hO:Own encD 5 w.heap.size 37 v1 l w1:=by simpa [Own] using ho1
  obtain⟨A',c',hv⟩:=hO.shape;exact⟨A',c',by rw[HN.out];exact congrArg Ending.returned hv,by rw[HN.out,<- hv];exact hO,((Below.refl _ w).alloc lR _).grown hg1 (by simp) (by intro k hk;cases hk;exact Nat.le_refl _)⟩
theorem qLQ (A:Option Addr)(cap:Nat)(l:List ByteArray)(w:World)(h:Rd qER 1 w.heap.size A cap l w)(hl:l.length<=1000000) : Calls Tryz.prog 71 #[.slice A l.length cap] w fun e w' => ∃A' c',e=.returned (.slice A' l.length c')/\Own qER 1 w.heap.size 9 (.slice A' l.length c') l w'/\Below w.heap.size w w' := by
 have q:∀(w:World) (a:Option Addr) (n c n' c':Nat),(binOp .eql 26 (.slice a n c) (.slice none n' c')).run Tryz.prog w=.ok (.bool a.isNone) w:=fun w a n c n' c'=>Lib.run_eql_slice_nil w _ _ a n c n' c' (by rfl);have H:=hid h;have HL:=hid hl
 cases A with
 | none =>
  have hlen:l.length=0:=by
   cases l with
   | nil=>rfl
   | cons x r=>obtain⟨b,o,e,_⟩:=h.2.2 0 (by simp);cases e
  obtain rfl:=List.eq_nil_of_length_eq_zero hlen;clear h hl hlen
  go_enter Tryz.func71,Tryz.ntmps71
  go_wp2_with fail
  go_ret;exact⟨none,0,rfl,Own.nil_ _ _ _,Below.refl _ _⟩
 | some ad =>
  obtain⟨n,hn⟩:∃n,n=l.length:=⟨_,rfl⟩;have HN:=hid hn;rw[<- hn];clear h hl hn
  go_enter Tryz.func71,Tryz.ntmps71
  go_wp2_with (at_builtin;refine qB5 _ rfl _ _ 26 rfl w.heap.size 9 _ _ 1 _ (by rfl) (by rfl) (by rfl) (by rfl) (by rfl) (by rfl) (by decide) qFZ qJ5 _ 0 [] rfl (World.ownsRow_made w #[] 0 lR (Nat.zero_le _) rfl) w.heap.size (some ad) cap l n HN.out rfl (H.out.alloc lR _) (by have:=HL.out;omega) (by decide) (by simp) ?_;intro v1 w1 ho1 hg1 hw1)
  go_ret;have hO:Own qER 1 w.heap.size 9 v1 l w1:=by simpa [Own] using ho1
  obtain⟨A',c',hv⟩:=hO.shape;exact⟨A',c',by rw[HN.out];exact congrArg Ending.returned hv,by rw[HN.out,<- hv];exact hO,((Below.refl _ w).alloc lR _).grown hg1 (by simp) (by intro k hk;cases hk;exact Nat.le_refl _)⟩
theorem qJY (A:Option Addr)(cap:Nat)(l:List RV)(w:World)(h:Rd encR 7 w.heap.size A cap l w)(hl:l.length<=1000000) : Calls Tryz.prog 72 #[.slice A l.length cap] w fun e w' => ∃A' c',e=.returned (.slice A' l.length c')/\Own encR 7 w.heap.size 39 (.slice A' l.length c') l w'/\Below w.heap.size w w' := by
 have q:∀(w:World) (a:Option Addr) (n c n' c':Nat),(binOp .eql 25 (.slice a n c) (.slice none n' c')).run Tryz.prog w=.ok (.bool a.isNone) w:=fun w a n c n' c'=>Lib.run_eql_slice_nil w _ _ a n c n' c' (by rfl);have H:=hid h;have HL:=hid hl
 cases A with
 | none =>
  have hlen:l.length=0:=by
   cases l with
   | nil=>rfl
   | cons x r=>obtain⟨b,o,e,_⟩:=h.2.2 0 (by simp);cases e
  obtain rfl:=List.eq_nil_of_length_eq_zero hlen;clear h hl hlen
  go_enter Tryz.func72,Tryz.ntmps72
  go_wp2_with fail
  go_ret;exact⟨none,0,rfl,Own.nil_ _ _ _,Below.refl _ _⟩
 | some ad =>
  obtain⟨n,hn⟩:∃n,n=l.length:=⟨_,rfl⟩;have HN:=hid hn;rw[<- hn];clear h hl hn
  go_enter Tryz.func72,Tryz.ntmps72
  go_wp2_with (at_builtin;refine qB5 _ rfl _ _ 25 rfl w.heap.size 39 _ _ 7 _ (by rfl) (by rfl) (by rfl) (by rfl) (by rfl) (by rfl) (by decide) qC0 qE3 _ 0 [] rfl (World.ownsRow_made w #[] 0 lR (Nat.zero_le _) rfl) w.heap.size (some ad) cap l n HN.out rfl (H.out.alloc lR _) (by have:=HL.out;omega) (by decide) (by simp) ?_;intro v1 w1 ho1 hg1 hw1)
  go_ret;have hO:Own encR 7 w.heap.size 39 v1 l w1:=by simpa [Own] using ho1
  obtain⟨A',c',hv⟩:=hO.shape;exact⟨A',c',by rw[HN.out];exact congrArg Ending.returned hv,by rw[HN.out,<- hv];exact hO,((Below.refl _ w).alloc lR _).grown hg1 (by simp) (by intro k hk;cases hk;exact Nat.le_refl _)⟩
end
section
def over : List Value->Nat->List Value->List Value
 | xs,_,[]=>xs
 | xs,k,v::l=>over (xs.set k v) (k+1) l
theorem qN2:∀(l P Q R:List Value),Q.length=l.length->over (P++(Q++R)) P.length l=P++(l++R)
 | [],P,Q,R,h=>by
  obtain rfl:Q=[]:=List.eq_nil_of_length_eq_zero h;rfl
 | v::l,P,[],R,h=>by simp at h
 | v::l,P,q::Q,R,h=>by
  have e1:(P++(q::Q++R)).set P.length v=(P++[v])++(Q++R):=by simp[List.set_append]
  have e2:=qN2 l (P++[v]) Q R (by simpa using h);rw[over,e1,show P.length+1=(P++[v]).length by simp,e2];simp
theorem qUR {α:Type}{enc:α->List Value}{size:Nat}(he:∀x,(enc x).length=size)(m:List α)(j:Nat)(hj:j<m.length)(x:α) : over (m.flatMap enc) (j * size) (enc x)=(m.set j x).flatMap enc := by
 have h1:m=m.take j++m[j]::m.drop (j+1):=by rw[List.getElem_cons_drop];exact (List.take_append_drop j m).symm
 have h2:m.set j x=m.take j++x::m.drop (j+1):=by rw[List.set_eq_take_append_cons_drop,if_pos hj]
 have hl:((m.take j).flatMap enc).length=j * size:=by
  have:∀l:List α,(l.flatMap enc).length=l.length * size:=fun l=>by
   induction l with
   | nil=>simp
   | cons a l ih=>simp[ih,he,Nat.add_mul,Nat.add_comm]
  rw[this,List.length_take,Nat.min_eq_left (Nat.le_of_lt hj)]
 have h3:m.flatMap enc=(m.take j).flatMap enc++(enc m[j]++(m.drop (j+1)).flatMap enc):=by
  have h4:=congrArg (fun l=>List.flatMap enc l) h1;simp only[List.flatMap_append,List.flatMap_cons]at h4;exact h4
 rw[h3,h2,<- hl,qN2 (enc x) _ _ _ (by rw[he,he])];simp
section
variable {base:Nat}{e:TypeId}{size g n cap:Nat}{W:World}
theorem qDA {xs:List Value}(h:W.ownsRow base e size (.slice (some ⟨g,0,none⟩) n cap) n xs)(k:Nat)(v:Value) : (W.setCell ⟨g,k,none⟩ v).ownsRow base e size (.slice (some ⟨g,0,none⟩) n cap) n (xs.set k v) := by
 refine⟨by rw[List.length_set];exact h.1,.inr ?_⟩;rcases h.2 with⟨h2,_⟩|⟨g',cap',cur,hv,hg,hh,h1,h2,h3,h4⟩
 ·simp at h2
 ·simp only[Value.slice.injEq,Option.some.injEq,Addr.mk.injEq]at hv;obtain⟨⟨rfl,_⟩,_,rfl⟩:=hv;refine⟨g,cap,cur.setIfInBounds k v,rfl,hg,?_,h1,h2,by simpa using h3,?_⟩
  ·simp[World.setCell,Array.getElem?_modify,hh]
  ·rw[Array.toList_setIfInBounds,List.take_set,h4]
theorem qF4:∀(l:List Value) (k:Nat) (W:World) (xs:List Value),W.ownsRow base e size (.slice (some ⟨g,0,none⟩) n cap) n xs->(setL g k l W).ownsRow base e size (.slice (some ⟨g,0,none⟩) n cap) n (over xs k l)
 | [],k,W,xs,h=>h
 | v::l,k,W,xs,h=>qF4 l (k+1) _ _ (qDA h k v)
theorem qXE {α:Type}{enc:α->List Value}{m:List α}(h:Own enc size base e (.slice (some ⟨g,0,none⟩) n cap) m W)(he:∀x,(enc x).length=size){j:Nat}(hj:j<m.length)(x:α) : Own enc size base e (.slice (some ⟨g,0,none⟩) n cap) (m.set j x) (setL g (j * size) (enc x) W) := by
 have hn:n=m.length:=by
  rcases h.2 with⟨h2,_⟩|⟨g',cap',cur,hv,_⟩
  ·simp at h2
  ·simp only[Value.slice.injEq]at hv;exact hv.2.1
 subst hn;unfold Own at *;rw[List.length_set,<- qUR he m j hj x];exact qF4 _ _ _ _ h
theorem qUS {α:Type}{enc:α->List Value}{m:List α}{A:Option Addr}(h:Own enc size base e (.slice A n cap) m W)(hm:0<m.length):∃g,A=some ⟨g,0,none⟩/\base<=g/\g<W.heap.size/\n=m.length/\(∀i,W.frozen? ⟨g,i,none⟩=false) := by
 rcases h.2 with⟨_,h2⟩|⟨g',cap',cur,hv,hg,hh,_⟩
 ·omega
 ·simp only[Value.slice.injEq]at hv;exact⟨g',hv.1,hg,(Array.getElem?_eq_some_iff.1 hh).1,hv.2.1,fun i=>by simp[World.frozen?,hh]⟩
end
theorem qDN {B R:Nat}(hB:B<=R):∀(l:List Value) (k:Nat) (W:World),Below B W (setL R k l W)
 | [],_,W=>Below.refl _ _
 | v::l,k,W=>(bR.setCell (p:=⟨R,k,none⟩) hB v).trans (qDN hB l (k+1) _)
theorem qGM (R:Nat)(l:List Value)(k:Nat)(W:World) : (setL R k l W).heap.size=W.heap.size := by
 induction l generalizing k W with
 | nil=>rfl
 | cons v l ih=>rw[setL,ih];simp[World.setCell]
theorem qRM {base:Nat}{e:TypeId}{g n cap:Nat}{W:World}{m:List RV}(h:Own encR 7 base e (.slice (some ⟨g,0,none⟩) n cap) m W){k:Nat}(hk:k<m.length) : W.cell? ⟨g,k * 7,none⟩=some (.int .u8 m[k].kind)/\W.cell? ⟨g,k * 7+1,none⟩=some (.string (bs m[k].dep.name))/\W.cell? ⟨g,k * 7+2,none⟩=some (.int .u8 m[k].dep.op)/\W.cell? ⟨g,k * 7+3,none⟩=some (.int .i64 m[k].dep.evr.epoch)/\W.cell? ⟨g,k * 7+4,none⟩=some (.string (bs m[k].dep.evr.ver))/\W.cell? ⟨g,k * 7+5,none⟩=some (.string (bs m[k].dep.evr.rel))/\W.cell? ⟨g,k * 7+6,none⟩=some (.slice m[k].addr m[k].args.length m[k].cap) := by
 obtain⟨A',c',e',hr⟩:=h.rd qC0;simp only[Value.slice.injEq]at e';obtain⟨b,o,e2,_,hc⟩:=hr.cells hk;rw[<- e'.1]at e2;cases e2
 simp only[Nat.zero_add]at hc;exact⟨hc 0 _ rfl,hc 1 _ rfl,hc 2 _ rfl,hc 3 _ rfl,hc 4 _ rfl,hc 5 _ rfl,hc 6 _ rfl⟩
theorem qOK {α:Type}{enc:α->List Value}{size base:Nat}{e:TypeId}{g n cap:Nat}{W:World}{m:List α}(h:Own enc size base e (.slice (some ⟨g,0,none⟩) n cap) m W)(i:Nat) : W.frozen? ⟨g,i,none⟩=false := by
 rcases h.2 with⟨h2,_⟩|⟨g',cap',cur,hv,hg,hh,_⟩
 ·cases h2
 ·simp only[Value.slice.injEq,Option.some.injEq,Addr.mk.injEq]at hv;obtain⟨⟨rfl,_⟩,_⟩:=hv;simp[World.frozen?,hh]
structure PartRow (w0:World)(base:Nat)(A:Option Addr)(n cap:Nat)(orig m:List RV)(j:Nat)(W:World) : Prop where
 own:Own encR 7 base 39 (.slice A n cap) m W
 tr:qA1 m=qA1 orig
 done:∀(k:Nat) (hk:k<m.length),k<j->TQ (fun b=>base<=b/\b<W.heap.size/\(Value.slice A n cap).ownBlock≠some b) W m[k]
 rest:∀k,j<=k->m[k]?=orig[k]?
 low:w0.heap.size<=base
 old:Below w0.heap.size w0 W
section
variable {w0:World}{base:Nat}{A:Option Addr}{n cap:Nat}{orig m:List RV}{j:Nat}{W:World}
theorem PartRow.start {W0:World}(h:Own encR 7 W0.heap.size 39 (.slice A n cap) orig W)(hb:Below w0.heap.size w0 W)(hz:w0.heap.size<=W0.heap.size) : PartRow w0 W0.heap.size A n cap orig orig 0 W :=
 ⟨h,rfl,fun k hk h0=>absurd h0 (Nat.not_lt_zero _),fun _ _=>rfl,hz,hb⟩
theorem PartRow.len (h:PartRow w0 base A n cap orig m j W) : m.length=orig.length := by rw[<- qA5,h.tr,qA5]
theorem PartRow.keep {W':World}(h:PartRow w0 base A n cap orig m j W)(hs:W.heap.size<=W'.heap.size)(hb:∀b,base<=b->b<W.heap.size->W'.heap[b]?=W.heap[b]?)(ho:Below w0.heap.size w0 W') : PartRow w0 base A n cap orig m j W' where
 own:=qAP h.own lR (fun g hg=>hb g (World.ownsRow.lt h.own g hg).1 (World.ownsRow.lt h.own g hg).2)
 tr:=h.tr
 done:=fun k hk h1=>(h.done k hk h1).keep (fun b hq=>⟨hq.1,Nat.lt_of_lt_of_le hq.2.1 hs,hq.2.2⟩) fun b hq=>hb b hq.1 hq.2.1
 rest:=h.rest
 low:=h.low
 old:=ho
theorem PartRow.call {W':World}(h:PartRow w0 base A n cap orig m j W)(hb:Below W.heap.size W W') : PartRow w0 base A n cap orig m j W' :=
 h.keep hb.size (fun b _ hl=>hb.block b hl) (h.old.trans (hb.mono h.old.size))
theorem PartRow.get (h:PartRow w0 base A n cap orig m j W)(hj:j<m.length) : m[j]=orig[j]'(by have := h.len;omega) := by
 have:=h.rest j lR;have hl:=h.len;rw[List.getElem?_eq_getElem hj,List.getElem?_eq_getElem (by omega)]at this;exact Option.some.inj this
theorem qT2 (l:List RV)(j:Nat)(x:RV)(h:(qA1 l)[j]?=some x.tree) : qA1 (l.set j x)=qA1 l := by
 induction l generalizing j with
 | nil=>rfl
 | cons a l ih =>
  cases j with
  | zero=>simp[qA1]at h |-;exact h.symm
  | succ j=>simp[qA1]at h |-;exact ih j h
theorem PartRow.step {g:Nat}{W2:World}{rv:RV}(h:PartRow w0 base (some ⟨g,0,none⟩) n cap orig m j W)(hj:j<m.length)(ht:rv.tree=(m[j]).tree)(hT:TQ (fun b=>W.heap.size<=b/\b<W2.heap.size) W2 rv)(hb:Below W.heap.size W W2) :
  PartRow w0 base (some ⟨g,0,none⟩) n cap orig (m.set j rv) (j+1) (setL g (j * 7) (encR rv) W2):=by
 have hg:=World.ownsRow.lt h.own g rfl;have h2:=h.call hb;have hblk:∀b,b≠g->(setL g (j * 7) (encR rv) W2).heap[b]?=W2.heap[b]?:=fun b hne=>by
  by_cases hlt:b<W2.heap.size
  ·exact (qC6 g (encR rv) (j * 7) W2).block b hlt hne
  ·rw[Array.getElem?_eq_none (by rw[qGM];omega),Array.getElem?_eq_none (by omega)]
 refine⟨qXE h2.own qC0 hj rv,?_,fun k hk h1 => ?_,fun k hk => ?_,h.low,h2.old.trans (qDN (by have:=h.low;omega) _ _ _)⟩
 ·rw[qT2 _ _ _ (by rw[List.getElem?_eq_getElem (by rw[qA5];exact hj),qAI m j hj,ht]),h.tr]
 ·have hk':k<m.length:=by simpa using hk
  by_cases hkj:k=j
  ·subst hkj;rw[List.getElem_set_self];refine hT.keep (fun b hq=>⟨by omega,by rw[qGM];omega,fun e=>by have e':g=b:=Option.some.inj e;omega⟩) fun b hq=>hblk b (by omega)
  ·rw[List.getElem_set_ne (fun e=>hkj e.symm)];exact (h2.done k hk' (by omega)).keep (fun b hq=>⟨hq.1,by rw[qGM];exact hq.2.1,hq.2.2⟩) fun b hq=>hblk b (fun e=>hq.2.2 (by rw[e];rfl))
 ·rw[List.getElem?_set_ne (by omega)];exact h.rest k (by omega)
theorem PartRow.fin (h:PartRow w0 base A n cap orig m j W)(hj:m.length<=j) : ROwn base m (.slice A n cap) W :=
 ⟨h.own,fun a ha=>by
  obtain⟨k,hk,rfl⟩:=List.getElem_of_mem ha;exact h.done k hk (by omega)⟩
end
theorem qAJ.len {cb:Nat}{q:Pk}{i:Nat}{A:Option Addr}{c:Nat}{m m':List RV}{W:World}(h:qAJ cb (q.setR i A c m) W)(hi:i<6)(hl:m'.length=m.length) : qAJ cb (q.setR i A c m') W := by
 unfold qAJ PkAt at *;obtain rfl|rfl|rfl|rfl|rfl|rfl:i=0 \/ i=1 \/ i=2 \/ i=3 \/ i=4 \/ i=5:=by omega
 all_goals (simp only[Pk.setR,hl]at h |-;exact h)
theorem qAJ.butR {cb R:Nat}{q:Pk}{W W':World}(h:qAJ cb q W)(hb:ButR R W W')(hr:cb≠R) : qAJ cb q W' := by
 obtain⟨⟨hl,c0,c1,c2,c3,c4,c5,c6,c7,c8,c9,c10,c11,c12,c13,c14⟩,hf,hlt⟩:=h;have k:∀i,W'.cell? ⟨cb,i,none⟩=W.cell? ⟨cb,i,none⟩:=fun i=>hb.cellK (p:=⟨cb,i,none⟩) hlt hr;exact⟨⟨Nat.lt_of_lt_of_le hl hb.size,(k 0).trans c0,(k 1).trans c1,(k 2).trans c2,(k 3).trans c3,(k 4).trans c4,(k 5).trans c5,(k 6).trans c6,(k 7).trans c7,(k 8).trans c8,(k 9).trans c9,(k 10).trans c10,(k 11).trans c11,(k 12).trans c12,(k 13).trans c13,(k 14).trans c14⟩,fun i hi=>(hb.frozenK (p:=⟨cb,i,none⟩) hlt hr).trans (hf i hi),Nat.lt_of_lt_of_le hlt hb.size⟩
theorem Alike.setR {p q:Pk}(h:Alike p q){i:Nat}(hi:i<6)(A:Option Addr)(c:Nat){m:List RV}(hm:qA1 m=qA1 (sixL q i)) : Alike p (q.setR i A c m) := by
 obtain rfl|rfl|rfl|rfl|rfl|rfl:i=0 \/ i=1 \/ i=2 \/ i=3 \/ i=4 \/ i=5:=by omega
 ·exact { h with req:=hm.trans h.req }
 ·exact { h with con:=hm.trans h.con }
 ·exact { h with rcm:=hm.trans h.rcm }
 ·exact { h with sup:=hm.trans h.sup }
 ·exact { h with sug:=hm.trans h.sug }
 ·exact { h with enh:=hm.trans h.enh }
theorem qSP (q:Pk){i:Nat}(hi:i<6)(A:Option Addr)(c:Nat)(m:List RV) : sixL (q.setR i A c m) i=m/\(q.setR i A c m).rA i=A/\(q.setR i A c m).rC i=c := by
 obtain rfl|rfl|rfl|rfl|rfl|rfl:i=0 \/ i=1 \/ i=2 \/ i=3 \/ i=4 \/ i=5:=by omega
 all_goals exact⟨rfl,rfl,rfl⟩
theorem qSO (q:Pk){i j:Nat}(hi:i<6)(hj:j<6)(hne:j≠i)(A:Option Addr)(c:Nat)(m:List RV) : sixL (q.setR i A c m) j=sixL q j/\(q.setR i A c m).rA j=q.rA j/\(q.setR i A c m).rC j=q.rC j := by
 obtain rfl|rfl|rfl|rfl|rfl|rfl:i=0 \/ i=1 \/ i=2 \/ i=3 \/ i=4 \/ i=5:=by omega
 all_goals (obtain rfl|rfl|rfl|rfl|rfl|rfl:j=0 \/ j=1 \/ j=2 \/ j=3 \/ j=4 \/ j=5:=by omega)
 all_goals first|(exact absurd rfl hne)|exact⟨rfl,rfl,rfl⟩
theorem qSI (q:Pk){i:Nat}(hi:i<6)(A:Option Addr)(c:Nat)(m:List RV) : (q.setR i A c m).provA=q.provA/\(q.setR i A c m).provC=q.provC/\(q.setR i A c m).prov=q.prov/\(q.setR i A c m).obsA=q.obsA/\(q.setR i A c m).obsC=q.obsC/\(q.setR i A c m).obs=q.obs/\(q.setR i A c m).filesA=q.filesA/\(q.setR i A c m).filesC=q.filesC/\(q.setR i A c m).files=q.files := by
 obtain rfl|rfl|rfl|rfl|rfl|rfl:i=0 \/ i=1 \/ i=2 \/ i=3 \/ i=4 \/ i=5:=by omega
 all_goals exact⟨rfl,rfl,rfl,rfl,rfl,rfl,rfl,rfl,rfl⟩
theorem PkOwn.more {base base':Nat}{q:Pk}{W:World}(h:PkOwn base q W)(hb:base'<=base) : PkOwn base' q W :=
 have r:∀ {l:List RV} {v:Value},ROwn base l v W->ROwn base' l v W:=fun k=>⟨Own.more k.own hb,fun a ha=>(k.tr a ha).keep (fun b hq=>⟨Nat.le_trans hb hq.1,hq.2⟩) fun _ _=>rfl⟩
 ⟨Own.more h.prov hb,Own.more h.obs hb,Own.more h.files hb,r h.req,r h.con,r h.rcm,r h.sup,r h.sug,r h.enh⟩
structure CopyAt (w:World)(cb:Nat)(p:Pk)(i:Nat)(q:Pk)(W:World) : Prop where
 box:qAJ cb q W
 alike:Alike p q
 prov:Own encD 5 (cb+2) 37 (.slice q.provA q.prov.length q.provC) q.prov W
 obs:Own encD 5 (cb+2) 37 (.slice q.obsA q.obs.length q.obsC) q.obs W
 files:Own qER 1 (cb+2) 9 (.slice q.filesA q.files.length q.filesC) q.files W
 done:∀j,j<6->j<i->ROwn (cb+2) (sixL q j) (.slice (q.rA j) (sixL q j).length (q.rC j)) W
 rest:∀j,j<6->i<=j->sixL q j=sixL p j/\q.rA j=p.rA j/\q.rC j=p.rC j
 old:Below w.heap.size w W
 base:w.heap.size<=cb
 room:cb+2<=W.heap.size
theorem CopyAt.step {w W W':World}{cb:Nat}{p q:Pk}{i:Nat}(h:CopyAt w cb p i q W)(hi:i<6)(hb:ButR cb W W'){A:Option Addr}{c:Nat}{m:List RV}(hx:qAJ cb (q.setR i A c m) W')(hm:qA1 m=qA1 (sixL q i))(hr:ROwn W.heap.size m (.slice A m.length c) W') :
  CopyAt w cb p (i+1) (q.setR i A c m) W':=by
 obtain⟨e1,e2,e3,e4,e5,e6,e7,e8,e9⟩:=qSI q hi A c m;have hcb:=h.box.2.2;refine⟨hx,h.alike.setR hi A c hm,?_,?_,?_,fun j hj hji => ?_,fun j hj hji => ?_,h.old.trans (hb.below h.base hcb),h.base,Nat.le_trans h.room hb.size⟩
 ·rw[e1,e2,e3];exact h.prov.butR hb (by omega)
 ·rw[e4,e5,e6];exact h.obs.butR hb (by omega)
 ·rw[e7,e8,e9];exact h.files.butR hb (by omega)
 ·by_cases hne:j=i
  ·subst hne;obtain⟨f1,f2,f3⟩:=qSP q hi A c m;rw[f1,f2,f3];exact⟨Own.more hr.own h.room,fun a ha=>(hr.tr a ha).keep (fun b hq=>⟨Nat.le_trans h.room hq.1,hq.2⟩) fun _ _=>rfl⟩
  ·obtain⟨f1,f2,f3⟩:=qSO q hi hj hne A c m;rw[f1,f2,f3];exact (h.done j hj (by omega)).butR hb (by omega)
 ·obtain⟨f1,f2,f3⟩:=qSO q hi hj (by omega) A c m;rw[f1,f2,f3];exact h.rest j hj (by omega)
theorem CopyAt.then {w W W':World}{cb:Nat}{p q:Pk}{i:Nat}(h:CopyAt w cb p i q W)(hb:Below W.heap.size W W') : CopyAt w cb p i q W' := by
 have hR:ButR cb W W':=.of hb;exact⟨h.box.then hb,h.alike,h.prov.butR hR (by omega),h.obs.butR hR (by omega),h.files.butR hR (by omega),fun j hj hji=>(h.done j hj hji).butR hR (by omega),h.rest,h.old.trans (hb.mono h.old.size),h.base,Nat.le_trans h.room hb.size⟩
theorem CopyAt.start {w W:World}{p:Pk}{cb:Nat}(hx:qAJ cb p W)(hb:Below w.heap.size w W)(hc:w.heap.size<=cb)(hr:cb+2<=W.heap.size){A2 A5 A8:Option Addr}{k2 k5 k8:Nat}(o2:Own encD 5 (cb+2) 37 (.slice A2 p.prov.length k2) p.prov W)(o5:Own encD 5 (cb+2) 37 (.slice A5 p.obs.length k5) p.obs W)(o8:Own qER 1 (cb+2) 9 (.slice A8 p.files.length k8) p.files W) :
  CopyAt w cb p 0 { p with provA:=A2,provC:=k2,obsA:=A5,obsC:=k5,filesA:=A8,filesC:=k8 } (((W.setCell ⟨cb,6,none⟩ (.slice A2 p.prov.length k2)).setCell ⟨cb,9,none⟩ (.slice A5 p.obs.length k5)).setCell ⟨cb,14,none⟩ (.slice A8 p.files.length k8)):=by
 have hR:=(((ButR.refl cb W).set 6 (.slice A2 p.prov.length k2)).set 9 (.slice A5 p.obs.length k5)).set 14 (.slice A8 p.files.length k8);refine⟨((hx.set_prov A2 k2 p.prov).set_obs A5 k5 p.obs).set_files A8 k8 p.files,⟨rfl,rfl,rfl,rfl,rfl,rfl,rfl,rfl,rfl,rfl,rfl,rfl,rfl,rfl,rfl⟩,o2.butR hR (by omega),o5.butR hR (by omega),o8.butR hR (by omega),fun j _ h=>absurd h (Nat.not_lt_zero _),fun j hj _ => ?_,hb.trans (hR.below hc hx.2.2),hc,Nat.le_trans hr hR.size⟩;obtain rfl|rfl|rfl|rfl|rfl|rfl:j=0 \/ j=1 \/ j=2 \/ j=3 \/ j=4 \/ j=5:=by omega
 all_goals exact⟨rfl,rfl,rfl⟩
theorem CopyAt.row {w W:World}{cb:Nat}{p q:Pk}{i:Nat}(h:CopyAt w cb p i q W)(hL:p.Laid w.heap.size w)(hi:i<6) : Rd encR 7 W.heap.size (q.rA i) (q.rC i) (sixL q i) W := by
 obtain⟨e1,e2,e3⟩:=h.rest i hi lR;rw[e1,e2,e3];exact ((qMZ hL hi).1.below h.old).more h.old.size
theorem CopyAt.trees {w W:World}{cb:Nat}{p q:Pk}{i:Nat}(h:CopyAt w cb p i q W)(hL:p.Laid w.heap.size w)(hi:i<6):∀t∈sixL q i,RTree w.heap.size w t := by
 obtain⟨e1,e2,e3⟩:=h.rest i hi lR;rw[e1];exact (qMZ hL hi).2
theorem qWR {cb:Nat}{q:Pk}{i:Nat}{A:Option Addr}{c:Nat}{m:List RV}{W:World}(h:qAJ cb (q.setR i A c m) W)(hi:i<6) : W.cell? ⟨cb,offR i,none⟩=some (.slice A m.length c)/\W.frozen? ⟨cb,offR i,none⟩=false := by
 obtain⟨e1,e2,e3⟩:=qSP q hi A c m;have h1:=qQ3 h hi;rw[e1,e2,e3]at h1;exact⟨h1,h.2.1 _ (qRB i)⟩
theorem qPO.butR {gp cb n R:Nat}{offs:Nat->Nat}{W W':World}(h:qPO gp cb offs n W)(hb:ButR R W W')(hr:gp≠R) : qPO gp cb offs n W' := ⟨Nat.lt_of_lt_of_le h.1 hb.size,h.2.1,fun i hi=>(hb.cellK (p := ⟨gp,i,none⟩) h.1 hr).trans (h.2.2 i hi)⟩
theorem ButR.setL_new {R g:Nat}{a:World}(hg:a.heap.size<=g):∀(l:List Value) (k:Nat) (w:World),ButR R a w->ButR R a (setL g k l w)
 | [],_,w,h=>h
 | v::l,k,w,h=>ButR.setL_new hg l (k+1) _ (h.setNew (p:=⟨g,k,none⟩) hg v)
theorem CopyAt.pkOwn {w W:World}{cb:Nat}{p q:Pk}{i:Nat}(h:CopyAt w cb p i q W)(hi:6<=i) : PkOwn (cb+2) q W :=
 ⟨h.prov,h.obs,h.files,h.done 0 (by omega) (by omega),h.done 1 (by omega) (by omega),h.done 2 (by omega) (by omega),h.done 3 (by omega) (by omega),h.done 4 (by omega) (by omega),h.done 5 (by omega) (by omega)⟩
