/- TrIs2 -/
import Derived.Test.YteobmfpbgnmffaaGreatDoorT26
set_option linter.unusedVariables false
set_option maxHeartbeats 16000000
set_option maxRecDepth 100000
open Go.Lib (hid)
set_option linter.unusedSimpArgs false
namespace Go.Proofs.YteobmfpbgnmffaaGreatDoor
open Go.RowKit Go.Shelf
def trP1 (T rb N rx b o c  : Nat)(i:Nat)(v:Value)(W:World) : Prop := match i with
 |0=>v=.pointer (some ⟨rx,6,none⟩)
 |1=>v=.slice (some ⟨b,o,none⟩) 2 c
 |2=>v=.int .i64 2
 | 3|4=>v=.bool true
 | 5|6|7|8|9|10=>v=undef
 |11=>v=.bool true
 | _=>False
theorem qST (T rb N rx b o c  : Nat):∀i v w w',trP1 T rb N rx b o c    i v w->Below w.heap.size w w'->trP1 T rb N rx b o c    i v w' := by
 intro i v w w' h hb
 match i,h with
 |0,h|1,h|2,h|3,h|4,h|5,h|6,h|7,h|8,h|9,h|10,h|11,h=>exact h
 | (k+12),h=>exact h.elim
def trP2 (T rb N rx b o c o0:Nat)(S0:RV)(r0:Bool)(i:Nat)(v:Value)(W:World) : Prop := match i with
 |0=>v=.agg #[.pointer (some ⟨T,0,none⟩),.slice (some ⟨rb,0,none⟩) N N]
 |1=>v=.pointer (some ⟨rx,6,none⟩)
 |2=>v=.slice (some ⟨b,o,none⟩) 2 c
 |3=>v=.pointer (some ⟨b,o0,none⟩)
 |4=>v=.agg #[.int .u8 S0.kind,.string (bs S0.dep.name),.int .u8 S0.dep.op,.int .i64 S0.dep.evr.epoch,.string (bs S0.dep.evr.ver),.string (bs S0.dep.evr.rel),.slice S0.addr S0.args.length S0.cap]
 |5=>v=.bool r0
 | _=>False
theorem qSU (T rb N rx b o c o0:Nat)(S0:RV)(r0:Bool):∀i v w w',trP2 T rb N rx b o c o0 S0 r0 i v w->Below w.heap.size w w'->trP2 T rb N rx b o c o0 S0 r0 i v w' := by
 intro i v w w' h hb
 match i,h with
 |0,h|1,h|2,h|3,h|4,h|5,h=>exact h
 | (k+6),h=>exact h.elim
def trP3 (T rb N rx b o c o1:Nat)(S1:RV)(r1:Bool)(i:Nat)(v:Value)(W:World) : Prop := match i with
 |0=>v=.agg #[.pointer (some ⟨T,0,none⟩),.slice (some ⟨rb,0,none⟩) N N]
 |1=>v=.pointer (some ⟨rx,6,none⟩)
 |2=>v=.slice (some ⟨b,o,none⟩) 2 c
 |3=>v=.pointer (some ⟨b,o1,none⟩)
 |4=>v=.agg #[.int .u8 S1.kind,.string (bs S1.dep.name),.int .u8 S1.dep.op,.int .i64 S1.dep.evr.epoch,.string (bs S1.dep.evr.ver),.string (bs S1.dep.evr.rel),.slice S1.addr S1.args.length S1.cap]
 |5=>v=.bool r1
 | _=>False
theorem qSV (T rb N rx b o c o1:Nat)(S1:RV)(r1:Bool):∀i v w w',trP3 T rb N rx b o c o1 S1 r1 i v w->Below w.heap.size w w'->trP3 T rb N rx b o c o1 S1 r1 i v w' := by
 intro i v w w' h hb
 match i,h with
 |0,h|1,h|2,h|3,h|4,h|5,h=>exact h
 | (k+6),h=>exact h.elim
def trP4 (T rb N rx b o c o2:Nat)(S2:RV)(r2:Bool)(i:Nat)(v:Value)(W:World) : Prop := match i with
 |0=>v=.pointer (some ⟨rx,6,none⟩)
 |1=>v=.slice (some ⟨b,o,none⟩) 3 c
 |2=>v=.int .i64 3
 | 3|4=>v=.bool false
 |5=>v=.agg #[.pointer (some ⟨T,0,none⟩),.slice (some ⟨rb,0,none⟩) N N]
 |6=>v=.pointer (some ⟨rx,6,none⟩)
 |7=>v=.slice (some ⟨b,o,none⟩) 3 c
 |8=>v=.pointer (some ⟨b,o2,none⟩)
 |9=>v=.agg #[.int .u8 S2.kind,.string (bs S2.dep.name),.int .u8 S2.dep.op,.int .i64 S2.dep.evr.epoch,.string (bs S2.dep.evr.ver),.string (bs S2.dep.evr.rel),.slice S2.addr S2.args.length S2.cap]
 |10=>v=.bool r2
 |11=>v=.bool r2
 | _=>False
theorem qSW (T rb N rx b o c o2:Nat)(S2:RV)(r2:Bool):∀i v w w',trP4 T rb N rx b o c o2 S2 r2 i v w->Below w.heap.size w w'->trP4 T rb N rx b o c o2 S2 r2 i v w' := by
 intro i v w w' h hb
 match i,h with
 |0,h|1,h|2,h|3,h|4,h|5,h|6,h|7,h|8,h|9,h|10,h|11,h=>exact h
 | (k+12),h=>exact h.elim
def trP5 (T rb N rx b o c o0:Nat)(S0:RV)(r0:Bool)(i:Nat)(v:Value)(W:World) : Prop := match i with
 |0=>v=.agg #[.pointer (some ⟨T,0,none⟩),.slice (some ⟨rb,0,none⟩) N N]
 |1=>v=.pointer (some ⟨rx,6,none⟩)
 |2=>v=.slice (some ⟨b,o,none⟩) 3 c
 |3=>v=.pointer (some ⟨b,o0,none⟩)
 |4=>v=.agg #[.int .u8 S0.kind,.string (bs S0.dep.name),.int .u8 S0.dep.op,.int .i64 S0.dep.evr.epoch,.string (bs S0.dep.evr.ver),.string (bs S0.dep.evr.rel),.slice S0.addr S0.args.length S0.cap]
 |5=>v=.bool r0
 | _=>False
theorem qSX (T rb N rx b o c o0:Nat)(S0:RV)(r0:Bool):∀i v w w',trP5 T rb N rx b o c o0 S0 r0 i v w->Below w.heap.size w w'->trP5 T rb N rx b o c o0 S0 r0 i v w' := by
 intro i v w w' h hb
 match i,h with
 |0,h|1,h|2,h|3,h|4,h|5,h=>exact h
 | (k+6),h=>exact h.elim
def trP6 (T rb N rx b o c o1:Nat)(S1:RV)(r1:Bool)(i:Nat)(v:Value)(W:World) : Prop := match i with
 |0=>v=.agg #[.pointer (some ⟨T,0,none⟩),.slice (some ⟨rb,0,none⟩) N N]
 |1=>v=.pointer (some ⟨rx,6,none⟩)
 |2=>v=.slice (some ⟨b,o,none⟩) 3 c
 |3=>v=.pointer (some ⟨b,o1,none⟩)
 |4=>v=.agg #[.int .u8 S1.kind,.string (bs S1.dep.name),.int .u8 S1.dep.op,.int .i64 S1.dep.evr.epoch,.string (bs S1.dep.evr.ver),.string (bs S1.dep.evr.rel),.slice S1.addr S1.args.length S1.cap]
 |5=>v=.bool r1
 | _=>False
theorem qSY (T rb N rx b o c o1:Nat)(S1:RV)(r1:Bool):∀i v w w',trP6 T rb N rx b o c o1 S1 r1 i v w->Below w.heap.size w w'->trP6 T rb N rx b o c o1 S1 r1 i v w' := by
 intro i v w w' h hb
 match i,h with
 |0,h|1,h|2,h|3,h|4,h|5,h=>exact h
 | (k+6),h=>exact h.elim
def trP7 (T rb N rx b o c  : Nat)(i:Nat)(v:Value)(W:World) : Prop := match i with
 |0=>v=.pointer (some ⟨rx,6,none⟩)
 |1=>v=.slice (some ⟨b,o,none⟩) 2 c
 |2=>v=.int .i64 2
 | 3|4=>v=.bool false
 | 5|6|7|8|9|10=>v=undef
 |11=>v=.bool false
 | _=>False
theorem qSZ (T rb N rx b o c  : Nat):∀i v w w',trP7 T rb N rx b o c    i v w->Below w.heap.size w w'->trP7 T rb N rx b o c    i v w' := by
 intro i v w w' h hb
 match i,h with
 |0,h|1,h|2,h|3,h|4,h|5,h|6,h|7,h|8,h|9,h|10,h|11,h=>exact h
 | (k+12),h=>exact h.elim
def trP8 (T rb N rx b o c o0:Nat)(S0:RV)(r0:Bool)(i:Nat)(v:Value)(W:World) : Prop := match i with
 |0=>v=.agg #[.pointer (some ⟨T,0,none⟩),.slice (some ⟨rb,0,none⟩) N N]
 |1=>v=.pointer (some ⟨rx,6,none⟩)
 |2=>v=.slice (some ⟨b,o,none⟩) 2 c
 |3=>v=.pointer (some ⟨b,o0,none⟩)
 |4=>v=.agg #[.int .u8 S0.kind,.string (bs S0.dep.name),.int .u8 S0.dep.op,.int .i64 S0.dep.evr.epoch,.string (bs S0.dep.evr.ver),.string (bs S0.dep.evr.rel),.slice S0.addr S0.args.length S0.cap]
 |5=>v=.bool r0
 | _=>False
theorem qT0 (T rb N rx b o c o0:Nat)(S0:RV)(r0:Bool):∀i v w w',trP8 T rb N rx b o c o0 S0 r0 i v w->Below w.heap.size w w'->trP8 T rb N rx b o c o0 S0 r0 i v w' := by
 intro i v w w' h hb
 match i,h with
 |0,h|1,h|2,h|3,h|4,h|5,h=>exact h
 | (k+6),h=>exact h.elim
def trP9 (T rb N rx b o c o1:Nat)(S1:RV)(r1:Bool)(i:Nat)(v:Value)(W:World) : Prop := match i with
 |0=>v=.agg #[.pointer (some ⟨T,0,none⟩),.slice (some ⟨rb,0,none⟩) N N]
 |1=>v=.pointer (some ⟨rx,6,none⟩)
 |2=>v=.slice (some ⟨b,o,none⟩) 2 c
 |3=>v=.pointer (some ⟨b,o1,none⟩)
 |4=>v=.agg #[.int .u8 S1.kind,.string (bs S1.dep.name),.int .u8 S1.dep.op,.int .i64 S1.dep.evr.epoch,.string (bs S1.dep.evr.ver),.string (bs S1.dep.evr.rel),.slice S1.addr S1.args.length S1.cap]
 |5=>v=.bool r1
 | _=>False
theorem qT1 (T rb N rx b o c o1:Nat)(S1:RV)(r1:Bool):∀i v w w',trP9 T rb N rx b o c o1 S1 r1 i v w->Below w.heap.size w w'->trP9 T rb N rx b o c o1 S1 r1 i v w' := by
 intro i v w w' h hb
 match i,h with
 |0,h|1,h|2,h|3,h|4,h|5,h=>exact h
 | (k+6),h=>exact h.elim
def qIP (T rb N rx b o c o2:Nat)(S2:RV)(r2:Bool)(i:Nat)(v:Value)(W:World) : Prop := match i with
 |0=>v=.pointer (some ⟨rx,6,none⟩)
 |1=>v=.slice (some ⟨b,o,none⟩) 3 c
 |2=>v=.int .i64 3
 | 3|4=>v=.bool true
 |5=>v=.agg #[.pointer (some ⟨T,0,none⟩),.slice (some ⟨rb,0,none⟩) N N]
 |6=>v=.pointer (some ⟨rx,6,none⟩)
 |7=>v=.slice (some ⟨b,o,none⟩) 3 c
 |8=>v=.pointer (some ⟨b,o2,none⟩)
 |9=>v=.agg #[.int .u8 S2.kind,.string (bs S2.dep.name),.int .u8 S2.dep.op,.int .i64 S2.dep.evr.epoch,.string (bs S2.dep.evr.ver),.string (bs S2.dep.evr.rel),.slice S2.addr S2.args.length S2.cap]
 |10=>v=.bool r2
 |11=>v=.bool r2
 | _=>False
theorem qPD (T rb N rx b o c o2:Nat)(S2:RV)(r2:Bool):∀i v w w',qIP T rb N rx b o c o2 S2 r2 i v w->Below w.heap.size w w'->qIP T rb N rx b o c o2 S2 r2 i v w' := by
 intro i v w w' h hb
 match i,h with
 |0,h|1,h|2,h|3,h|4,h|5,h|6,h|7,h|8,h|9,h|10,h|11,h=>exact h
 | (k+12),h=>exact h.elim
def qVN (T rb N rx b o c o0:Nat)(S0:RV)(r0:Bool)(i:Nat)(v:Value)(W:World) : Prop := match i with
 |0=>v=.agg #[.pointer (some ⟨T,0,none⟩),.slice (some ⟨rb,0,none⟩) N N]
 |1=>v=.pointer (some ⟨rx,6,none⟩)
 |2=>v=.slice (some ⟨b,o,none⟩) 3 c
 |3=>v=.pointer (some ⟨b,o0,none⟩)
 |4=>v=.agg #[.int .u8 S0.kind,.string (bs S0.dep.name),.int .u8 S0.dep.op,.int .i64 S0.dep.evr.epoch,.string (bs S0.dep.evr.ver),.string (bs S0.dep.evr.rel),.slice S0.addr S0.args.length S0.cap]
 |5=>v=.bool r0
 | _=>False
theorem qPE (T rb N rx b o c o0:Nat)(S0:RV)(r0:Bool):∀i v w w',qVN T rb N rx b o c o0 S0 r0 i v w->Below w.heap.size w w'->qVN T rb N rx b o c o0 S0 r0 i v w' := by
 intro i v w w' h hb
 match i,h with
 |0,h|1,h|2,h|3,h|4,h|5,h=>exact h
 | (k+6),h=>exact h.elim
def qVO (T rb N rx b o c o1:Nat)(S1:RV)(r1:Bool)(i:Nat)(v:Value)(W:World) : Prop := match i with
 |0=>v=.agg #[.pointer (some ⟨T,0,none⟩),.slice (some ⟨rb,0,none⟩) N N]
 |1=>v=.pointer (some ⟨rx,6,none⟩)
 |2=>v=.slice (some ⟨b,o,none⟩) 3 c
 |3=>v=.pointer (some ⟨b,o1,none⟩)
 |4=>v=.agg #[.int .u8 S1.kind,.string (bs S1.dep.name),.int .u8 S1.dep.op,.int .i64 S1.dep.evr.epoch,.string (bs S1.dep.evr.ver),.string (bs S1.dep.evr.rel),.slice S1.addr S1.args.length S1.cap]
 |5=>v=.bool r1
 | _=>False
theorem qPF (T rb N rx b o c o1:Nat)(S1:RV)(r1:Bool):∀i v w w',qVO T rb N rx b o c o1 S1 r1 i v w->Below w.heap.size w w'->qVO T rb N rx b o c o1 S1 r1 i v w' := by
 intro i v w w' h hb
 match i,h with
 |0,h|1,h|2,h|3,h|4,h|5,h=>exact h
 | (k+6),h=>exact h.elim
theorem qAV {B:Nat}{W:World}{A:Option Addr}{cap:Nat}{l:List RV}{b o:Nat}(h:RRow B W A cap l)(hA:A=some ⟨b,o,none⟩){k:Nat}(hk:k<l.length) : W.cell? ⟨b,o+k * 7,none⟩=some (.int .u8 l[k].kind)/\W.cell? ⟨b,o+k * 7+1,none⟩=some (.string (bs l[k].dep.name))/\W.cell? ⟨b,o+k * 7+2,none⟩=some (.int .u8 l[k].dep.op)/\W.cell? ⟨b,o+k * 7+3,none⟩=some (.int .i64 l[k].dep.evr.epoch)/\W.cell? ⟨b,o+k * 7+4,none⟩=some (.string (bs l[k].dep.evr.ver))/\W.cell? ⟨b,o+k * 7+5,none⟩=some (.string (bs l[k].dep.evr.rel))/\W.cell? ⟨b,o+k * 7+6,none⟩=some (.slice l[k].addr l[k].args.length l[k].cap) := by
 obtain⟨b',o',e,_,hc⟩:=h.at_ hk;rw[hA]at e;cases e
 exact hc
section
variable {T X N:Nat}{L:List Pk}
theorem qU6 (R:RV)(hn:R.args.length=2)(hR:∀a∈R.args,IsOk T X N L a)(rb:Nat)(f:Nat->Bool)(U:World)(hA:AskT T X N rb L f U)(hT:RTree U.heap.size U R) :
  Calls Tryz.prog 139 #[askW T rb N,R.val] U fun e w'=>e=.returned (.bool (if Tr.sat N (pvL L) (R.args[1]'(by omega)).tree f then Tr.sat N (pvL L) (R.args[0]'(by omega)).tree f else true))/\Below U.heap.size U w':=by
 have b1:=(Below.refl U.heap.size U).alloc lR (.cells #[.pointer (some ⟨T,0,none⟩),.slice (some ⟨rb,0,none⟩) N N] 145);have b2:=b1.alloc (by simp) (.cells #[.int .u8 R.kind,.string (bs R.dep.name),.int .u8 R.dep.op,.int .i64 R.dep.evr.epoch,.string (bs R.dep.evr.ver),.string (bs R.dep.evr.rel),.slice R.addr R.args.length R.cap] 39);have a1:=(ABox.new T rb N U 145).then (bR.alloc lR (.cells #[.int .u8 R.kind,.string (bs R.dep.name),.int .u8 R.dep.op,.int .i64 R.dep.evr.epoch,.string (bs R.dep.evr.ver),.string (bs R.dep.evr.rel),.slice R.addr R.args.length R.cap] 39));obtain⟨b,o,hA0,_⟩:=(show RRow U.heap.size U R.addr R.cap R.args from⟨hT.row,hT.sub⟩).at_ (k:=0) (by omega)
 have IS0:=hid (fun W' (hb:Below U.heap.size U W')=>hR (R.args[0]'(by omega)) (List.getElem_mem _) rb f W' (hA.then hb) (((hT.sub _ (List.getElem_mem _)).keeps hb).more hb.size));have RC0:=hid (fun W' (hb:Below U.heap.size U W')=>qAV (((show RRow U.heap.size U R.addr R.cap R.args from⟨hT.row,hT.sub⟩).below hb)) hA0 (k:=0) (by omega));obtain⟨o0,ho0⟩:∃o0,o0=o+0 * 7:=⟨_,rfl⟩;rw[<- ho0]at RC0;have HO0:=hid ho0;have IS1:=hid (fun W' (hb:Below U.heap.size U W')=>hR (R.args[1]'(by omega)) (List.getElem_mem _) rb f W' (hA.then hb) (((hT.sub _ (List.getElem_mem _)).keeps hb).more hb.size));have RC1:=hid (fun W' (hb:Below U.heap.size U W')=>qAV (((show RRow U.heap.size U R.addr R.cap R.args from⟨hT.row,hT.sub⟩).below hb)) hA0 (k:=1) (by omega));obtain⟨o1,ho1⟩:∃o1,o1=o+1 * 7:=⟨_,rfl⟩;rw[<- ho1]at RC1;have HO1:=hid ho1;unfold askW RV.val at IS0 IS1;unfold askW RV.val;clear hA hT hR b1;generalize (R.args[0]'(by omega))=S0 at *;generalize Tr.sat N (pvL L) S0.tree f=r0 at *;generalize (R.args[1]'(by omega))=S1 at *;generalize Tr.sat N (pvL L) S1.tree f=r1 at *;clear ho0 ho1;rw[hA0]at a1 b2 |-;rw[hn]at a1 b2 |-;clear hn
 go_enter Tryz.func139,Tryz.ntmps139
 go_wp2_with fail
 obtain⟨V,hV⟩:∃V,V=(U.alloc (.cells #[.pointer (some ⟨T,0,none⟩),.slice (some ⟨rb,0,none⟩) N N] 145)).alloc (.cells #[.int .u8 R.kind,.string (bs R.dep.name),.int .u8 R.dep.op,.int .i64 R.dep.evr.epoch,.string (bs R.dep.evr.ver),.string (bs R.dep.evr.rel),.slice (some ⟨b,o,none⟩) 2 R.cap] 39):=⟨_,rfl⟩;have RX6:=hid (show V.cell? ⟨U.heap.size+1,6,none⟩=some (.slice (some ⟨b,o,none⟩) 2 R.cap) by rw[hV];simp[go_sem]);have RXL:=hid (show U.heap.size+1<V.heap.size by rw[hV];simp);rw[<- hV]at a1 b2 |-;have AX:=hid a1;have BZ:=hid b2;clear hV a1 b2;have RC1:=hid (fun W' (hb:Below V.heap.size V W')=>RC1.out W' (BZ.out.trans (hb.mono BZ.out.size)));have IS1:=hid (fun W' (hb:Below V.heap.size V W')=>IS1.out W' (BZ.out.trans (hb.mono BZ.out.size)));have RC0:=hid (fun W' (hb:Below V.heap.size V W')=>RC0.out W' (BZ.out.trans (hb.mono BZ.out.size)));have IS0:=hid (fun W' (hb:Below V.heap.size V W')=>IS0.out W' (BZ.out.trans (hb.mono BZ.out.size)));generalize R.cap=c at *;have BV:=hid (Below.refl V.heap.size V);refine qA6 (PP:=trP3 T rb N (U.heap.size+1) b o c o1 S1 r1) 6 rfl (by kernel_rfl) (by kernel_rfl) (by decide) (by decide) (qSV T rb N (U.heap.size+1) b o c o1 S1 r1) (fun _=>undef) (by simp[qA4,gQ]) ?_ ?_
 ·intro i o vs W hi ho he hBW K hK;simp only[gT,qA4,gQ]at hK |-;have BW:=hid (BV.out.trans (hBW.mono BV.out.size));have AXW:=hid (AX.out.then BW.out);have R6W:=hid ((BW.out.cell (p:=⟨U.heap.size+1,6,none⟩) RXL.out).trans RX6.out);obtain rfl|rfl|rfl|rfl|rfl|rfl:=c6_ hi<;>simp only[gE]at ho<;>subst ho
  ·rw[if_pos (by rfl)];simp only[gQ]at hK;have HK:=hid hK;clear hK he hi hBW;have a0:=AXW.out.2.1;have a1:=AXW.out.2.2;go_simp;exact HK.out _ _ rfl bR
  ·rw[if_pos (by rfl)];simp only[gQ]at hK;have HK:=hid hK;clear hK he hi hBW;go_simp;exact HK.out _ _ (by first|rfl|simp[trP3]) bR
  ·have e1:vs 1=_:=dq he 1;rw[e1]at hK |-;rw[if_pos (by rfl)];simp only[gQ]at hK;have HK:=hid hK;clear hK he hi hBW;have cx:=R6W.out;go_simp;exact HK.out _ _ rfl bR
  ·have e2:vs 2=_:=dq he 2;rw[e2]at hK |-;rw[if_pos (by rfl)];simp only[gQ]at hK;have HK:=hid hK;clear hK he hi hBW;go_simp;exact HK.out _ _ (by rw[HO1.out];rfl) bR
  ·have e3:vs 3=_:=dq he 3;rw[e3]at hK |-;rw[if_pos (by rfl)];simp only[gQ]at hK;have HK:=hid hK;clear hK he hi hBW;obtain⟨d0,d1,d2,d3,d4,d5,d6⟩:=RC1.out W BW.out;go_simp;exact HK.out _ _ rfl bR
  ·have e0:vs 0=_:=dq he 0;rw[e0]at hK |-;have e4:vs 4=_:=dq he 4;rw[e4]at hK |-;rw[if_pos (by rfl)];simp only[gQ]at hK;have HK:=hid hK;clear hK he hi hBW;have ISW:=IS1.out W BW.out;go_simp;go_at_call 95
   refine ISW.mono ?_;rintro en w9 ⟨rfl,h⟩;go_simp;exact HK.out _ _ rfl h
 ·intro vs W hall hBW;have eo:vs 5=.bool r1:=hall 5 (by decide);simp only[gT,qA4,qAB,qAA,gP];rw[eo];generalize vs 0=y0,vs 1=y1,vs 2=y2,vs 3=y3,vs 4=y4;have BX:=hid (BV.out.trans (hBW.mono BV.out.size));clear hall hBW eo;cases r1
  ·have BX2:=hid BX.out;go_wp2_with fail
   refine qA6 (PP:=trP1 T rb N (U.heap.size+1) b o c   ) 12 rfl (by kernel_rfl) (by kernel_rfl) (by decide) (by decide) (qST T rb N (U.heap.size+1) b o c   ) (fun _=>undef) (by simp[qA4,gQ]) ?_ ?_
   ·intro i o vs W hi ho he hBW K hK;simp only[gT,qA4,gQ]at hK |-;have BW:=hid (BX2.out.trans (hBW.mono BX2.out.size));have AXW:=hid (AX.out.then BW.out);have R6W:=hid ((BW.out.cell (p:=⟨U.heap.size+1,6,none⟩) RXL.out).trans RX6.out);obtain rfl|rfl|rfl|rfl|rfl|rfl|rfl|rfl|rfl|rfl|rfl|rfl:=c12_ hi<;>simp only[gE]at ho<;>subst ho
    ·rw[if_pos (by rfl)];simp only[gQ]at hK;have HK:=hid hK;clear hK he hi hBW;go_simp;exact HK.out _ _ (by first|rfl|simp[trP1]) bR
    ·have e0:vs 0=_:=dq he 0;rw[e0]at hK |-;rw[if_pos (by rfl)];simp only[gQ]at hK;have HK:=hid hK;clear hK he hi hBW;have cx:=R6W.out;go_simp;exact HK.out _ _ rfl bR
    ·have e1:vs 1=_:=dq he 1;rw[e1]at hK |-;rw[if_pos (by rfl)];simp only[gQ]at hK;have HK:=hid hK;clear hK he hi hBW;go_simp;exact HK.out _ _ (by first|rfl|simp[trP1]) bR
    ·have e2:vs 2=_:=dq he 2;rw[e2]at hK |-;rw[if_pos (by rfl)];simp only[gQ]at hK;have HK:=hid hK;clear hK he hi hBW;go_simp;exact HK.out _ _ (by first|rfl|simp[trP1]) bR
    ·have e3:vs 3=_:=dq he 3;rw[e3]at hK |-;rw[if_pos (by rfl)];simp only[gQ]at hK;have HK:=hid hK;clear hK he hi hBW;go_simp;exact HK.out _ _ (by first|rfl|simp[trP1]) bR
    iterate 2 ·have e4:vs 4=_:=gd he 4;rw[e4]at hK |-;refine wN bF ?_;exact hK _ _ rfl bR
    ·have e6:vs 6=_:=dq he 6;rw[e6]at hK |-;have e4:vs 4=_:=gd he 4;rw[e4]at hK |-;refine wN bF ?_;exact hK _ _ rfl bR
    ·have e7:vs 7=_:=dq he 7;rw[e7]at hK |-;have e4:vs 4=_:=gd he 4;rw[e4]at hK |-;refine wN bF ?_;exact hK _ _ rfl bR
    ·have e8:vs 8=_:=dq he 8;rw[e8]at hK |-;have e4:vs 4=_:=gd he 4;rw[e4]at hK |-;refine wN bF ?_;exact hK _ _ rfl bR
    ·have e5:vs 5=_:=dq he 5;rw[e5]at hK |-;have e9:vs 9=_:=dq he 9;rw[e9]at hK |-;have e4:vs 4=_:=gd he 4;rw[e4]at hK |-;refine wN bF ?_;exact hK _ _ rfl bR
    ·have e4:vs 4=_:=dq he 4;rw[e4]at hK |-;have e10:vs 10=_:=dq he 10;rw[e10]at hK |-;rw[if_pos (by rfl)];simp only[gQ]at hK;have HK:=hid hK;clear hK he hi hBW;go_simp;exact HK.out _ _ (by first|rfl|simp[trP1]) bR
   ·intro vs W hall hBW;have eo:vs 11=.bool true:=hall 11 (by decide);simp only[gT,qA4,qAB,qAA,gP];rw[eo];generalize vs 0=y0,vs 1=y1,vs 2=y2,vs 3=y3,vs 4=y4,vs 5=y5,vs 6=y6,vs 7=y7,vs 8=y8,vs 9=y9,vs 10=y10;have BX:=hid (BX2.out.trans (hBW.mono BX2.out.size));clear hall hBW eo;go_wp2_with fail
    go_ret;exact⟨by simp,BZ.out.trans (BX.out.mono BZ.out.size)⟩
  ·have BX2:=hid BX.out;go_wp2_with fail
   refine qA6 (PP:=trP2 T rb N (U.heap.size+1) b o c o0 S0 r0) 6 rfl (by kernel_rfl) (by kernel_rfl) (by decide) (by decide) (qSU T rb N (U.heap.size+1) b o c o0 S0 r0) (fun _=>undef) (by simp[qA4,gQ]) ?_ ?_
   ·intro i o vs W hi ho he hBW K hK;simp only[gT,qA4,gQ]at hK |-;have BW:=hid (BX2.out.trans (hBW.mono BX2.out.size));have AXW:=hid (AX.out.then BW.out);have R6W:=hid ((BW.out.cell (p:=⟨U.heap.size+1,6,none⟩) RXL.out).trans RX6.out);obtain rfl|rfl|rfl|rfl|rfl|rfl:=c6_ hi<;>simp only[gE]at ho<;>subst ho
    ·rw[if_pos (by rfl)];simp only[gQ]at hK;have HK:=hid hK;clear hK he hi hBW;have a0:=AXW.out.2.1;have a1:=AXW.out.2.2;go_simp;exact HK.out _ _ rfl bR
    ·rw[if_pos (by rfl)];simp only[gQ]at hK;have HK:=hid hK;clear hK he hi hBW;go_simp;exact HK.out _ _ (by first|rfl|simp[trP2]) bR
    ·have e1:vs 1=_:=dq he 1;rw[e1]at hK |-;rw[if_pos (by rfl)];simp only[gQ]at hK;have HK:=hid hK;clear hK he hi hBW;have cx:=R6W.out;go_simp;exact HK.out _ _ rfl bR
    ·have e2:vs 2=_:=dq he 2;rw[e2]at hK |-;rw[if_pos (by rfl)];simp only[gQ]at hK;have HK:=hid hK;clear hK he hi hBW;go_simp;exact HK.out _ _ (by rw[HO0.out];rfl) bR
    ·have e3:vs 3=_:=dq he 3;rw[e3]at hK |-;rw[if_pos (by rfl)];simp only[gQ]at hK;have HK:=hid hK;clear hK he hi hBW;obtain⟨d0,d1,d2,d3,d4,d5,d6⟩:=RC0.out W BW.out;go_simp;exact HK.out _ _ rfl bR
    ·have e0:vs 0=_:=dq he 0;rw[e0]at hK |-;have e4:vs 4=_:=dq he 4;rw[e4]at hK |-;rw[if_pos (by rfl)];simp only[gQ]at hK;have HK:=hid hK;clear hK he hi hBW;have ISW:=IS0.out W BW.out;go_simp;go_at_call 95
     refine ISW.mono ?_;rintro en w9 ⟨rfl,h⟩;go_simp;exact HK.out _ _ rfl h
   ·intro vs W hall hBW;have eo:vs 5=.bool r0:=hall 5 (by decide);simp only[gT,qA4,qAB,qAA,gP];rw[eo];generalize vs 0=y0,vs 1=y1,vs 2=y2,vs 3=y3,vs 4=y4;have BX:=hid (BX2.out.trans (hBW.mono BX2.out.size));clear hall hBW eo;go_wp2_with fail
    go_ret;exact⟨by simp,BZ.out.trans (BX.out.mono BZ.out.size)⟩
theorem qU7 (R:RV)(hn:R.args.length=3)(hR:∀a∈R.args,IsOk T X N L a)(rb:Nat)(f:Nat->Bool)(U:World)(hA:AskT T X N rb L f U)(hT:RTree U.heap.size U R) :
  Calls Tryz.prog 139 #[askW T rb N,R.val] U fun e w'=>e=.returned (.bool (if Tr.sat N (pvL L) (R.args[1]'(by omega)).tree f then Tr.sat N (pvL L) (R.args[0]'(by omega)).tree f else Tr.sat N (pvL L) (R.args[2]'(by omega)).tree f))/\Below U.heap.size U w':=by
 have b1:=(Below.refl U.heap.size U).alloc lR (.cells #[.pointer (some ⟨T,0,none⟩),.slice (some ⟨rb,0,none⟩) N N] 145);have b2:=b1.alloc (by simp) (.cells #[.int .u8 R.kind,.string (bs R.dep.name),.int .u8 R.dep.op,.int .i64 R.dep.evr.epoch,.string (bs R.dep.evr.ver),.string (bs R.dep.evr.rel),.slice R.addr R.args.length R.cap] 39);have a1:=(ABox.new T rb N U 145).then (bR.alloc lR (.cells #[.int .u8 R.kind,.string (bs R.dep.name),.int .u8 R.dep.op,.int .i64 R.dep.evr.epoch,.string (bs R.dep.evr.ver),.string (bs R.dep.evr.rel),.slice R.addr R.args.length R.cap] 39));obtain⟨b,o,hA0,_⟩:=(show RRow U.heap.size U R.addr R.cap R.args from⟨hT.row,hT.sub⟩).at_ (k:=0) (by omega)
 have IS0:=hid (fun W' (hb:Below U.heap.size U W')=>hR (R.args[0]'(by omega)) (List.getElem_mem _) rb f W' (hA.then hb) (((hT.sub _ (List.getElem_mem _)).keeps hb).more hb.size));have RC0:=hid (fun W' (hb:Below U.heap.size U W')=>qAV (((show RRow U.heap.size U R.addr R.cap R.args from⟨hT.row,hT.sub⟩).below hb)) hA0 (k:=0) (by omega));obtain⟨o0,ho0⟩:∃o0,o0=o+0 * 7:=⟨_,rfl⟩;rw[<- ho0]at RC0;have HO0:=hid ho0;have IS1:=hid (fun W' (hb:Below U.heap.size U W')=>hR (R.args[1]'(by omega)) (List.getElem_mem _) rb f W' (hA.then hb) (((hT.sub _ (List.getElem_mem _)).keeps hb).more hb.size));have RC1:=hid (fun W' (hb:Below U.heap.size U W')=>qAV (((show RRow U.heap.size U R.addr R.cap R.args from⟨hT.row,hT.sub⟩).below hb)) hA0 (k:=1) (by omega));obtain⟨o1,ho1⟩:∃o1,o1=o+1 * 7:=⟨_,rfl⟩;rw[<- ho1]at RC1;have HO1:=hid ho1;have IS2:=hid (fun W' (hb:Below U.heap.size U W')=>hR (R.args[2]'(by omega)) (List.getElem_mem _) rb f W' (hA.then hb) (((hT.sub _ (List.getElem_mem _)).keeps hb).more hb.size));have RC2:=hid (fun W' (hb:Below U.heap.size U W')=>qAV (((show RRow U.heap.size U R.addr R.cap R.args from⟨hT.row,hT.sub⟩).below hb)) hA0 (k:=2) (by omega));obtain⟨o2,ho2⟩:∃o2,o2=o+2 * 7:=⟨_,rfl⟩;rw[<- ho2]at RC2;have HO2:=hid ho2;unfold askW RV.val at IS0 IS1 IS2;unfold askW RV.val;clear hA hT hR b1;generalize (R.args[0]'(by omega))=S0 at *;generalize Tr.sat N (pvL L) S0.tree f=r0 at *;generalize (R.args[1]'(by omega))=S1 at *;generalize Tr.sat N (pvL L) S1.tree f=r1 at *;generalize (R.args[2]'(by omega))=S2 at *;generalize Tr.sat N (pvL L) S2.tree f=r2 at *;clear ho0 ho1 ho2;rw[hA0]at a1 b2 |-;rw[hn]at a1 b2 |-;clear hn
 go_enter Tryz.func139,Tryz.ntmps139
 go_wp2_with fail
 obtain⟨V,hV⟩:∃V,V=(U.alloc (.cells #[.pointer (some ⟨T,0,none⟩),.slice (some ⟨rb,0,none⟩) N N] 145)).alloc (.cells #[.int .u8 R.kind,.string (bs R.dep.name),.int .u8 R.dep.op,.int .i64 R.dep.evr.epoch,.string (bs R.dep.evr.ver),.string (bs R.dep.evr.rel),.slice (some ⟨b,o,none⟩) 3 R.cap] 39):=⟨_,rfl⟩;have RX6:=hid (show V.cell? ⟨U.heap.size+1,6,none⟩=some (.slice (some ⟨b,o,none⟩) 3 R.cap) by rw[hV];simp[go_sem]);have RXL:=hid (show U.heap.size+1<V.heap.size by rw[hV];simp);rw[<- hV]at a1 b2 |-;have AX:=hid a1;have BZ:=hid b2;clear hV a1 b2;have RC2:=hid (fun W' (hb:Below V.heap.size V W')=>RC2.out W' (BZ.out.trans (hb.mono BZ.out.size)));have IS2:=hid (fun W' (hb:Below V.heap.size V W')=>IS2.out W' (BZ.out.trans (hb.mono BZ.out.size)));have RC1:=hid (fun W' (hb:Below V.heap.size V W')=>RC1.out W' (BZ.out.trans (hb.mono BZ.out.size)));have IS1:=hid (fun W' (hb:Below V.heap.size V W')=>IS1.out W' (BZ.out.trans (hb.mono BZ.out.size)));have RC0:=hid (fun W' (hb:Below V.heap.size V W')=>RC0.out W' (BZ.out.trans (hb.mono BZ.out.size)));have IS0:=hid (fun W' (hb:Below V.heap.size V W')=>IS0.out W' (BZ.out.trans (hb.mono BZ.out.size)));generalize R.cap=c at *;have BV:=hid (Below.refl V.heap.size V);refine qA6 (PP:=trP6 T rb N (U.heap.size+1) b o c o1 S1 r1) 6 rfl (by kernel_rfl) (by kernel_rfl) (by decide) (by decide) (qSY T rb N (U.heap.size+1) b o c o1 S1 r1) (fun _=>undef) (by simp[qA4,gQ]) ?_ ?_
 ·intro i o vs W hi ho he hBW K hK;simp only[gT,qA4,gQ]at hK |-;have BW:=hid (BV.out.trans (hBW.mono BV.out.size));have AXW:=hid (AX.out.then BW.out);have R6W:=hid ((BW.out.cell (p:=⟨U.heap.size+1,6,none⟩) RXL.out).trans RX6.out);obtain rfl|rfl|rfl|rfl|rfl|rfl:=c6_ hi<;>simp only[gE]at ho<;>subst ho
  ·rw[if_pos (by rfl)];simp only[gQ]at hK;have HK:=hid hK;clear hK he hi hBW;have a0:=AXW.out.2.1;have a1:=AXW.out.2.2;go_simp;exact HK.out _ _ rfl bR
  ·rw[if_pos (by rfl)];simp only[gQ]at hK;have HK:=hid hK;clear hK he hi hBW;go_simp;exact HK.out _ _ (by first|rfl|simp[trP6]) bR
  ·have e1:vs 1=_:=dq he 1;rw[e1]at hK |-;rw[if_pos (by rfl)];simp only[gQ]at hK;have HK:=hid hK;clear hK he hi hBW;have cx:=R6W.out;go_simp;exact HK.out _ _ rfl bR
  ·have e2:vs 2=_:=dq he 2;rw[e2]at hK |-;rw[if_pos (by rfl)];simp only[gQ]at hK;have HK:=hid hK;clear hK he hi hBW;go_simp;exact HK.out _ _ (by rw[HO1.out];rfl) bR
  ·have e3:vs 3=_:=dq he 3;rw[e3]at hK |-;rw[if_pos (by rfl)];simp only[gQ]at hK;have HK:=hid hK;clear hK he hi hBW;obtain⟨d0,d1,d2,d3,d4,d5,d6⟩:=RC1.out W BW.out;go_simp;exact HK.out _ _ rfl bR
  ·have e0:vs 0=_:=dq he 0;rw[e0]at hK |-;have e4:vs 4=_:=dq he 4;rw[e4]at hK |-;rw[if_pos (by rfl)];simp only[gQ]at hK;have HK:=hid hK;clear hK he hi hBW;have ISW:=IS1.out W BW.out;go_simp;go_at_call 95
   refine ISW.mono ?_;rintro en w9 ⟨rfl,h⟩;go_simp;exact HK.out _ _ rfl h
 ·intro vs W hall hBW;have eo:vs 5=.bool r1:=hall 5 (by decide);simp only[gT,qA4,qAB,qAA,gP];rw[eo];generalize vs 0=y0,vs 1=y1,vs 2=y2,vs 3=y3,vs 4=y4;have BX:=hid (BV.out.trans (hBW.mono BV.out.size));clear hall hBW eo;cases r1
  ·have BX2:=hid BX.out;go_wp2_with fail
   refine qA6 (PP:=trP4 T rb N (U.heap.size+1) b o c o2 S2 r2) 12 rfl (by kernel_rfl) (by kernel_rfl) (by decide) (by decide) (qSW T rb N (U.heap.size+1) b o c o2 S2 r2) (fun _=>undef) (by simp[qA4,gQ]) ?_ ?_
   ·intro i o vs W hi ho he hBW K hK;simp only[gT,qA4,gQ]at hK |-;have BW:=hid (BX2.out.trans (hBW.mono BX2.out.size));have AXW:=hid (AX.out.then BW.out);have R6W:=hid ((BW.out.cell (p:=⟨U.heap.size+1,6,none⟩) RXL.out).trans RX6.out);obtain rfl|rfl|rfl|rfl|rfl|rfl|rfl|rfl|rfl|rfl|rfl|rfl:=c12_ hi<;>simp only[gE]at ho<;>subst ho
    ·rw[if_pos (by rfl)];simp only[gQ]at hK;have HK:=hid hK;clear hK he hi hBW;go_simp;exact HK.out _ _ (by first|rfl|simp[trP4]) bR
    ·have e0:vs 0=_:=dq he 0;rw[e0]at hK |-;rw[if_pos (by rfl)];simp only[gQ]at hK;have HK:=hid hK;clear hK he hi hBW;have cx:=R6W.out;go_simp;exact HK.out _ _ rfl bR
    ·have e1:vs 1=_:=dq he 1;rw[e1]at hK |-;rw[if_pos (by rfl)];simp only[gQ]at hK;have HK:=hid hK;clear hK he hi hBW;go_simp;exact HK.out _ _ (by first|rfl|simp[trP4]) bR
    ·have e2:vs 2=_:=dq he 2;rw[e2]at hK |-;rw[if_pos (by rfl)];simp only[gQ]at hK;have HK:=hid hK;clear hK he hi hBW;go_simp;exact HK.out _ _ (by first|rfl|simp[trP4]) bR
    ·have e3:vs 3=_:=dq he 3;rw[e3]at hK |-;rw[if_pos (by rfl)];simp only[gQ]at hK;have HK:=hid hK;clear hK he hi hBW;go_simp;exact HK.out _ _ (by first|rfl|simp[trP4]) bR
    ·have e4:vs 4=_:=gd he 4;rw[e4]at hK |-;rw[if_pos (by rfl)];simp only[gQ]at hK;have HK:=hid hK;clear hK he hi hBW;have a0:=AXW.out.2.1;have a1:=AXW.out.2.2;go_simp;exact HK.out _ _ rfl bR
    ·have e4:vs 4=_:=gd he 4;rw[e4]at hK |-;rw[if_pos (by rfl)];simp only[gQ]at hK;have HK:=hid hK;clear hK he hi hBW;go_simp;exact HK.out _ _ (by first|rfl|simp[trP4]) bR
    ·have e6:vs 6=_:=dq he 6;rw[e6]at hK |-;have e4:vs 4=_:=gd he 4;rw[e4]at hK |-;rw[if_pos (by rfl)];simp only[gQ]at hK;have HK:=hid hK;clear hK he hi hBW;have cx:=R6W.out;go_simp;exact HK.out _ _ rfl bR
    ·have e7:vs 7=_:=dq he 7;rw[e7]at hK |-;have e4:vs 4=_:=gd he 4;rw[e4]at hK |-;rw[if_pos (by rfl)];simp only[gQ]at hK;have HK:=hid hK;clear hK he hi hBW;go_simp;exact HK.out _ _ (by rw[HO2.out];rfl) bR
    ·have e8:vs 8=_:=dq he 8;rw[e8]at hK |-;have e4:vs 4=_:=gd he 4;rw[e4]at hK |-;rw[if_pos (by rfl)];simp only[gQ]at hK;have HK:=hid hK;clear hK he hi hBW;obtain⟨d0,d1,d2,d3,d4,d5,d6⟩:=RC2.out W BW.out;go_simp;exact HK.out _ _ rfl bR
    ·have e5:vs 5=_:=dq he 5;rw[e5]at hK |-;have e9:vs 9=_:=dq he 9;rw[e9]at hK |-;have e4:vs 4=_:=gd he 4;rw[e4]at hK |-;rw[if_pos (by rfl)];simp only[gQ]at hK;have HK:=hid hK;clear hK he hi hBW;have ISW:=IS2.out W BW.out;go_simp;go_at_call 95
     refine ISW.mono ?_;rintro en w9 ⟨rfl,h⟩;go_simp;exact HK.out _ _ rfl h
    ·have e4:vs 4=_:=dq he 4;rw[e4]at hK |-;have e10:vs 10=_:=dq he 10;rw[e10]at hK |-;rw[if_pos (by rfl)];simp only[gQ]at hK;have HK:=hid hK;clear hK he hi hBW;go_simp;exact HK.out _ _ (by first|rfl|simp[trP4]) bR
   ·intro vs W hall hBW;have eo:vs 11=.bool r2:=hall 11 (by decide);simp only[gT,qA4,qAB,qAA,gP];rw[eo];generalize vs 0=y0,vs 1=y1,vs 2=y2,vs 3=y3,vs 4=y4,vs 5=y5,vs 6=y6,vs 7=y7,vs 8=y8,vs 9=y9,vs 10=y10;have BX:=hid (BX2.out.trans (hBW.mono BX2.out.size));clear hall hBW eo;go_wp2_with fail
    go_ret;exact⟨by simp,BZ.out.trans (BX.out.mono BZ.out.size)⟩
  ·have BX2:=hid BX.out;go_wp2_with fail
   refine qA6 (PP:=trP5 T rb N (U.heap.size+1) b o c o0 S0 r0) 6 rfl (by kernel_rfl) (by kernel_rfl) (by decide) (by decide) (qSX T rb N (U.heap.size+1) b o c o0 S0 r0) (fun _=>undef) (by simp[qA4,gQ]) ?_ ?_
   ·intro i o vs W hi ho he hBW K hK;simp only[gT,qA4,gQ]at hK |-;have BW:=hid (BX2.out.trans (hBW.mono BX2.out.size));have AXW:=hid (AX.out.then BW.out);have R6W:=hid ((BW.out.cell (p:=⟨U.heap.size+1,6,none⟩) RXL.out).trans RX6.out);obtain rfl|rfl|rfl|rfl|rfl|rfl:=c6_ hi<;>simp only[gE]at ho<;>subst ho
    ·rw[if_pos (by rfl)];simp only[gQ]at hK;have HK:=hid hK;clear hK he hi hBW;have a0:=AXW.out.2.1;have a1:=AXW.out.2.2;go_simp;exact HK.out _ _ rfl bR
    ·rw[if_pos (by rfl)];simp only[gQ]at hK;have HK:=hid hK;clear hK he hi hBW;go_simp;exact HK.out _ _ (by first|rfl|simp[trP5]) bR
    ·have e1:vs 1=_:=dq he 1;rw[e1]at hK |-;rw[if_pos (by rfl)];simp only[gQ]at hK;have HK:=hid hK;clear hK he hi hBW;have cx:=R6W.out;go_simp;exact HK.out _ _ rfl bR
    ·have e2:vs 2=_:=dq he 2;rw[e2]at hK |-;rw[if_pos (by rfl)];simp only[gQ]at hK;have HK:=hid hK;clear hK he hi hBW;go_simp;exact HK.out _ _ (by rw[HO0.out];rfl) bR
    ·have e3:vs 3=_:=dq he 3;rw[e3]at hK |-;rw[if_pos (by rfl)];simp only[gQ]at hK;have HK:=hid hK;clear hK he hi hBW;obtain⟨d0,d1,d2,d3,d4,d5,d6⟩:=RC0.out W BW.out;go_simp;exact HK.out _ _ rfl bR
    ·have e0:vs 0=_:=dq he 0;rw[e0]at hK |-;have e4:vs 4=_:=dq he 4;rw[e4]at hK |-;rw[if_pos (by rfl)];simp only[gQ]at hK;have HK:=hid hK;clear hK he hi hBW;have ISW:=IS0.out W BW.out;go_simp;go_at_call 95
     refine ISW.mono ?_;rintro en w9 ⟨rfl,h⟩;go_simp;exact HK.out _ _ rfl h
   ·intro vs W hall hBW;have eo:vs 5=.bool r0:=hall 5 (by decide);simp only[gT,qA4,qAB,qAA,gP];rw[eo];generalize vs 0=y0,vs 1=y1,vs 2=y2,vs 3=y3,vs 4=y4;have BX:=hid (BX2.out.trans (hBW.mono BX2.out.size));clear hall hBW eo;go_wp2_with fail
    go_ret;exact⟨by simp,BZ.out.trans (BX.out.mono BZ.out.size)⟩
theorem qMC (R:RV)(hn:R.args.length=2)(hR:∀a∈R.args,IsOk T X N L a)(rb:Nat)(f:Nat->Bool)(U:World)(hA:AskT T X N rb L f U)(hT:RTree U.heap.size U R) :
  Calls Tryz.prog 140 #[askW T rb N,R.val] U fun e w'=>e=.returned (.bool (if Tr.sat N (pvL L) (R.args[1]'(by omega)).tree f then false else Tr.sat N (pvL L) (R.args[0]'(by omega)).tree f))/\Below U.heap.size U w':=by
 have b1:=(Below.refl U.heap.size U).alloc lR (.cells #[.pointer (some ⟨T,0,none⟩),.slice (some ⟨rb,0,none⟩) N N] 145);have b2:=b1.alloc (by simp) (.cells #[.int .u8 R.kind,.string (bs R.dep.name),.int .u8 R.dep.op,.int .i64 R.dep.evr.epoch,.string (bs R.dep.evr.ver),.string (bs R.dep.evr.rel),.slice R.addr R.args.length R.cap] 39);have a1:=(ABox.new T rb N U 145).then (bR.alloc lR (.cells #[.int .u8 R.kind,.string (bs R.dep.name),.int .u8 R.dep.op,.int .i64 R.dep.evr.epoch,.string (bs R.dep.evr.ver),.string (bs R.dep.evr.rel),.slice R.addr R.args.length R.cap] 39));obtain⟨b,o,hA0,_⟩:=(show RRow U.heap.size U R.addr R.cap R.args from⟨hT.row,hT.sub⟩).at_ (k:=0) (by omega)
 have IS0:=hid (fun W' (hb:Below U.heap.size U W')=>hR (R.args[0]'(by omega)) (List.getElem_mem _) rb f W' (hA.then hb) (((hT.sub _ (List.getElem_mem _)).keeps hb).more hb.size));have RC0:=hid (fun W' (hb:Below U.heap.size U W')=>qAV (((show RRow U.heap.size U R.addr R.cap R.args from⟨hT.row,hT.sub⟩).below hb)) hA0 (k:=0) (by omega));obtain⟨o0,ho0⟩:∃o0,o0=o+0 * 7:=⟨_,rfl⟩;rw[<- ho0]at RC0;have HO0:=hid ho0;have IS1:=hid (fun W' (hb:Below U.heap.size U W')=>hR (R.args[1]'(by omega)) (List.getElem_mem _) rb f W' (hA.then hb) (((hT.sub _ (List.getElem_mem _)).keeps hb).more hb.size));have RC1:=hid (fun W' (hb:Below U.heap.size U W')=>qAV (((show RRow U.heap.size U R.addr R.cap R.args from⟨hT.row,hT.sub⟩).below hb)) hA0 (k:=1) (by omega));obtain⟨o1,ho1⟩:∃o1,o1=o+1 * 7:=⟨_,rfl⟩;rw[<- ho1]at RC1;have HO1:=hid ho1;unfold askW RV.val at IS0 IS1;unfold askW RV.val;clear hA hT hR b1;generalize (R.args[0]'(by omega))=S0 at *;generalize Tr.sat N (pvL L) S0.tree f=r0 at *;generalize (R.args[1]'(by omega))=S1 at *;generalize Tr.sat N (pvL L) S1.tree f=r1 at *;clear ho0 ho1;rw[hA0]at a1 b2 |-;rw[hn]at a1 b2 |-;clear hn
 go_enter Tryz.func140,Tryz.ntmps140
 go_wp2_with fail
 obtain⟨V,hV⟩:∃V,V=(U.alloc (.cells #[.pointer (some ⟨T,0,none⟩),.slice (some ⟨rb,0,none⟩) N N] 145)).alloc (.cells #[.int .u8 R.kind,.string (bs R.dep.name),.int .u8 R.dep.op,.int .i64 R.dep.evr.epoch,.string (bs R.dep.evr.ver),.string (bs R.dep.evr.rel),.slice (some ⟨b,o,none⟩) 2 R.cap] 39):=⟨_,rfl⟩;have RX6:=hid (show V.cell? ⟨U.heap.size+1,6,none⟩=some (.slice (some ⟨b,o,none⟩) 2 R.cap) by rw[hV];simp[go_sem]);have RXL:=hid (show U.heap.size+1<V.heap.size by rw[hV];simp);rw[<- hV]at a1 b2 |-;have AX:=hid a1;have BZ:=hid b2;clear hV a1 b2;have RC1:=hid (fun W' (hb:Below V.heap.size V W')=>RC1.out W' (BZ.out.trans (hb.mono BZ.out.size)));have IS1:=hid (fun W' (hb:Below V.heap.size V W')=>IS1.out W' (BZ.out.trans (hb.mono BZ.out.size)));have RC0:=hid (fun W' (hb:Below V.heap.size V W')=>RC0.out W' (BZ.out.trans (hb.mono BZ.out.size)));have IS0:=hid (fun W' (hb:Below V.heap.size V W')=>IS0.out W' (BZ.out.trans (hb.mono BZ.out.size)));generalize R.cap=c at *;have BV:=hid (Below.refl V.heap.size V);refine qA6 (PP:=trP9 T rb N (U.heap.size+1) b o c o1 S1 r1) 6 rfl (by kernel_rfl) (by kernel_rfl) (by decide) (by decide) (qT1 T rb N (U.heap.size+1) b o c o1 S1 r1) (fun _=>undef) (by simp[qA4,gQ]) ?_ ?_
 ·intro i o vs W hi ho he hBW K hK;simp only[gT,qA4,gQ]at hK |-;have BW:=hid (BV.out.trans (hBW.mono BV.out.size));have AXW:=hid (AX.out.then BW.out);have R6W:=hid ((BW.out.cell (p:=⟨U.heap.size+1,6,none⟩) RXL.out).trans RX6.out);obtain rfl|rfl|rfl|rfl|rfl|rfl:=c6_ hi<;>simp only[gE]at ho<;>subst ho
  ·rw[if_pos (by rfl)];simp only[gQ]at hK;have HK:=hid hK;clear hK he hi hBW;have a0:=AXW.out.2.1;have a1:=AXW.out.2.2;go_simp;exact HK.out _ _ rfl bR
  ·rw[if_pos (by rfl)];simp only[gQ]at hK;have HK:=hid hK;clear hK he hi hBW;go_simp;exact HK.out _ _ (by first|rfl|simp[trP9]) bR
  ·have e1:vs 1=_:=dq he 1;rw[e1]at hK |-;rw[if_pos (by rfl)];simp only[gQ]at hK;have HK:=hid hK;clear hK he hi hBW;have cx:=R6W.out;go_simp;exact HK.out _ _ rfl bR
  ·have e2:vs 2=_:=dq he 2;rw[e2]at hK |-;rw[if_pos (by rfl)];simp only[gQ]at hK;have HK:=hid hK;clear hK he hi hBW;go_simp;exact HK.out _ _ (by rw[HO1.out];rfl) bR
  ·have e3:vs 3=_:=dq he 3;rw[e3]at hK |-;rw[if_pos (by rfl)];simp only[gQ]at hK;have HK:=hid hK;clear hK he hi hBW;obtain⟨d0,d1,d2,d3,d4,d5,d6⟩:=RC1.out W BW.out;go_simp;exact HK.out _ _ rfl bR
  ·have e0:vs 0=_:=dq he 0;rw[e0]at hK |-;have e4:vs 4=_:=dq he 4;rw[e4]at hK |-;rw[if_pos (by rfl)];simp only[gQ]at hK;have HK:=hid hK;clear hK he hi hBW;have ISW:=IS1.out W BW.out;go_simp;go_at_call 95
   refine ISW.mono ?_;rintro en w9 ⟨rfl,h⟩;go_simp;exact HK.out _ _ rfl h
 ·intro vs W hall hBW;have eo:vs 5=.bool r1:=hall 5 (by decide);simp only[gT,qA4,qAB,qAA,gP];rw[eo];generalize vs 0=y0,vs 1=y1,vs 2=y2,vs 3=y3,vs 4=y4;have BX:=hid (BV.out.trans (hBW.mono BV.out.size));clear hall hBW eo;cases r1
  ·have BX2:=hid BX.out;go_wp2_with fail
   refine qA6 (PP:=trP8 T rb N (U.heap.size+1) b o c o0 S0 r0) 6 rfl (by kernel_rfl) (by kernel_rfl) (by decide) (by decide) (qT0 T rb N (U.heap.size+1) b o c o0 S0 r0) (fun _=>undef) (by simp[qA4,gQ]) ?_ ?_
   ·intro i o vs W hi ho he hBW K hK;simp only[gT,qA4,gQ]at hK |-;have BW:=hid (BX2.out.trans (hBW.mono BX2.out.size));have AXW:=hid (AX.out.then BW.out);have R6W:=hid ((BW.out.cell (p:=⟨U.heap.size+1,6,none⟩) RXL.out).trans RX6.out);obtain rfl|rfl|rfl|rfl|rfl|rfl:=c6_ hi<;>simp only[gE]at ho<;>subst ho
    ·rw[if_pos (by rfl)];simp only[gQ]at hK;have HK:=hid hK;clear hK he hi hBW;have a0:=AXW.out.2.1;have a1:=AXW.out.2.2;go_simp;exact HK.out _ _ rfl bR
    ·rw[if_pos (by rfl)];simp only[gQ]at hK;have HK:=hid hK;clear hK he hi hBW;go_simp;exact HK.out _ _ (by first|rfl|simp[trP8]) bR
    ·have e1:vs 1=_:=dq he 1;rw[e1]at hK |-;rw[if_pos (by rfl)];simp only[gQ]at hK;have HK:=hid hK;clear hK he hi hBW;have cx:=R6W.out;go_simp;exact HK.out _ _ rfl bR
    ·have e2:vs 2=_:=dq he 2;rw[e2]at hK |-;rw[if_pos (by rfl)];simp only[gQ]at hK;have HK:=hid hK;clear hK he hi hBW;go_simp;exact HK.out _ _ (by rw[HO0.out];rfl) bR
    ·have e3:vs 3=_:=dq he 3;rw[e3]at hK |-;rw[if_pos (by rfl)];simp only[gQ]at hK;have HK:=hid hK;clear hK he hi hBW;obtain⟨d0,d1,d2,d3,d4,d5,d6⟩:=RC0.out W BW.out;go_simp;exact HK.out _ _ rfl bR
    ·have e0:vs 0=_:=dq he 0;rw[e0]at hK |-;have e4:vs 4=_:=dq he 4;rw[e4]at hK |-;rw[if_pos (by rfl)];simp only[gQ]at hK;have HK:=hid hK;clear hK he hi hBW;have ISW:=IS0.out W BW.out;go_simp;go_at_call 95
     refine ISW.mono ?_;rintro en w9 ⟨rfl,h⟩;go_simp;exact HK.out _ _ rfl h
   ·intro vs W hall hBW;have eo:vs 5=.bool r0:=hall 5 (by decide);simp only[gT,qA4,qAB,qAA,gP];rw[eo];generalize vs 0=y0,vs 1=y1,vs 2=y2,vs 3=y3,vs 4=y4;have BX:=hid (BX2.out.trans (hBW.mono BX2.out.size));clear hall hBW eo;go_wp2_with fail
    go_ret;exact⟨by simp,BZ.out.trans (BX.out.mono BZ.out.size)⟩
  ·have BX2:=hid BX.out;go_wp2_with fail
   refine qA6 (PP:=trP7 T rb N (U.heap.size+1) b o c   ) 12 rfl (by kernel_rfl) (by kernel_rfl) (by decide) (by decide) (qSZ T rb N (U.heap.size+1) b o c   ) (fun _=>undef) (by simp[qA4,gQ]) ?_ ?_
   ·intro i o vs W hi ho he hBW K hK;simp only[gT,qA4,gQ]at hK |-;have BW:=hid (BX2.out.trans (hBW.mono BX2.out.size));have AXW:=hid (AX.out.then BW.out);have R6W:=hid ((BW.out.cell (p:=⟨U.heap.size+1,6,none⟩) RXL.out).trans RX6.out);obtain rfl|rfl|rfl|rfl|rfl|rfl|rfl|rfl|rfl|rfl|rfl|rfl:=c12_ hi<;>simp only[gE]at ho<;>subst ho
    ·rw[if_pos (by rfl)];simp only[gQ]at hK;have HK:=hid hK;clear hK he hi hBW;go_simp;exact HK.out _ _ (by first|rfl|simp[trP7]) bR
    ·have e0:vs 0=_:=dq he 0;rw[e0]at hK |-;rw[if_pos (by rfl)];simp only[gQ]at hK;have HK:=hid hK;clear hK he hi hBW;have cx:=R6W.out;go_simp;exact HK.out _ _ rfl bR
    ·have e1:vs 1=_:=dq he 1;rw[e1]at hK |-;rw[if_pos (by rfl)];simp only[gQ]at hK;have HK:=hid hK;clear hK he hi hBW;go_simp;exact HK.out _ _ (by first|rfl|simp[trP7]) bR
    ·have e2:vs 2=_:=dq he 2;rw[e2]at hK |-;rw[if_pos (by rfl)];simp only[gQ]at hK;have HK:=hid hK;clear hK he hi hBW;go_simp;exact HK.out _ _ (by first|rfl|simp[trP7]) bR
    ·have e3:vs 3=_:=dq he 3;rw[e3]at hK |-;rw[if_pos (by rfl)];simp only[gQ]at hK;have HK:=hid hK;clear hK he hi hBW;go_simp;exact HK.out _ _ (by first|rfl|simp[trP7]) bR
    iterate 2 ·have e4:vs 4=_:=gd he 4;rw[e4]at hK |-;refine wN bF ?_;exact hK _ _ rfl bR
    ·have e6:vs 6=_:=dq he 6;rw[e6]at hK |-;have e4:vs 4=_:=gd he 4;rw[e4]at hK |-;refine wN bF ?_;exact hK _ _ rfl bR
    ·have e7:vs 7=_:=dq he 7;rw[e7]at hK |-;have e4:vs 4=_:=gd he 4;rw[e4]at hK |-;refine wN bF ?_;exact hK _ _ rfl bR
    ·have e8:vs 8=_:=dq he 8;rw[e8]at hK |-;have e4:vs 4=_:=gd he 4;rw[e4]at hK |-;refine wN bF ?_;exact hK _ _ rfl bR
    ·have e5:vs 5=_:=dq he 5;rw[e5]at hK |-;have e9:vs 9=_:=dq he 9;rw[e9]at hK |-;have e4:vs 4=_:=gd he 4;rw[e4]at hK |-;refine wN bF ?_;exact hK _ _ rfl bR
    ·have e4:vs 4=_:=dq he 4;rw[e4]at hK |-;have e10:vs 10=_:=dq he 10;rw[e10]at hK |-;rw[if_pos (by rfl)];simp only[gQ]at hK;have HK:=hid hK;clear hK he hi hBW;go_simp;exact HK.out _ _ (by first|rfl|simp[trP7]) bR
   ·intro vs W hall hBW;have eo:vs 11=.bool false:=hall 11 (by decide);simp only[gT,qA4,qAB,qAA,gP];rw[eo];generalize vs 0=y0,vs 1=y1,vs 2=y2,vs 3=y3,vs 4=y4,vs 5=y5,vs 6=y6,vs 7=y7,vs 8=y8,vs 9=y9,vs 10=y10;have BX:=hid (BX2.out.trans (hBW.mono BX2.out.size));clear hall hBW eo;go_wp2_with fail
    go_ret;exact⟨by simp,BZ.out.trans (BX.out.mono BZ.out.size)⟩
theorem qMD (R:RV)(hn:R.args.length=3)(hR:∀a∈R.args,IsOk T X N L a)(rb:Nat)(f:Nat->Bool)(U:World)(hA:AskT T X N rb L f U)(hT:RTree U.heap.size U R) :
  Calls Tryz.prog 140 #[askW T rb N,R.val] U fun e w'=>e=.returned (.bool (if Tr.sat N (pvL L) (R.args[1]'(by omega)).tree f then Tr.sat N (pvL L) (R.args[2]'(by omega)).tree f else Tr.sat N (pvL L) (R.args[0]'(by omega)).tree f))/\Below U.heap.size U w':=by
 have b1:=(Below.refl U.heap.size U).alloc lR (.cells #[.pointer (some ⟨T,0,none⟩),.slice (some ⟨rb,0,none⟩) N N] 145);have b2:=b1.alloc (by simp) (.cells #[.int .u8 R.kind,.string (bs R.dep.name),.int .u8 R.dep.op,.int .i64 R.dep.evr.epoch,.string (bs R.dep.evr.ver),.string (bs R.dep.evr.rel),.slice R.addr R.args.length R.cap] 39);have a1:=(ABox.new T rb N U 145).then (bR.alloc lR (.cells #[.int .u8 R.kind,.string (bs R.dep.name),.int .u8 R.dep.op,.int .i64 R.dep.evr.epoch,.string (bs R.dep.evr.ver),.string (bs R.dep.evr.rel),.slice R.addr R.args.length R.cap] 39));obtain⟨b,o,hA0,_⟩:=(show RRow U.heap.size U R.addr R.cap R.args from⟨hT.row,hT.sub⟩).at_ (k:=0) (by omega)
 have IS0:=hid (fun W' (hb:Below U.heap.size U W')=>hR (R.args[0]'(by omega)) (List.getElem_mem _) rb f W' (hA.then hb) (((hT.sub _ (List.getElem_mem _)).keeps hb).more hb.size));have RC0:=hid (fun W' (hb:Below U.heap.size U W')=>qAV (((show RRow U.heap.size U R.addr R.cap R.args from⟨hT.row,hT.sub⟩).below hb)) hA0 (k:=0) (by omega));obtain⟨o0,ho0⟩:∃o0,o0=o+0 * 7:=⟨_,rfl⟩;rw[<- ho0]at RC0;have HO0:=hid ho0;have IS1:=hid (fun W' (hb:Below U.heap.size U W')=>hR (R.args[1]'(by omega)) (List.getElem_mem _) rb f W' (hA.then hb) (((hT.sub _ (List.getElem_mem _)).keeps hb).more hb.size));have RC1:=hid (fun W' (hb:Below U.heap.size U W')=>qAV (((show RRow U.heap.size U R.addr R.cap R.args from⟨hT.row,hT.sub⟩).below hb)) hA0 (k:=1) (by omega));obtain⟨o1,ho1⟩:∃o1,o1=o+1 * 7:=⟨_,rfl⟩;rw[<- ho1]at RC1;have HO1:=hid ho1;have IS2:=hid (fun W' (hb:Below U.heap.size U W')=>hR (R.args[2]'(by omega)) (List.getElem_mem _) rb f W' (hA.then hb) (((hT.sub _ (List.getElem_mem _)).keeps hb).more hb.size));have RC2:=hid (fun W' (hb:Below U.heap.size U W')=>qAV (((show RRow U.heap.size U R.addr R.cap R.args from⟨hT.row,hT.sub⟩).below hb)) hA0 (k:=2) (by omega));obtain⟨o2,ho2⟩:∃o2,o2=o+2 * 7:=⟨_,rfl⟩;rw[<- ho2]at RC2;have HO2:=hid ho2;unfold askW RV.val at IS0 IS1 IS2;unfold askW RV.val;clear hA hT hR b1;generalize (R.args[0]'(by omega))=S0 at *;generalize Tr.sat N (pvL L) S0.tree f=r0 at *;generalize (R.args[1]'(by omega))=S1 at *;generalize Tr.sat N (pvL L) S1.tree f=r1 at *;generalize (R.args[2]'(by omega))=S2 at *;generalize Tr.sat N (pvL L) S2.tree f=r2 at *;clear ho0 ho1 ho2;rw[hA0]at a1 b2 |-;rw[hn]at a1 b2 |-;clear hn
 go_enter Tryz.func140,Tryz.ntmps140
 go_wp2_with fail
 obtain⟨V,hV⟩:∃V,V=(U.alloc (.cells #[.pointer (some ⟨T,0,none⟩),.slice (some ⟨rb,0,none⟩) N N] 145)).alloc (.cells #[.int .u8 R.kind,.string (bs R.dep.name),.int .u8 R.dep.op,.int .i64 R.dep.evr.epoch,.string (bs R.dep.evr.ver),.string (bs R.dep.evr.rel),.slice (some ⟨b,o,none⟩) 3 R.cap] 39):=⟨_,rfl⟩;have RX6:=hid (show V.cell? ⟨U.heap.size+1,6,none⟩=some (.slice (some ⟨b,o,none⟩) 3 R.cap) by rw[hV];simp[go_sem]);have RXL:=hid (show U.heap.size+1<V.heap.size by rw[hV];simp);rw[<- hV]at a1 b2 |-;have AX:=hid a1;have BZ:=hid b2;clear hV a1 b2;have RC2:=hid (fun W' (hb:Below V.heap.size V W')=>RC2.out W' (BZ.out.trans (hb.mono BZ.out.size)));have IS2:=hid (fun W' (hb:Below V.heap.size V W')=>IS2.out W' (BZ.out.trans (hb.mono BZ.out.size)));have RC1:=hid (fun W' (hb:Below V.heap.size V W')=>RC1.out W' (BZ.out.trans (hb.mono BZ.out.size)));have IS1:=hid (fun W' (hb:Below V.heap.size V W')=>IS1.out W' (BZ.out.trans (hb.mono BZ.out.size)));have RC0:=hid (fun W' (hb:Below V.heap.size V W')=>RC0.out W' (BZ.out.trans (hb.mono BZ.out.size)));have IS0:=hid (fun W' (hb:Below V.heap.size V W')=>IS0.out W' (BZ.out.trans (hb.mono BZ.out.size)));generalize R.cap=c at *;have BV:=hid (Below.refl V.heap.size V);refine qA6 (PP:=qVO T rb N (U.heap.size+1) b o c o1 S1 r1) 6 rfl (by kernel_rfl) (by kernel_rfl) (by decide) (by decide) (qPF T rb N (U.heap.size+1) b o c o1 S1 r1) (fun _=>undef) (by simp[qA4,gQ]) ?_ ?_
 ·intro i o vs W hi ho he hBW K hK;simp only[gT,qA4,gQ]at hK |-;have BW:=hid (BV.out.trans (hBW.mono BV.out.size));have AXW:=hid (AX.out.then BW.out);have R6W:=hid ((BW.out.cell (p:=⟨U.heap.size+1,6,none⟩) RXL.out).trans RX6.out);obtain rfl|rfl|rfl|rfl|rfl|rfl:=c6_ hi<;>simp only[gE]at ho<;>subst ho
  ·rw[if_pos (by rfl)];simp only[gQ]at hK;have HK:=hid hK;clear hK he hi hBW;have a0:=AXW.out.2.1;have a1:=AXW.out.2.2;go_simp;exact HK.out _ _ rfl bR
  ·rw[if_pos (by rfl)];simp only[gQ]at hK;have HK:=hid hK;clear hK he hi hBW;go_simp;exact HK.out _ _ (by first|rfl|simp[qVO]) bR
  ·have e1:vs 1=_:=dq he 1;rw[e1]at hK |-;rw[if_pos (by rfl)];simp only[gQ]at hK;have HK:=hid hK;clear hK he hi hBW;have cx:=R6W.out;go_simp;exact HK.out _ _ rfl bR
  ·have e2:vs 2=_:=dq he 2;rw[e2]at hK |-;rw[if_pos (by rfl)];simp only[gQ]at hK;have HK:=hid hK;clear hK he hi hBW;go_simp;exact HK.out _ _ (by rw[HO1.out];rfl) bR
  ·have e3:vs 3=_:=dq he 3;rw[e3]at hK |-;rw[if_pos (by rfl)];simp only[gQ]at hK;have HK:=hid hK;clear hK he hi hBW;obtain⟨d0,d1,d2,d3,d4,d5,d6⟩:=RC1.out W BW.out;go_simp;exact HK.out _ _ rfl bR
  ·have e0:vs 0=_:=dq he 0;rw[e0]at hK |-;have e4:vs 4=_:=dq he 4;rw[e4]at hK |-;rw[if_pos (by rfl)];simp only[gQ]at hK;have HK:=hid hK;clear hK he hi hBW;have ISW:=IS1.out W BW.out;go_simp;go_at_call 95
   refine ISW.mono ?_;rintro en w9 ⟨rfl,h⟩;go_simp;exact HK.out _ _ rfl h
 ·intro vs W hall hBW;have eo:vs 5=.bool r1:=hall 5 (by decide);simp only[gT,qA4,qAB,qAA,gP];rw[eo];generalize vs 0=y0,vs 1=y1,vs 2=y2,vs 3=y3,vs 4=y4;have BX:=hid (BV.out.trans (hBW.mono BV.out.size));clear hall hBW eo;cases r1
  ·have BX2:=hid BX.out;go_wp2_with fail
   refine qA6 (PP:=qVN T rb N (U.heap.size+1) b o c o0 S0 r0) 6 rfl (by kernel_rfl) (by kernel_rfl) (by decide) (by decide) (qPE T rb N (U.heap.size+1) b o c o0 S0 r0) (fun _=>undef) (by simp[qA4,gQ]) ?_ ?_
   ·intro i o vs W hi ho he hBW K hK;simp only[gT,qA4,gQ]at hK |-;have BW:=hid (BX2.out.trans (hBW.mono BX2.out.size));have AXW:=hid (AX.out.then BW.out);have R6W:=hid ((BW.out.cell (p:=⟨U.heap.size+1,6,none⟩) RXL.out).trans RX6.out);obtain rfl|rfl|rfl|rfl|rfl|rfl:=c6_ hi<;>simp only[gE]at ho<;>subst ho
    ·rw[if_pos (by rfl)];simp only[gQ]at hK;have HK:=hid hK;clear hK he hi hBW;have a0:=AXW.out.2.1;have a1:=AXW.out.2.2;go_simp;exact HK.out _ _ rfl bR
    ·rw[if_pos (by rfl)];simp only[gQ]at hK;have HK:=hid hK;clear hK he hi hBW;go_simp;exact HK.out _ _ (by first|rfl|simp[qVN]) bR
    ·have e1:vs 1=_:=dq he 1;rw[e1]at hK |-;rw[if_pos (by rfl)];simp only[gQ]at hK;have HK:=hid hK;clear hK he hi hBW;have cx:=R6W.out;go_simp;exact HK.out _ _ rfl bR
    ·have e2:vs 2=_:=dq he 2;rw[e2]at hK |-;rw[if_pos (by rfl)];simp only[gQ]at hK;have HK:=hid hK;clear hK he hi hBW;go_simp;exact HK.out _ _ (by rw[HO0.out];rfl) bR
    ·have e3:vs 3=_:=dq he 3;rw[e3]at hK |-;rw[if_pos (by rfl)];simp only[gQ]at hK;have HK:=hid hK;clear hK he hi hBW;obtain⟨d0,d1,d2,d3,d4,d5,d6⟩:=RC0.out W BW.out;go_simp;exact HK.out _ _ rfl bR
    ·have e0:vs 0=_:=dq he 0;rw[e0]at hK |-;have e4:vs 4=_:=dq he 4;rw[e4]at hK |-;rw[if_pos (by rfl)];simp only[gQ]at hK;have HK:=hid hK;clear hK he hi hBW;have ISW:=IS0.out W BW.out;go_simp;go_at_call 95
     refine ISW.mono ?_;rintro en w9 ⟨rfl,h⟩;go_simp;exact HK.out _ _ rfl h
   ·intro vs W hall hBW;have eo:vs 5=.bool r0:=hall 5 (by decide);simp only[gT,qA4,qAB,qAA,gP];rw[eo];generalize vs 0=y0,vs 1=y1,vs 2=y2,vs 3=y3,vs 4=y4;have BX:=hid (BX2.out.trans (hBW.mono BX2.out.size));clear hall hBW eo;go_wp2_with fail
    go_ret;exact⟨by simp,BZ.out.trans (BX.out.mono BZ.out.size)⟩
  ·have BX2:=hid BX.out;go_wp2_with fail
   refine qA6 (PP:=qIP T rb N (U.heap.size+1) b o c o2 S2 r2) 12 rfl (by kernel_rfl) (by kernel_rfl) (by decide) (by decide) (qPD T rb N (U.heap.size+1) b o c o2 S2 r2) (fun _=>undef) (by simp[qA4,gQ]) ?_ ?_
   ·intro i o vs W hi ho he hBW K hK;simp only[gT,qA4,gQ]at hK |-;have BW:=hid (BX2.out.trans (hBW.mono BX2.out.size));have AXW:=hid (AX.out.then BW.out);have R6W:=hid ((BW.out.cell (p:=⟨U.heap.size+1,6,none⟩) RXL.out).trans RX6.out);obtain rfl|rfl|rfl|rfl|rfl|rfl|rfl|rfl|rfl|rfl|rfl|rfl:=c12_ hi<;>simp only[gE]at ho<;>subst ho
    ·rw[if_pos (by rfl)];simp only[gQ]at hK;have HK:=hid hK;clear hK he hi hBW;go_simp;exact HK.out _ _ (by first|rfl|simp[qIP]) bR
    ·have e0:vs 0=_:=dq he 0;rw[e0]at hK |-;rw[if_pos (by rfl)];simp only[gQ]at hK;have HK:=hid hK;clear hK he hi hBW;have cx:=R6W.out;go_simp;exact HK.out _ _ rfl bR
    ·have e1:vs 1=_:=dq he 1;rw[e1]at hK |-;rw[if_pos (by rfl)];simp only[gQ]at hK;have HK:=hid hK;clear hK he hi hBW;go_simp;exact HK.out _ _ (by first|rfl|simp[qIP]) bR
    ·have e2:vs 2=_:=dq he 2;rw[e2]at hK |-;rw[if_pos (by rfl)];simp only[gQ]at hK;have HK:=hid hK;clear hK he hi hBW;go_simp;exact HK.out _ _ (by first|rfl|simp[qIP]) bR
    ·have e3:vs 3=_:=dq he 3;rw[e3]at hK |-;rw[if_pos (by rfl)];simp only[gQ]at hK;have HK:=hid hK;clear hK he hi hBW;go_simp;exact HK.out _ _ (by first|rfl|simp[qIP]) bR
    ·have e4:vs 4=_:=gd he 4;rw[e4]at hK |-;rw[if_pos (by rfl)];simp only[gQ]at hK;have HK:=hid hK;clear hK he hi hBW;have a0:=AXW.out.2.1;have a1:=AXW.out.2.2;go_simp;exact HK.out _ _ rfl bR
    ·have e4:vs 4=_:=gd he 4;rw[e4]at hK |-;rw[if_pos (by rfl)];simp only[gQ]at hK;have HK:=hid hK;clear hK he hi hBW;go_simp;exact HK.out _ _ (by first|rfl|simp[qIP]) bR
    ·have e6:vs 6=_:=dq he 6;rw[e6]at hK |-;have e4:vs 4=_:=gd he 4;rw[e4]at hK |-;rw[if_pos (by rfl)];simp only[gQ]at hK;have HK:=hid hK;clear hK he hi hBW;have cx:=R6W.out;go_simp;exact HK.out _ _ rfl bR
    ·have e7:vs 7=_:=dq he 7;rw[e7]at hK |-;have e4:vs 4=_:=gd he 4;rw[e4]at hK |-;rw[if_pos (by rfl)];simp only[gQ]at hK;have HK:=hid hK;clear hK he hi hBW;go_simp;exact HK.out _ _ (by rw[HO2.out];rfl) bR
    ·have e8:vs 8=_:=dq he 8;rw[e8]at hK |-;have e4:vs 4=_:=gd he 4;rw[e4]at hK |-;rw[if_pos (by rfl)];simp only[gQ]at hK;have HK:=hid hK;clear hK he hi hBW;obtain⟨d0,d1,d2,d3,d4,d5,d6⟩:=RC2.out W BW.out;go_simp;exact HK.out _ _ rfl bR
    ·have e5:vs 5=_:=dq he 5;rw[e5]at hK |-;have e9:vs 9=_:=dq he 9;rw[e9]at hK |-;have e4:vs 4=_:=gd he 4;rw[e4]at hK |-;rw[if_pos (by rfl)];simp only[gQ]at hK;have HK:=hid hK;clear hK he hi hBW;have ISW:=IS2.out W BW.out;go_simp;go_at_call 95
     refine ISW.mono ?_;rintro en w9 ⟨rfl,h⟩;go_simp;exact HK.out _ _ rfl h
    ·have e4:vs 4=_:=dq he 4;rw[e4]at hK |-;have e10:vs 10=_:=dq he 10;rw[e10]at hK |-;rw[if_pos (by rfl)];simp only[gQ]at hK;have HK:=hid hK;clear hK he hi hBW;go_simp;exact HK.out _ _ (by first|rfl|simp[qIP]) bR
   ·intro vs W hall hBW;have eo:vs 11=.bool r2:=hall 11 (by decide);simp only[gT,qA4,qAB,qAA,gP];rw[eo];generalize vs 0=y0,vs 1=y1,vs 2=y2,vs 3=y3,vs 4=y4,vs 5=y5,vs 6=y6,vs 7=y7,vs 8=y8,vs 9=y9,vs 10=y10;have BX:=hid (BX2.out.trans (hBW.mono BX2.out.size));clear hall hBW eo;go_wp2_with fail
    go_ret;exact⟨by simp,BZ.out.trans (BX.out.mono BZ.out.size)⟩
