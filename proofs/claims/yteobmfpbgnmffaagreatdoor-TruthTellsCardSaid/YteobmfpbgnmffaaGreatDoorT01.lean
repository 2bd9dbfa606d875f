/- Base, VmPlain, VmW0, VmIter -/
import Derived.Test.YteobmfpbgnmffaaGreatDoorT00
import Derived.Test.YteobmfpbgnmffaaGreatDoorRows
import Derived.WalkSpells
import Derived.WalkLawsBesides
import Derived.Deep.AppendLies
import Derived.Lib.Hide
import Derived.Lib.Strings
import Derived.RangeFuncNested
import Derived.RangeFuncBound
import Derived.Shelf.RegionOpen
import Derived.OwnWalkIn
import Derived.LoopNIn
import Derived.LoopIn
set_option linter.unusedVariables false
set_option maxHeartbeats 2000000
set_option maxRecDepth 100000
open Go.Lib (hid)
set_option linter.unusedSimpArgs false
namespace Go.Proofs.YteobmfpbgnmffaaGreatDoor
section
open Go.RowKit
def Rd {α:Type}(enc:α->List Value)(size B:Nat)(A:Option Addr)(cap:Nat)(l:List α)(w:World) : Prop :=
 l.length<=cap/\cap<=maxLen /\ ∀(k:Nat) (hk:k<l.length),∃b off,A=some ⟨b,off,none⟩/\b<B /\
  ∀j u,(enc l[k])[j]?=some u->w.cell? ⟨b,off+k * size+j,none⟩=some u
section
variable {α:Type}{enc:α->List Value}{size B B' cap:Nat}{A:Option Addr}{l:List α}{w w':World}
theorem Rd.len (h:Rd enc size B A cap l w) : l.length<=9223372036854775807 := by
 have h1:=h.1;have h2:=h.2.1;unfold maxLen at h2;omega
theorem Rd.keep (h:Rd enc size B A cap l w)(hk:∀p : Addr,p.block<B->w'.cell? p=w.cell? p) : Rd enc size B A cap l w' :=
 ⟨h.1,h.2.1,fun k hl=>by
  obtain⟨b,off,e,hb,hc⟩:=h.2.2 k hl;exact⟨b,off,e,hb,fun j u hu=>(hk _ hb).trans (hc j u hu)⟩⟩
theorem Rd.more (h:Rd enc size B A cap l w)(hB:B<=B') : Rd enc size B' A cap l w :=
 ⟨h.1,h.2.1,fun k hl=>by
  obtain⟨b,off,e,hb,hc⟩:=h.2.2 k hl;exact⟨b,off,e,by omega,hc⟩⟩
theorem Rd.below (h:Rd enc size B A cap l w)(hb:Below B w w') : Rd enc size B A cap l w' := h.keep fun _ hp=>hb.cell hp
theorem Rd.withB (h:Rd enc size w.heap.size A cap l w)(hb:Below w.heap.size w w') : Rd enc size w'.heap.size A cap l w' := (h.below hb).more hb.size
theorem Rd.alloc (h:Rd enc size B A cap l w)(hB:B<=w.heap.size)(o:Obj) : Rd enc size B A cap l (w.alloc o) :=
 h.keep fun p hp=>World.cell?_alloc_lt w o p (by omega)
theorem Rd.nil_ (hc:cap<=maxLen) : Rd enc size B A cap [] w := ⟨Nat.zero_le _,hc,fun k hk=>absurd hk (by simp)⟩
theorem Rd.at1 {f:α->Value}(h:Rd enc 1 B A cap l w)(hf:∀x,enc x=[f x]){k:Nat}(hk:k<l.length) :
  ∃b off,A=some ⟨b,off,none⟩/\b<B/\w.cell? ⟨b,off+k,none⟩=some (f l[k]):=by
 obtain⟨b,off,e,hb,hc⟩:=h.2.2 k hk;exact⟨b,off,e,hb,by simpa using hc 0 (f l[k]) (by rw[hf];rfl)⟩
theorem Rd.at2 {f g:α->Value}(h:Rd enc 2 B A cap l w)(hf:∀x,enc x=[f x,g x]){k:Nat}(hk:k<l.length) :
  ∃b off,A=some ⟨b,off,none⟩/\b<B/\w.cell? ⟨b,off+k * 2,none⟩=some (f l[k])/\w.cell? ⟨b,off+k * 2+1,none⟩=some (g l[k]):=by
 obtain⟨b,off,e,hb,hc⟩:=h.2.2 k hk;exact⟨b,off,e,hb,by simpa using hc 0 (f l[k]) (by rw[hf];rfl),by simpa using hc 1 (g l[k]) (by rw[hf];rfl)⟩
end
theorem qBP {α β:Type}(enc:α->List β)(size:Nat)(he:∀x,(enc x).length=size):∀(l:List α) (k:Nat) (hk:k<l.length) (j:Nat),j<size->(l.flatMap enc)[k * size+j]?=(enc l[k])[j]?
 | x::l,0,_,j,hj=>by
  simp only[List.flatMap_cons,Nat.zero_mul,Nat.zero_add,List.getElem_cons_zero];rw[List.getElem?_append_left (by rw[he];exact hj)]
 | x::l,k+1,hk,j,hj=>by
  simp only[List.flatMap_cons,List.getElem_cons_succ];rw[List.getElem?_append_right (by rw[he,Nat.add_mul];omega),he];have e:(k+1) * size+j - size=k * size+j:=by rw[Nat.add_mul];omega
  rw[e];exact qBP enc size he l k (by simpa using hk) j hj
theorem qDU {α β:Type}(enc:α->List β)(size:Nat)(he:∀x,(enc x).length=size)(l:List α) : (l.flatMap enc).length=l.length * size := by
 induction l with
 | nil=>simp
 | cons x l ih=>simp only[List.flatMap_cons,List.length_append,he,ih,List.length_cons,Nat.add_mul];omega
def Own {α:Type}(enc:α->List Value)(size base:Nat)(e:TypeId)(v:Value)(l:List α)(w:World) : Prop := w.ownsRow base e size v l.length (l.flatMap enc)
section
variable {α:Type}{enc:α->List Value}{size base base':Nat}{e:TypeId}{v:Value}{l:List α}{w w':World}
theorem Own.rd (h:Own enc size base e v l w)(he:∀x,(enc x).length=size):∃A cap,v=.slice A l.length cap/\Rd enc size w.heap.size A cap l w := by
 unfold Own at h;rcases h.2 with⟨hv,hn⟩|⟨g,cap,cur,hv,hb,hh,hnc,hcm,hcs,ht⟩
 ·have hl:l=[]:=List.eq_nil_of_length_eq_zero hn;subst hl;exact⟨none,0,hv,Rd.nil_ (Nat.zero_le _)⟩
 ·refine⟨some ⟨g,0,none⟩,cap,hv,hnc,hcm,fun k hk=>⟨g,0,rfl,(Array.getElem?_eq_some_iff.1 hh).1,fun j u hu => ?_⟩⟩;have hj:j<size:=by
   have:=(List.getElem?_eq_some_iff.1 hu).1;rw[he]at this;exact this
  have h2:=h.cells (g:=g) (by rw[hv];rfl) (k * size+j) u (by rw[qBP enc size he l k hk j hj];exact hu);rw[Addr.add_lit]at h2
  simpa [Nat.add_assoc] using h2
theorem Own.snoc {x:α}(h:w.ownsRow base e size v (l.length+1) (l.flatMap enc++enc x)) : Own enc size base e v (l++[x]) w := by
 unfold Own
 simpa using h
theorem Own.shape (h:Own enc size base e v l w):∃A c,v=.slice A l.length c := by
 rcases h.2 with⟨rfl,h0⟩|⟨g,cap,cur,rfl,_⟩
 ·exact⟨none,0,by rw[h0]⟩
 ·exact⟨_,cap,rfl⟩
theorem Own.nil_ (w:World)(base:Nat)(e:TypeId) : Own enc size base e (.slice none 0 0) [] w := World.ownsRow_nil w base e size
theorem Own.below {B:Nat}(h:Own enc size base e v l w)(hb:Below B w w')(hB:w.heap.size<=B) : Own enc size base e v l w' := by
 refine World.ownsRow.kept (row:=none) h ⟨hb.os,hb.tape,hb.output,hb.size,fun k hk _=>hb.block k (by omega)⟩ ?_;cases v.ownBlock<;>simp
theorem Own.more (h:Own enc size base e v l w)(hB:base'<=base) : Own enc size base' e v l w := by
 refine⟨h.1,?_⟩;rcases h.2 with h2|⟨g,cap,cur,hv,hb,r⟩
 ·exact .inl h2
 ·exact .inr ⟨g,cap,cur,hv,by omega,r⟩
end
theorem qAG {w:World}{base:Nat}{e:TypeId}{size:Nat}{v:Value}{n:Nat}{xs:List Value}(h:w.ownsRow base e size v n xs):∃A c,v=.slice A n c := by
 rcases h.2 with⟨rfl,rfl⟩|⟨g,cap,cur,rfl,_⟩
 ·exact⟨none,0,rfl⟩
 ·exact⟨_,cap,rfl⟩
theorem qAU {k:IntKind}{a b:Int}(h:a=b) : Ending.returned (.int k a)=.returned (.int k b) := by rw[h]
theorem qA8 {a b:Bool}(h:a=b) : Ending.returned (.bool a)=.returned (.bool b) := by rw[h]
theorem qGH {a b:ByteArray}(h:a=b) : Ending.returned (.string a)=.returned (.string b) := by rw[h]
theorem qT8 {k:IntKind}{a b:Int}(h:a=b) : Value.int k a=.int k b := by rw[h]
theorem qAX {α:Type}(l:List α)(k:Nat)(h:k<l.length) : l.take (k+1)=l.take k++[l[k]] := by
 rw[List.take_succ_eq_append_getElem h]
theorem qA7 (s:ByteArray) : s.toList.length=s.size := by rw[Lib.toList_data];rfl
theorem qBU (s:ByteArray)(k:Nat)(h:k<s.size) : s.toList[k]'(by rw[qA7];exact h)=s[k] := by
 simp only[Lib.toList_data];rfl
theorem qCZ (s:ByteArray)(k:Nat)(h:k<s.size) : s.toList.take (k+1)=s.toList.take k++[s[k]] := by
 rw[qAX _ _ (by rw[qA7];exact h),qBU s k h]
theorem qB2 (s:ByteArray)(k:Nat)(h:k<s.size) : s.toList.drop k=s[k]::s.toList.drop (k+1) := by
 rw[List.drop_eq_getElem_cons (by rw[qA7];exact h),qBU s k h]
theorem toList_inj {a b:ByteArray}(h:a.toList=b.toList) : a=b := by
 rw[Lib.toList_data,Lib.toList_data]at h;cases a with|mk x=>cases b with|mk y=>cases x;cases y;simp_all
theorem qH1 (s:ByteArray)(a b:Nat) : (s.extract a b).toList=(s.toList.drop a).take (b - a) := by
 rw[Lib.extract_toList,Lib.toList_data]
theorem qQ6 (b:UInt8) : (b.toNat : Int)<256 := by have := UInt8.toNat_lt b;omega
theorem qFW (b:UInt8)(n:Nat)(h:n<256) : ((b.toNat : Int) == (n:Int))=(b == UInt8.ofNat n) := by
 rw[Bool.eq_iff_iff];simp only[beq_iff_eq];constructor
 ·intro e;apply UInt8.toNat_inj.1;rw[UInt8.toNat_ofNat'];omega
 ·rintro rfl;rw[UInt8.toNat_ofNat'];omega
end
section
open Go.RowKit
abbrev qAF := List UInt8
def bs (l:qAF) : ByteArray := ⟨l.toArray⟩
theorem qA3 (l:qAF) : (bs l).toList=l := by rw[Lib.toList_data];rfl
theorem qCE (s:ByteArray) : bs s.toList=s := by rw[Lib.toList_data];rfl
theorem qAO (l:qAF) : (bs l).size=l.length := by rw[<- qA7,qA3]
theorem qYB {a b:qAF}(h:bs a=bs b) : a=b := by rw[<- qA3 a,h,qA3]
theorem qDE (s:ByteArray)(a b:Nat) : s.extract a b=bs ((s.toList.drop a).take (b - a)) := toList_inj (by rw[qA3,qH1])
def kd (n:Int) : Int := if n=126 then 1 else if n=94 then 3 else if (97<=n/\n<=122) \/ (65<=n/\n<=90) then 4 else if 48<=n/\n<=57 then 5 else 0
def kk (c:UInt8) : Int := kd c.toNat
theorem qMX (n:Int) : kd n=0 \/ kd n=1 \/ kd n=3 \/ kd n=4 \/ kd n=5 := by
 unfold kd;split;· simp
 split;· simp
 split;· simp
 split<;>simp
abbrev Prt := Int × qAF
def glue (k:Int)(c:UInt8) : qAF->List Prt->List Prt
 | d::_,(j,t)::r=>if kk d=k then (j,c::t)::r else (k,[c])::(j,t)::r
 | _,r=>(k,[c])::r
def raw : qAF->List Prt
 | []=>[]
 | c::l=>if kk c=0 then raw l else if kk c<4 then (kk c,[])::raw l else glue (kk c) c l (raw l)
def qKI (p:Prt) : Prt := (p.1,if p.1=5 then p.2.dropWhile (· == 48) else p.2)
def pts (l:qAF) : List Prt := (raw l).map qKI
def like (c d:UInt8) : Bool := kk d == kk c
theorem qXK (l:qAF):∀c,4<=kk c->raw (c::l)=(kk c,c::l.takeWhile (like c))::raw (l.dropWhile (like c)) := by
 induction l with
 | nil=>intro c h;simp only[raw,List.takeWhile_nil,List.dropWhile_nil];rw[if_neg (by omega),if_neg (by omega)];rfl
 | cons d l ih =>
  intro c h;rw[raw,if_neg (by omega),if_neg (by omega)];by_cases hd:kk d=kk c
  ·rw[ih d (by omega)];have hl:like c d=true:=by simp[like,hd]
   have e:like d=like c:=by funext x;simp[like,hd]
   simp only[glue,hd,if_true,List.takeWhile_cons,List.dropWhile_cons,hl,e]
  ·have hl:like c d=false:=by simp[like,hd]
   simp only[List.takeWhile_cons,List.dropWhile_cons,hl,Bool.false_eq_true,if_false];generalize raw (d::l)=r
   cases r with
   | nil=>rfl
   | cons p r=>obtain⟨j,t⟩:=p;simp[glue,hd]
theorem qRZ : pts []=[] := rfl
theorem qN5 {c:UInt8}(l:qAF)(h:kk c=0) : pts (c::l)=pts l := by simp[pts,raw,h]
theorem qIK {c:UInt8}(l:qAF)(h:kk c≠0)(h4:kk c<4) : pts (c::l)=(kk c,[])::pts l := by
 simp[pts,raw,h,h4,qKI]
theorem qLV {c:UInt8}(l:qAF)(h:4<=kk c) : pts (c::l)=qKI (kk c,c::l.takeWhile (like c))::pts (l.dropWhile (like c)) := by
 simp only[pts,qXK l c h,List.map_cons]
theorem qDL {c:UInt8}(l:qAF)(h:kk c=4) : pts (c::l)=(4,c::l.takeWhile (like c))::pts (l.dropWhile (like c)) := by
 rw[qLV l (by omega)];simp[qKI,h]
theorem qXF {c:UInt8}(l:qAF)(h:kk c=5) : pts (c::l)=(5,(c::l.takeWhile (like c)).dropWhile (· == 48))::pts (l.dropWhile (like c)) := by
 rw[qLV l (by omega)];simp only[qKI,h,if_true]
theorem qXJ (l:qAF) : (raw l).length<=l.length := by
 induction l with
 | nil=>simp[raw]
 | cons c l ih =>
  rw[raw];split
  ·simp;omega
  split
  ·simp;omega
  ·generalize raw l=r at ih;cases l<;>cases r<;>simp[glue] at * <;> try omega
   split<;>simp<;>omega
theorem qGA (l:qAF) : (pts l).length<=l.length := by simp only[pts,List.length_map];exact qXJ l
end
section
open Go.RowKit
theorem qWA {n:Int}(h1:97<=n)(h2:n<=122) : kd n=4 := by unfold kd;rw[if_neg (by omega),if_neg (by omega),if_pos (.inl ⟨h1,h2⟩)]
theorem qYL {n:Int}(h1:65<=n)(h2:n<=90) : kd n=4 := by unfold kd;rw[if_neg (by omega),if_neg (by omega),if_pos (.inr ⟨h1,h2⟩)]
theorem qW9 {n:Int}(h1:48<=n)(h2:n<=57) : kd n=5 := by unfold kd;rw[if_neg (by omega),if_neg (by omega),if_neg (by omega),if_pos ⟨h1,h2⟩]
theorem qYK {n:Int}(h1:n≠126)(h2:n≠94)(h3:¬(97<=n/\n<=122))(h4:¬(65<=n/\n<=90))(h5:¬(48<=n/\n<=57)) : kd n=0 := by
 unfold kd;rw[if_neg h1,if_neg h2,if_neg (by omega),if_neg h5]
theorem qCA (n:Int)(w:World) : Calls Tryz.prog 218 #[.int .u8 n] w fun e w'=>e=.returned (.int .u8 (kd n))/\w=w' := by
 by_cases h1:n=126
 ·subst h1
  go_enter Tryz.func218,Tryz.ntmps218
  go_wp2
  all_goals (go_ret;exact⟨rfl,rfl⟩)
 by_cases h2:n=94
 ·subst h2
  go_enter Tryz.func218,Tryz.ntmps218
  go_wp2
  all_goals (go_ret;exact⟨rfl,rfl⟩)
 have b1:(n == 126)=false:=by simpa using h1
 have b2:(n == 94)=false:=by simpa using h2
 by_cases c1:97<=n<;>by_cases c2:n<=122<;>by_cases c3:65<=n<;>by_cases c4:n<=90<;>by_cases c5:48<=n<;>by_cases c6:n<=57<;>first|(exfalso;omega)|skip
 all_goals (go_enter Tryz.func218,Tryz.ntmps218;go_wp2;go_ret;refine⟨qAU ?_,rfl⟩;first|(rw[qWA (by omega) (by omega)])|(rw[qYL (by omega) (by omega)])|(rw[qW9 (by omega) (by omega)])|(rw[qYK h1 h2 (by omega) (by omega) (by omega)]))
theorem qBY (n:Int)(w:World) : Calls Tryz.prog 215 #[.int .u8 n] w fun e w'=>e=.returned (.int .u8 (kd n))/\w=w' := by
 by_cases h1:n=126
 ·subst h1
  go_enter Tryz.func215,Tryz.ntmps215
  go_wp2
  all_goals (go_ret;exact⟨rfl,rfl⟩)
 by_cases h2:n=94
 ·subst h2
  go_enter Tryz.func215,Tryz.ntmps215
  go_wp2
  all_goals (go_ret;exact⟨rfl,rfl⟩)
 have b1:(n == 126)=false:=by simpa using h1
 have b2:(n == 94)=false:=by simpa using h2
 by_cases c1:97<=n<;>by_cases c2:n<=122<;>by_cases c3:65<=n<;>by_cases c4:n<=90<;>by_cases c5:48<=n<;>by_cases c6:n<=57<;>first|(exfalso;omega)|skip
 all_goals (go_enter Tryz.func215,Tryz.ntmps215;go_wp2;go_ret;refine⟨qAU ?_,rfl⟩;first|(rw[qWA (by omega) (by omega)])|(rw[qYL (by omega) (by omega)])|(rw[qW9 (by omega) (by omega)])|(rw[qYK h1 h2 (by omega) (by omega) (by omega)]))
def zcut (l:qAF) : qAF := l.dropWhile (· == 48)
theorem qKM (s:ByteArray)(_hs:s.size<=9223372036854775807)(w:World) : Calls Tryz.prog 222 #[.string s,.int .u8 48] w fun e w'=>e=.returned (.string (bs (zcut s.toList)))/\w=w' := by
 go_enter Tryz.func222,Tryz.ntmps222
 go_wp2
 go_loop [0] (fun e => ∃t:ByteArray,e=.string t/\t.size<=s.size/\zcut t.toList=zcut s.toList) (fun e=>match e with | .string t=>t.size|_=>0)
 case atStart=>exact⟨s,rfl,Nat.le_refl _,rfl⟩
 case round =>
  obtain⟨t,rfl,hl,he⟩:=hrel;by_cases h0:0<t.size
  ·have hd:=qB2 t 0 h0;simp only[List.drop_zero,Nat.zero_add]at hd;by_cases hb:t[0]=48
   ·have h48:((t[0].toNat:Int) == 48)=true:=by rw[hb];rfl
    have ex:t.extract 1 t.size=bs (t.toList.drop 1):=by
     rw[qDE]
     congr 1
     exact List.take_of_length_le (by rw[List.length_drop,qA7];omega)
    have hz:zcut (bs (t.toList.drop 1)).toList=zcut s.toList:=by
     rw[<- he,hd,qA3,hb];simp[zcut]
    have hd2:=hid hd;have hz2:=hid hz;have ex2:=hid ex;clear hd hz ex;go_wp2
    go_round
    case rel=>exact⟨_,rfl,by simp;omega,by rw[ex2.out];exact hz2.out⟩
    case measure=>simp;omega
   ·have h48:((t[0].toNat:Int) == 48)=false:=(show ((t[0].toNat:Int) == 48)=(t[0] == 48) from qFW t[0] 48 (by omega)).trans (by simpa using hb);have hz:t=bs (zcut s.toList):=by
     rw[<- he,hd];have hb2:(t[0] == 48)=false:=by simpa using hb
     simp only[zcut,List.dropWhile_cons,hb2,Bool.false_eq_true,if_false];rw[<- hd,qCE]
    have hz2:=hid hz;clear hz hd he;go_wp2
    go_ret;exact⟨qGH hz2.out,rfl⟩
  ·have hz:t=bs (zcut s.toList):=by
    rw[<- he];have:t.toList=[]:=List.eq_nil_of_length_eq_zero (by rw[qA7];omega);rw[this];exact (qCE t).symm.trans (by rw[this];rfl)
   have hz2:=hid hz;clear hz he;go_wp2
   go_ret;exact⟨qGH hz2.out,rfl⟩
theorem qNF (s:ByteArray)(hs:s.size<=9223372036854775807)(w:World) : Calls Tryz.prog 219 #[.string s,.string ⟨#[48]⟩] w fun e w'=>e=.returned (.string (bs (zcut s.toList)))/\w=w' := by
 have T:=hid (fun W=>qKM s hs W);have h48:((({ data:=#[48] } : ByteArray)[0]'(by decide)).toNat:Int)=48:=rfl;by_cases hE:s.toList=[]
 ·have hr:=hid (show s=bs (zcut s.toList) by rw[hE];exact (qCE s).symm.trans (by rw[hE];rfl))
  go_enter Tryz.func219,Tryz.ntmps219
  go_wp2
  go_ret;exact⟨qGH hr.out,rfl⟩
 ·have hi:s.toList.isEmpty=false:=by simpa using hE
  go_enter Tryz.func219,Tryz.ntmps219
  go_wp2_with fail
  go_at_call 222
  refine (T.out w).mono ?_;rintro e w1 ⟨rfl,rfl⟩;go_wp2
  go_ret;exact⟨rfl,rfl⟩
def cmpI (a b:Int) : Int := if a<b then -1 else if b<a then 1 else 0
def cmpL (a b:qAF) : Int := if Op.bytesLess a b then -1 else if a == b then 0 else 1
def cmpP (a b:Prt) : Int := if cmpI a.1 b.1≠0 then cmpI a.1 b.1 else if a.1=5/\b.1=5/\cmpI a.2.length b.2.length≠0 then cmpI a.2.length b.2.length else cmpL a.2 b.2
theorem qLH (x:Int)(w:World) : Calls Tryz.prog 200 #[.int .i64 x] w fun e w'=>e=.returned (.bool false)/\w=w' := by
 go_enter Tryz.func200,Tryz.ntmps200
 go_wp2
 go_ret;exact⟨by simp,rfl⟩
theorem qR7 (x:Int)(w:World) : Calls Tryz.prog 220 #[.int .u8 x] w fun e w'=>e=.returned (.bool false)/\w=w' := by
 go_enter Tryz.func220,Tryz.ntmps220
 go_wp2
 go_ret;exact⟨by simp,rfl⟩
theorem qXC (x:ByteArray)(w:World) : Calls Tryz.prog 221 #[.string x] w fun e w'=>e=.returned (.bool false)/\w=w' := by
 go_enter Tryz.func221,Tryz.ntmps221
 go_wp2
 go_ret;exact⟨by simp,rfl⟩
theorem qI1 (a b:Int)(w:World) : Calls Tryz.prog 174 #[.int .i64 a,.int .i64 b] w fun e w'=>e=.returned (.int .i64 (cmpI a b))/\w=w' := by
 unfold cmpI;by_cases h1:a<b
 ·have h2:¬b<a:=by omega
  go_enter Tryz.func174,Tryz.ntmps174
  go_wp2_with (go_at_call 200;refine (qLH _ _).mono ?_;rintro e w' ⟨rfl,rfl⟩)
  go_ret;exact⟨by simp,rfl⟩
 by_cases h2:b<a
 ·go_enter Tryz.func174,Tryz.ntmps174
  go_wp2_with (go_at_call 200;refine (qLH _ _).mono ?_;rintro e w' ⟨rfl,rfl⟩)
  go_ret;exact⟨by simp,rfl⟩
 ·go_enter Tryz.func174,Tryz.ntmps174
  go_wp2_with (go_at_call 200;refine (qLH _ _).mono ?_;rintro e w' ⟨rfl,rfl⟩)
  go_ret;exact⟨by simp,rfl⟩
theorem qQA (a b:Int)(w:World) : Calls Tryz.prog 213 #[.int .u8 a,.int .u8 b] w fun e w'=>e=.returned (.int .i64 (cmpI a b))/\w=w' := by
 unfold cmpI;by_cases h1:a<b
 ·have h2:¬b<a:=by omega
  go_enter Tryz.func213,Tryz.ntmps213
  go_wp2_with (go_at_call 220;refine (qR7 _ _).mono ?_;rintro e w' ⟨rfl,rfl⟩)
  go_ret;exact⟨by simp,rfl⟩
 by_cases h2:b<a
 ·go_enter Tryz.func213,Tryz.ntmps213
  go_wp2_with (go_at_call 220;refine (qR7 _ _).mono ?_;rintro e w' ⟨rfl,rfl⟩)
  go_ret;exact⟨by simp,rfl⟩
 ·go_enter Tryz.func213,Tryz.ntmps213
  go_wp2_with (go_at_call 220;refine (qR7 _ _).mono ?_;rintro e w' ⟨rfl,rfl⟩)
  go_ret;exact⟨by simp,rfl⟩
theorem qL0 (a b:ByteArray)(w:World) : Calls Tryz.prog 214 #[.string a,.string b] w fun e w'=>e=.returned (.int .i64 (cmpL a.toList b.toList))/\w=w' := by
 unfold cmpL;cases h1:Op.bytesLess a.toList b.toList<;>cases h2:a.toList == b.toList
 all_goals
  go_enter Tryz.func214,Tryz.ntmps214
  go_wp2_with (go_at_call 221;refine (qXC _ _).mono ?_;rintro e w' ⟨rfl,rfl⟩)
  go_ret;exact⟨rfl,rfl⟩
end
section
open Go.RowKit Go.Shelf
attribute [local go_sem] Oper.semAt_some
theorem qBI {P:Program}{o:Oper}{a:Act}{C:World->Prop} : Oper.askedIn Fence.wide P o a C=True := by simp[Oper.askedIn,Fence.wide]
attribute [local go_sem ↓ high] qBI
def qDB (x:Prt) : Array Value := #[.agg #[.int .u8 x.1,.string (bs x.2)]]
def Upto (p:UInt8->Bool)(s:ByteArray)(k m:Nat) : Prop := (s.toList.drop (k+1)).takeWhile p=(s.toList.drop (k+1)).take m++(s.toList.drop (k+1+m)).takeWhile p
def Done (p:UInt8->Bool)(s:ByteArray)(k m:Nat) : Prop := (s.toList.drop (k+1)).takeWhile p=(s.toList.drop (k+1)).take m
theorem Upto.next {p:UInt8->Bool}{s:ByteArray}{k m:Nat}(h:Upto p s k m)(hlt:k+1+m<s.size) : (p s[k+1+m]=true->Upto p s k (m+1))/\(p s[k+1+m]=false->Done p s k m) := by
 unfold Upto at h;rw[qB2 s (k+1+m) hlt]at h;constructor
 ·intro g;unfold Upto;rw[List.takeWhile_cons_of_pos g]at h;rw[h,qAX _ m (by rw[List.length_drop,qA7];omega)];rw[List.getElem_drop,qBU s (k+1+m) hlt,List.append_assoc,List.singleton_append];rfl
 ·intro g;rw[List.takeWhile_cons_of_neg (by simp[g]),List.append_nil]at h;exact h
theorem Upto.last {p:UInt8->Bool}{s:ByteArray}{k m:Nat}(h:Upto p s k m)(hm:k+1+m=s.size) : Done p s k m := by
 unfold Upto at h;rw[List.drop_of_length_le (i:=k+1+m) (by rw[qA7];omega)]at h
 simpa [Done] using h
theorem Done.cut {p:UInt8->Bool}{s:ByteArray}{k m:Nat}(h:Done p s k m)(hlt:k<s.size) : s.extract k (k+1+m)=bs (s[k]::(s.toList.drop (k+1)).takeWhile p) := by
 rw[qDE,h,qB2 s k hlt];rw[show k+1+m - k=m+1 from by omega,List.take_succ_cons]
theorem Done.len {p:UInt8->Bool}{s:ByteArray}{k m:Nat}(h:Done p s k m)(hm:k+1+m<=s.size) : ((s.toList.drop (k+1)).takeWhile p).length=m := by
 rw[h,List.length_take,List.length_drop,qA7];omega
theorem Done.rest {p:UInt8->Bool}{s:ByteArray}{k m:Nat}(h:Done p s k m)(hm:k+1+m<=s.size) : (s.toList.drop (k+1)).dropWhile p=s.toList.drop (k+1+m) := by
 have h1:=List.takeWhile_append_dropWhile (p:=p) (l:=s.toList.drop (k+1));have h2:(s.toList.drop (k+1)).dropWhile p=(s.toList.drop (k+1)).drop ((s.toList.drop (k+1)).takeWhile p).length:=by
  have h3:∀(a b c:qAF),a++b=c->b=c.drop a.length:=by
   intro a b c e;rw[<- e,List.drop_left]
  exact h3 _ _ _ h1
 rw[h2,h.len hm,List.drop_drop]
theorem qMY (c:UInt8) : kk c=0 \/ (kk c≠0/\kk c<4) \/ kk c=4 \/ kk c=5 := by
 unfold kk;rcases qMX c.toNat with h|h|h|h|h<;>rw[h]<;>simp
theorem qFI {c d:UInt8}{v:Int}(g:kk c=v)(h:kd (d.toNat : Int)=v) : like c d=true := by
 unfold like;rw[g];simpa [kk] using h
theorem qID {c d:UInt8}{v:Int}(g:kk c=v)(h:¬kd (d.toNat : Int)=v) : like c d=false := by
 unfold like;rw[g];simpa [kk] using h
theorem qDK {c:UInt8}(l:qAF)(h:kk c=5) : pts (c::l)=(5,zcut (c::l.takeWhile (like c)))::pts (l.dropWhile (like c)) := qXF l h
theorem qAE {w w':World}(h:Below w.heap.size w w') : w.grownBy w' none := ⟨h.os,h.tape,h.output,h.size,fun k hk _=>h.block k hk⟩
def KBox (Bs:Nat)(W W':World) : Prop := W'.cell? ⟨Bs,0,none⟩=W.cell? ⟨Bs,0,none⟩/\W.heap.size<=W'.heap.size
def qF1 (w:World)(Bs:Nat)(s:ByteArray)(v:Int)(A:World) : Prop :=
 A.cell? ⟨Bs,0,none⟩=some (.string s)/\A.cell? ⟨w.heap.size,0,none⟩=some (.int .u8 v)/\A.cell? ⟨w.heap.size,1,none⟩=some (.string ⟨#[]⟩) /\
  A.frozen? ⟨w.heap.size,1,none⟩=false/\Below w.heap.size w A
theorem qFL (w:World)(Bs:Nat)(s:ByteArray)(v:Int)(hc:w.cell? ⟨Bs,0,none⟩=some (.string s))(hlt:Bs<w.heap.size) :
  qF1 w Bs s v (w.alloc (.cells #[.int .u8 v,.string ⟨#[]⟩] 218)) :=
 ⟨(World.cell?_alloc_lt w _ ⟨Bs,0,none⟩ hlt).trans hc,(World.cell?_alloc_at _ _ _ _ rfl).trans rfl,(World.cell?_alloc_at _ _ _ _ rfl).trans rfl,World.frozen?_alloc_at _ _ _ _ rfl,bR.alloc lR _⟩
theorem qF1.drewN {w:World}{Bs:Nat}{s:ByteArray}{v:Int}{A:World}(h:qF1 w Bs s v A)(n:Nat) : qF1 w Bs s v (A.drewN n) := ⟨h.1,h.2.1,h.2.2.1,h.2.2.2.1,h.2.2.2.2.trans ⟨rfl,rfl,rfl,Nat.le_refl _,fun _ _=>rfl⟩⟩
theorem qRQ (n:Nat)(l Bs:Nat)(s:ByteArray)(hs:s.size<=9223372036854775807)(J Jx:List Prt->World->Prop)
  (hY:∀pre x W,J pre W->pre.length<(pts s.toList).length->YieldAt Fence.wide (n - 1) Tryz.prog l (qDB x) W fun e W' =>
   (e=.returned (.bool true)/\J (pre++[x]) W'/\KBox Bs W W') \/ (e=.returned (.bool false)/\Jx (pre++[x]) W'))
  (W:World) (hBs:W.cell? ⟨Bs,0,none⟩=some (.string s)) (hBn:Bs<W.heap.size) (hAb:AbidesFrom W.heap.size J) (h0:J [] W) :
  CallsIn Fence.wide n Tryz.prog 217 #[.func (.yield l) #[] #[],.pointer (some ⟨Bs,0,none⟩)] W fun e W'=>(∃v,e=.returned v) /\
   ((∃ys,ys=pts s.toList/\J ys W') \/ (∃pre,pre <+: pts s.toList/\Jx pre W')):=by
 refine callsIn_of_wp Tryz.func217 rfl trivial ?_ rfl;simp only[Tryz.ntmps217,List.size_toArray,List.length_cons,List.length_nil,Nat.reduceAdd,Nat.reduceSub,Array.replicate_succ,Array.replicate_zero,List.push_toArray,List.append_toArray,List.nil_append,List.cons_append];gi_wp2
 gi_loopw [3] (fun i wr => ∃(k:Nat) (pre:List Prt),k<=s.size/\i=.int .i64 k/\pts s.toList=pre++pts (s.toList.drop k)/\J pre wr/\wr.cell? ⟨Bs,0,none⟩=some (.string s)/\W.heap.size<=wr.heap.size)
  (fun i _=>s.size - (intOf i).toNat)
 case atStart=>exact⟨0,[],Nat.zero_le _,rfl,by simp,h0,hBs,Nat.le_refl _⟩
 case round =>
  obtain⟨k,pre,hk,rfl,hp,hJs,hc,hsz⟩:=hrel;by_cases hlt:k<s.size
  ·have hdr:=hid (qB2 s k hlt);have hp':=hid hp;clear hp;have hmx:Tryz.prog.follows .mixedOrders=true:=by kernel_rfl
   rename World=>w0
   rcases qMY s[k] with g|g|g|g
   ·have hk0:kd (s[k].toNat:Int)=0:=g;gi_wp2_with (refine⟨trivial,fun h=>absurd h (by decide),?_⟩;gi_at_call 218;refine (callsIn_wide.2 (qCA _ _)).mono ?_;rintro e w' ⟨rfl,rfl⟩)
    have q:=qFL w0 Bs s (0) hc (by omega);generalize w0.alloc (.cells #[.int .u8 (0),.string ⟨#[]⟩] 218)=A at *
    gi_loopw [3] (fun e W2=>e=.int .i64 ((k+1:Nat):Int)/\qF1 w0 Bs s 0 W2) (fun e _=>s.size - (intOf e).toNat)
    case atStart=>exact⟨by go_num,q⟩
    case round =>
     obtain⟨rfl,q⟩:=hrel;obtain⟨q1,q2,q3,q4,q5⟩:=id q;gi_wp2
     gi_quiet (fail)
     have q':=q.drewN nq;clear q q1 q2 q3 q4 q5;generalize World.drewN wr nq=A at *;obtain⟨q1,q2,q3,q4,q5⟩:=id q';gi_wp2
     refine⟨(fun _ h=>by cases h),?_⟩;gi_wp2
     have hq:=hAb pre w0 A none hJs (qAE q5) (fun _ h=>by cases h);have hqs:=q5.size;go_roundw
     case rel=>exact⟨k+1,pre,by omega,by go_num,by rw[hp'.out,hdr.out,qN5 _ g],hq,q1,by omega⟩
     case measure=>simp[intOf];omega
   ·have hk0:((kd (s[k].toNat:Int)) == 0)=false:=by have:=g.1;simp only[kk]at this;simpa using this
    have hk00:¬kd (s[k].toNat:Int)=0:=by have:=g.1;simp only[kk]at this;exact this
    have hk5:((kd (s[k].toNat:Int)) == 5)=false:=by have:=g.2;simp only[kk]at this;simp;omega
    have hk4:decide ((4:Int)<=kd (s[k].toNat:Int))=false:=decide_eq_false (by have:=g.2;simp only[kk]at this;omega);gi_wp2_with (refine⟨trivial,fun h=>absurd h (by decide),?_⟩;gi_at_call 218;refine (callsIn_wide.2 (qCA _ _)).mono ?_;rintro e w' ⟨rfl,rfl⟩)
    have q:=qFL w0 Bs s (kd (s[k].toNat:Int)) hc (by omega);generalize w0.alloc (.cells #[.int .u8 (kd (s[k].toNat:Int)),.string ⟨#[]⟩] 218)=A at *
    gi_loopw [3] (fun e W2=>e=.int .i64 ((k+1:Nat):Int)/\qF1 w0 Bs s (kd (s[k].toNat:Int)) W2) (fun e _=>s.size - (intOf e).toNat)
    case atStart=>exact⟨by go_num,q⟩
    case round =>
     obtain⟨rfl,q⟩:=hrel;obtain⟨q1,q2,q3,q4,q5⟩:=id q;gi_wp2
     gi_quiet (fail)
     have q':=q.drewN nq;clear q q1 q2 q3 q4 q5;generalize World.drewN wr nq=A at *;obtain⟨q1,q2,q3,q4,q5⟩:=id q';have hq:=q5;obtain⟨fn,tmps,assign,body,hy,hR⟩:=hY pre (kk s[k],[]) (A) (hAb pre w0 _ none hJs (qAE hq) (fun _ h=>by cases h)) (by rw[hp'.out,hdr.out,qIK _ g.1 g.2];simp);have hcq:=hid ((hq.cell (p:=⟨Bs,0,none⟩) (show Bs<w0.heap.size by omega)).trans hc);have hqs:=hq.size;clear hq;unfold qDB at hy;dsimp only at hy;rw[show bs []=⟨#[]⟩ from rfl]at hy;unfold kk at hy;gi_wp2
     refine⟨fun h=>absurd h (by decide),hR.mono ?_⟩;rintro e W3 (⟨rfl,hJ3,hk3⟩|⟨rfl,hJx3⟩)
     ·have hc3:=hk3.1.trans hcq.out;have hs3:=Nat.le_trans (Nat.le_trans hsz hqs) hk3.2;clear hk3;gi_wp2
      go_roundw
      case rel=>exact⟨k+1,pre++[(kk s[k],[])],by omega,by go_num,by rw[hp'.out,hdr.out,qIK _ g.1 g.2];simp,hJ3,hc3,hs3⟩
      case measure=>simp[intOf];omega
     ·gi_wp2
      refine bodyPost_ret (results_none rfl _ _ _) rfl ?_;exact⟨⟨_,rfl⟩,.inr ⟨_,⟨_,by rw[hp'.out,hdr.out,qIK _ g.1 g.2,List.append_assoc];rfl⟩,hJx3⟩⟩
   ·have hk0:kd (s[k].toNat:Int)=4:=g;gi_wp2_with (refine⟨trivial,fun h=>absurd h (by decide),?_⟩;gi_at_call 218;refine (callsIn_wide.2 (qCA _ _)).mono ?_;rintro e w' ⟨rfl,rfl⟩)
    have q:=qFL w0 Bs s (4) hc (by omega);generalize w0.alloc (.cells #[.int .u8 (4),.string ⟨#[]⟩] 218)=A at *
    gi_loopw [3] (fun e W2 => ∃m:Nat,k+1+m<=s.size/\e=.int .i64 ((k+1+m:Nat):Int)/\Upto (like s[k]) s k m/\qF1 w0 Bs s 4 W2) (fun e _=>s.size - (intOf e).toNat)
    case atStart=>exact⟨0,by omega,by go_num,by unfold Upto;simp,q⟩
    case round =>
     obtain⟨m,hm,rfl,hup,q⟩:=hrel;obtain⟨q1,q2,q3,q4,q5⟩:=id q;by_cases hlt2:k+1+m<s.size
     ·have hup2:=Upto.next hup hlt2;have hgt0:(0:Int)<=(k:Int)+1+(m:Int):=by omega
      have hgt:(k:Int)+1+(m:Int)<(s.size:Int):=by omega
      by_cases hin:kd (s[k+1+m].toNat:Int)=4
      ·have H2:=hid (hup2.1 (qFI g hin));clear hup hup2;gi_wp2
       gi_quiet (exact⟨fun h=>absurd h (by decide),callsIn_wide.2 ((qCA _ _).mono (fun _ _ h=>⟨h.1,_,h.2.symm⟩))⟩)
       have q':=q.drewN nq;clear q q1 q2 q3 q4 q5;generalize World.drewN wr nq=A at *;obtain⟨q1,q2,q3,q4,q5⟩:=id q';gi_wp2
       go_roundw
       case rel=>exact⟨m+1,by omega,by go_num,H2.out,q'⟩
       case measure=>simp[intOf];omega
      ·have H2:=hid (hup2.2 (qID g hin));have hin2:(kd (s[k+1+m].toNat:Int) == 4)=false:=by simpa using hin
       clear hup hup2 hin;have he:=hid (Done.cut H2.out hlt);gi_wp2
       gi_quiet (exact⟨fun h=>absurd h (by decide),callsIn_wide.2 ((qCA _ _).mono (fun _ _ h=>⟨h.1,_,h.2.symm⟩))⟩)
       have q':=q.drewN nq;clear q q1 q2 q3 q4 q5;generalize World.drewN wr nq=A at *;obtain⟨q1,q2,q3,q4,q5⟩:=id q';have hq:=q5.setCell (p:=⟨w0.heap.size,1,none⟩) lR (.string (s.extract k (k+1+m)));obtain⟨fn,tmps,assign,body,hy,hR⟩:=hY pre (4,s[k]::(s.toList.drop (k+1)).takeWhile (like s[k])) (A.setCell ⟨w0.heap.size,1,none⟩ (.string (s.extract k (k+1+m)))) (hAb pre w0 _ none hJs (qAE hq) (fun _ h=>by cases h)) (by rw[hp'.out,hdr.out,qDL _ g];simp);have hcq:=hid ((hq.cell (p:=⟨Bs,0,none⟩) (show Bs<w0.heap.size by omega)).trans hc);have hqs:=hq.size;clear hq;unfold qDB at hy;dsimp only at hy;rw[<- he.out]at hy;gi_wp2
       refine⟨fun h=>absurd h (by decide),hR.mono ?_⟩;rintro e W3 (⟨rfl,hJ3,hk3⟩|⟨rfl,hJx3⟩)
       ·have hc3:=hk3.1.trans hcq.out;have hs3:=Nat.le_trans (Nat.le_trans hsz hqs) hk3.2;clear hk3;gi_wp2
        go_roundw
        case rel=>exact⟨k+1+m,pre++[(4,s[k]::(s.toList.drop (k+1)).takeWhile (like s[k]))],by omega,by go_num,by rw[hp'.out,hdr.out,qDL _ g,H2.out.rest hm];simp,hJ3,hc3,hs3⟩
        case measure=>simp[intOf];omega
       ·gi_wp2
        refine bodyPost_ret (results_none rfl _ _ _) rfl ?_;exact⟨⟨_,rfl⟩,.inr ⟨_,⟨_,by rw[hp'.out,hdr.out,qDL _ g,H2.out.rest hm,List.append_assoc];rfl⟩,hJx3⟩⟩
     ·have H2:=hid (Upto.last hup (by omega));have hgd:decide ((k:Int)+1+(m:Int)<(s.size:Int))=false:=decide_eq_false (by omega);clear hup;have he:=hid (Done.cut H2.out hlt);gi_wp2
      gi_quiet (fail)
      have q':=q.drewN nq;clear q q1 q2 q3 q4 q5;generalize World.drewN wr nq=A at *;obtain⟨q1,q2,q3,q4,q5⟩:=id q';have hq:=q5.setCell (p:=⟨w0.heap.size,1,none⟩) lR (.string (s.extract k (k+1+m)));obtain⟨fn,tmps,assign,body,hy,hR⟩:=hY pre (4,s[k]::(s.toList.drop (k+1)).takeWhile (like s[k])) (A.setCell ⟨w0.heap.size,1,none⟩ (.string (s.extract k (k+1+m)))) (hAb pre w0 _ none hJs (qAE hq) (fun _ h=>by cases h)) (by rw[hp'.out,hdr.out,qDL _ g];simp);have hcq:=hid ((hq.cell (p:=⟨Bs,0,none⟩) (show Bs<w0.heap.size by omega)).trans hc);have hqs:=hq.size;clear hq;unfold qDB at hy;dsimp only at hy;rw[<- he.out]at hy;gi_wp2
      refine⟨fun h=>absurd h (by decide),hR.mono ?_⟩;rintro e W3 (⟨rfl,hJ3,hk3⟩|⟨rfl,hJx3⟩)
      ·have hc3:=hk3.1.trans hcq.out;have hs3:=Nat.le_trans (Nat.le_trans hsz hqs) hk3.2;clear hk3;gi_wp2
       go_roundw
       case rel=>exact⟨k+1+m,pre++[(4,s[k]::(s.toList.drop (k+1)).takeWhile (like s[k]))],by omega,by go_num,by rw[hp'.out,hdr.out,qDL _ g,H2.out.rest hm];simp,hJ3,hc3,hs3⟩
       case measure=>simp[intOf];omega
      ·gi_wp2
       refine bodyPost_ret (results_none rfl _ _ _) rfl ?_;exact⟨⟨_,rfl⟩,.inr ⟨_,⟨_,by rw[hp'.out,hdr.out,qDL _ g,H2.out.rest hm,List.append_assoc];rfl⟩,hJx3⟩⟩
   ·have hk0:kd (s[k].toNat:Int)=5:=g;gi_wp2_with (refine⟨trivial,fun h=>absurd h (by decide),?_⟩;gi_at_call 218;refine (callsIn_wide.2 (qCA _ _)).mono ?_;rintro e w' ⟨rfl,rfl⟩)
    have q:=qFL w0 Bs s (5) hc (by omega);generalize w0.alloc (.cells #[.int .u8 (5),.string ⟨#[]⟩] 218)=A at *
    gi_loopw [3] (fun e W2 => ∃m:Nat,k+1+m<=s.size/\e=.int .i64 ((k+1+m:Nat):Int)/\Upto (like s[k]) s k m/\qF1 w0 Bs s 5 W2) (fun e _=>s.size - (intOf e).toNat)
    case atStart=>exact⟨0,by omega,by go_num,by unfold Upto;simp,q⟩
    case round =>
     obtain⟨m,hm,rfl,hup,q⟩:=hrel;obtain⟨q1,q2,q3,q4,q5⟩:=id q;by_cases hlt2:k+1+m<s.size
     ·have hup2:=Upto.next hup hlt2;have hgt0:(0:Int)<=(k:Int)+1+(m:Int):=by omega
      have hgt:(k:Int)+1+(m:Int)<(s.size:Int):=by omega
      by_cases hin:kd (s[k+1+m].toNat:Int)=5
      ·have H2:=hid (hup2.1 (qFI g hin));clear hup hup2;gi_wp2
       gi_quiet (exact⟨fun h=>absurd h (by decide),callsIn_wide.2 ((qCA _ _).mono (fun _ _ h=>⟨h.1,_,h.2.symm⟩))⟩)
       have q':=q.drewN nq;clear q q1 q2 q3 q4 q5;generalize World.drewN wr nq=A at *;obtain⟨q1,q2,q3,q4,q5⟩:=id q';gi_wp2
       go_roundw
       case rel=>exact⟨m+1,by omega,by go_num,H2.out,q'⟩
       case measure=>simp[intOf];omega
      ·have H2:=hid (hup2.2 (qID g hin));have hin2:(kd (s[k+1+m].toNat:Int) == 5)=false:=by simpa using hin
       clear hup hup2 hin;have he:=hid (Done.cut H2.out hlt);gi_wp2
       gi_quiet (exact⟨fun h=>absurd h (by decide),callsIn_wide.2 ((qCA _ _).mono (fun _ _ h=>⟨h.1,_,h.2.symm⟩))⟩)
       have q':=q.drewN nq;clear q q1 q2 q3 q4 q5;generalize World.drewN wr nq=A at *;obtain⟨q1,q2,q3,q4,q5⟩:=id q';have hq:=(q5.setCell (p:=⟨w0.heap.size,1,none⟩) lR (.string (s.extract k (k+1+m)))).setCell (p:=⟨w0.heap.size,1,none⟩) lR (.string (bs (zcut (s.extract k (k+1+m)).toList)));obtain⟨fn,tmps,assign,body,hy,hR⟩:=hY pre (5,zcut (s[k]::(s.toList.drop (k+1)).takeWhile (like s[k]))) ((A.setCell ⟨w0.heap.size,1,none⟩ (.string (s.extract k (k+1+m)))).setCell ⟨w0.heap.size,1,none⟩ (.string (bs (zcut (s.extract k (k+1+m)).toList)))) (hAb pre w0 _ none hJs (qAE hq) (fun _ h=>by cases h)) (by rw[hp'.out,hdr.out,qDK _ g];simp);have hcq:=hid ((hq.cell (p:=⟨Bs,0,none⟩) (show Bs<w0.heap.size by omega)).trans hc);have hqs:=hq.size;clear hq;unfold qDB at hy;dsimp only at hy;have T:=hid (fun W=>qNF (s.extract k (k+1+m)) (by simp;omega) W);have hz:=hid (show bs (zcut (s.extract k (k+1+m)).toList)=bs (zcut (s[k]::(s.toList.drop (k+1)).takeWhile (like s[k]))) by rw[he.out,qA3]);rw[<- hz.out]at hy;gi_wp2_with (refine⟨trivial,fun h=>absurd h (by decide),?_⟩;gi_at_call 219;refine (callsIn_wide.2 (T.out _)).mono ?_;rintro e w' ⟨rfl,rfl⟩)
       refine⟨fun h=>absurd h (by decide),hR.mono ?_⟩;rintro e W3 (⟨rfl,hJ3,hk3⟩|⟨rfl,hJx3⟩)
       ·have hc3:=hk3.1.trans hcq.out;have hs3:=Nat.le_trans (Nat.le_trans hsz hqs) hk3.2;clear hk3;gi_wp2
        go_roundw
        case rel=>exact⟨k+1+m,pre++[(5,zcut (s[k]::(s.toList.drop (k+1)).takeWhile (like s[k])))],by omega,by go_num,by rw[hp'.out,hdr.out,qDK _ g,H2.out.rest hm];simp,hJ3,hc3,hs3⟩
        case measure=>simp[intOf];omega
       ·gi_wp2
        refine bodyPost_ret (results_none rfl _ _ _) rfl ?_;exact⟨⟨_,rfl⟩,.inr ⟨_,⟨_,by rw[hp'.out,hdr.out,qDK _ g,H2.out.rest hm,List.append_assoc];rfl⟩,hJx3⟩⟩
     ·have H2:=hid (Upto.last hup (by omega));have hgd:decide ((k:Int)+1+(m:Int)<(s.size:Int))=false:=decide_eq_false (by omega);clear hup;have he:=hid (Done.cut H2.out hlt);gi_wp2
      gi_quiet (fail)
      have q':=q.drewN nq;clear q q1 q2 q3 q4 q5;generalize World.drewN wr nq=A at *;obtain⟨q1,q2,q3,q4,q5⟩:=id q';have hq:=(q5.setCell (p:=⟨w0.heap.size,1,none⟩) lR (.string (s.extract k (k+1+m)))).setCell (p:=⟨w0.heap.size,1,none⟩) lR (.string (bs (zcut (s.extract k (k+1+m)).toList)));obtain⟨fn,tmps,assign,body,hy,hR⟩:=hY pre (5,zcut (s[k]::(s.toList.drop (k+1)).takeWhile (like s[k]))) ((A.setCell ⟨w0.heap.size,1,none⟩ (.string (s.extract k (k+1+m)))).setCell ⟨w0.heap.size,1,none⟩ (.string (bs (zcut (s.extract k (k+1+m)).toList)))) (hAb pre w0 _ none hJs (qAE hq) (fun _ h=>by cases h)) (by rw[hp'.out,hdr.out,qDK _ g];simp);have hcq:=hid ((hq.cell (p:=⟨Bs,0,none⟩) (show Bs<w0.heap.size by omega)).trans hc);have hqs:=hq.size;clear hq;unfold qDB at hy;dsimp only at hy;have T:=hid (fun W=>qNF (s.extract k (k+1+m)) (by simp;omega) W);have hz:=hid (show bs (zcut (s.extract k (k+1+m)).toList)=bs (zcut (s[k]::(s.toList.drop (k+1)).takeWhile (like s[k]))) by rw[he.out,qA3]);rw[<- hz.out]at hy;gi_wp2_with (refine⟨trivial,fun h=>absurd h (by decide),?_⟩;gi_at_call 219;refine (callsIn_wide.2 (T.out _)).mono ?_;rintro e w' ⟨rfl,rfl⟩)
      refine⟨fun h=>absurd h (by decide),hR.mono ?_⟩;rintro e W3 (⟨rfl,hJ3,hk3⟩|⟨rfl,hJx3⟩)
      ·have hc3:=hk3.1.trans hcq.out;have hs3:=Nat.le_trans (Nat.le_trans hsz hqs) hk3.2;clear hk3;gi_wp2
       go_roundw
       case rel=>exact⟨k+1+m,pre++[(5,zcut (s[k]::(s.toList.drop (k+1)).takeWhile (like s[k])))],by omega,by go_num,by rw[hp'.out,hdr.out,qDK _ g,H2.out.rest hm];simp,hJ3,hc3,hs3⟩
       case measure=>simp[intOf];omega
      ·gi_wp2
       refine bodyPost_ret (results_none rfl _ _ _) rfl ?_;exact⟨⟨_,rfl⟩,.inr ⟨_,⟨_,by rw[hp'.out,hdr.out,qDK _ g,H2.out.rest hm,List.append_assoc];rfl⟩,hJx3⟩⟩
  ·obtain rfl:k=s.size:=by omega
   gi_wp2
   go_end0
   exact⟨⟨_,rfl⟩,.inl ⟨_,by rw[hp,List.drop_of_length_le (by rw[qA7];omega)];simp[qRZ],hJs⟩⟩
