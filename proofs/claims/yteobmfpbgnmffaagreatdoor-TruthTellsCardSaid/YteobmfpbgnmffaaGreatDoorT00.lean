import Derived.Test.YteobmfpbgnmffaaGreatDoorRows
import Derived.WalkKit
import Derived.WalkSpells
import Derived.Below
import Derived.Lib.Hide
namespace Go.Proofs.YteobmfpbgnmffaaGreatDoor
open Go Go.RowKit
theorem dq {X:Array Edge}{Q:Edge → Prop}(h:∀e∈X,Region.binds .any e=true → Q e)(j:Nat)(hm:(⟨j,.data⟩:Edge)∈X := by simp) : Q ⟨j,.data⟩ := h _ hm rfl
theorem gd {X:Array Edge}{Q:Edge → Prop}(h:∀e∈X,Region.binds .any e=true → Q e)(j:Nat)(hm:(⟨j,.guard⟩:Edge)∈X := by simp) : Q ⟨j,.guard⟩ := h _ hm rfl
theorem bR {B:Nat}{w:World} : Below B w w := Below.refl B w
theorem lR {n:Nat} : n ≤ n := Nat.le_refl n
theorem gT : (∀(a:Oper) (l:List Oper) (i:Nat),(a::l).take (i+1)=a::l.take i) ∧ (∀l : List Oper,l.take 0=[]) ∧ (∀(a:Oper) (l:List Oper) (i:Nat),(a::l).drop (i+1)=l.drop i) ∧ (∀l : List Oper,l.drop 0=l) := ⟨fun _ _ _=>rfl,fun _=>rfl,fun _ _ _=>rfl,fun _=>rfl⟩
theorem bF:¬(false=true) := Bool.false_ne_true
theorem wN {c:Prop}[Decidable c]{a b:Prop}(h:¬c)(k:b) : if c then a else b := by rw[if_neg h];exact k
theorem gE : (∀(l:List Oper) (i:Nat),l.toArray[i]?=l[i]?) ∧ (∀(a:Oper) (l:List Oper),(a::l)[0]?=some a) ∧ (∀(a:Oper) (l:List Oper) (i:Nat),(a::l)[i+1]?=l[i]?) ∧ (∀a b : Oper,(some a=some b)=(a=b)) :=
 ⟨fun _ _=>List.getElem?_toArray,fun _ _=>List.getElem?_cons_zero,fun _ _ _=>List.getElem?_cons_succ,fun a b=>Option.some.injEq a b⟩
theorem gP : (∀(l:List Value) (i:Nat) (v:Value),l.toArray.setIfInBounds i v=(l.set i v).toArray) ∧ (∀(a b:Value) (l:List Value),(a::l).set 0 b=b::l) ∧ (∀(a b:Value) (l:List Value) (i:Nat),(a::l).set (i+1) b=a::l.set i b) :=
 ⟨fun _ _ _=>List.setIfInBounds_toArray ..,fun _ _ _=>List.set_cons_zero,fun _ _ _ _=>List.set_cons_succ⟩
theorem gQ : (∀(t:Array Value) (ds:List Deferred) (d:Tmp) (v:Value),Act.put ⟨t,ds⟩ (some d) v=⟨t.setIfInBounds d v,ds⟩) ∧ (∀(l:List Value) (i:Nat) (v:Value),l.toArray.setIfInBounds i v=(l.set i v).toArray) ∧ (∀(a b:Value) (l:List Value),(a::l).set 0 b=b::l) ∧ (∀(a b:Value) (l:List Value) (i:Nat),(a::l).set (i+1) b=a::l.set i b) :=
 ⟨fun _ _ _ _=>rfl,gP⟩
theorem c6_ {i:Nat}(h:i<6) : i=0∨i=1∨i=2∨i=3∨i=4∨i=5 := by omega
theorem c7_ {i:Nat}(h:i<7) : i=0∨i=1∨i=2∨i=3∨i=4∨i=5∨i=6 := by omega
theorem c8_ {i:Nat}(h:i<8) : i=0∨i=1∨i=2∨i=3∨i=4∨i=5∨i=6∨i=7 := by omega
theorem c9_ {i:Nat}(h:i<9) : i=0∨i=1∨i=2∨i=3∨i=4∨i=5∨i=6∨i=7∨i=8 := by omega
theorem c10_ {i:Nat}(h:i<10) : i=0∨i=1∨i=2∨i=3∨i=4∨i=5∨i=6∨i=7∨i=8∨i=9 := by omega
theorem c12_ {i:Nat}(h:i<12) : i=0∨i=1∨i=2∨i=3∨i=4∨i=5∨i=6∨i=7∨i=8∨i=9∨i=10∨i=11 := by omega
theorem c13_ {i:Nat}(h:i<13) : i=0∨i=1∨i=2∨i=3∨i=4∨i=5∨i=6∨i=7∨i=8∨i=9∨i=10∨i=11∨i=12 := by omega
theorem c14_ {i:Nat}(h:i<14) : i=0∨i=1∨i=2∨i=3∨i=4∨i=5∨i=6∨i=7∨i=8∨i=9∨i=10∨i=11∨i=12∨i=13 := by omega
theorem c15_ {i:Nat}(h:i<15) : i=0∨i=1∨i=2∨i=3∨i=4∨i=5∨i=6∨i=7∨i=8∨i=9∨i=10∨i=11∨i=12∨i=13∨i=14 := by omega
theorem c16_ {i:Nat}(h:i<16) : i=0∨i=1∨i=2∨i=3∨i=4∨i=5∨i=6∨i=7∨i=8∨i=9∨i=10∨i=11∨i=12∨i=13∨i=14∨i=15 := by omega
theorem c18_ {i:Nat}(h:i<18) : i=0∨i=1∨i=2∨i=3∨i=4∨i=5∨i=6∨i=7∨i=8∨i=9∨i=10∨i=11∨i=12∨i=13∨i=14∨i=15∨i=16∨i=17 := by omega
theorem c20_ {i:Nat}(h:i<20) : i=0∨i=1∨i=2∨i=3∨i=4∨i=5∨i=6∨i=7∨i=8∨i=9∨i=10∨i=11∨i=12∨i=13∨i=14∨i=15∨i=16∨i=17∨i=18∨i=19 := by omega
theorem c21_ {i:Nat}(h:i<21) : i=0∨i=1∨i=2∨i=3∨i=4∨i=5∨i=6∨i=7∨i=8∨i=9∨i=10∨i=11∨i=12∨i=13∨i=14∨i=15∨i=16∨i=17∨i=18∨i=19∨i=20 := by omega
theorem c42_ {i:Nat}(h:i<42) : i=0∨i=1∨i=2∨i=3∨i=4∨i=5∨i=6∨i=7∨i=8∨i=9∨i=10∨i=11∨i=12∨i=13∨i=14∨i=15∨i=16∨i=17∨i=18∨i=19∨i=20∨i=21∨i=22∨i=23∨i=24∨i=25∨i=26∨i=27∨i=28∨i=29∨i=30∨i=31∨i=32∨i=33∨i=34∨i=35∨i=36∨i=37∨i=38∨i=39∨i=40∨i=41 := by omega
end Go.Proofs.YteobmfpbgnmffaaGreatDoor
