/- R14P -/
import Derived.Test.YteobmfpbgnmffaaGreatDoorT19
set_option linter.unusedVariables false
set_option linter.unusedSimpArgs false
namespace Go.Proofs.YteobmfpbgnmffaaGreatDoor
open Go.RowKit Go.Shelf
namespace Tr
section
variable {N:Nat}{pv:Nat->Dp->Bool}{S:List Int}
def inN (N:Nat)(p:Nat->Bool)(z:Int) : Bool := decide (0<=z/\z<(N:Int)) && p z.toNat
theorem inN_out {p:Nat->Bool}{z:Int}(h:¬(0<=z/\z<(N:Int))) : inN N p z=false := by unfold inN;rw[decide_eq_false h];rfl
theorem inN_in {p:Nat->Bool}{z:Int}(h:0<=z/\z<(N:Int)) : inN N p z=p z.toNat := by unfold inN;rw[decide_eq_true h];rfl
theorem qIW (p:Nat->Bool) : S.any (inN N p)=anyN N fun n=>St.inS S n && p n := by
 rw[Bool.eq_iff_iff];unfold anyN;simp only[List.any_eq_true,List.mem_range,Bool.and_eq_true];constructor
 ·rintro⟨z,hz,h⟩;unfold inN at h;rw[Bool.and_eq_true,decide_eq_true_eq]at h;obtain⟨⟨h0,h1⟩,h2⟩:=h;refine⟨z.toNat,by omega,?_,h2⟩;unfold St.inS;exact List.any_eq_true.2 ⟨z,hz,by rw[beq_iff_eq];omega⟩
 ·rintro⟨n,hn,h1,h2⟩;unfold St.inS at h1;obtain⟨z,hz,e⟩:=List.any_eq_true.1 h1;rw[beq_iff_eq]at e;subst e;exact⟨_,hz,by unfold inN;rw[decide_eq_true ⟨by omega,by omega⟩];simpa using h2⟩
theorem any_no {p:Int->Bool}(h:∀(j:Nat) (hj:j<S.length),p S[j]=false) : S.any p=false := by
 rw[Bool.eq_false_iff];intro hc;obtain⟨z,hz,e⟩:=List.any_eq_true.1 hc;obtain⟨j,hj,rfl⟩:=List.getElem_of_mem hz;rw[h j hj]at e;cases e
def oneB (N:Nat)(pv:Nat->Dp->Bool)(k:Int)(l:List RT)(n:Nat) : Bool := if k=7 then (satL N pv l (one n)).getD 0 false && !(satL N pv l (one n)).getD 1 false else (satL N pv l (one n)).all id
theorem sat_atomS {d:Dp}{l:List RT} : sat N pv (.mk 1 d l) (St.inS S)=S.any (inN N fun n=>pv n d) := by rw[qIW];rfl
theorem sat_withS {k:Int}{d:Dp}{l:List RT}(hk:k=6 \/ k=7) : sat N pv (.mk k d l) (St.inS S)=S.any (inN N (oneB N pv k l)) := by
 rw[qIW];rcases hk with rfl|rfl<;>rfl
end
end Tr
