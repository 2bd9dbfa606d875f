/- StPlain, TrPlain, IxPlain, StSmall -/
import Derived.Test.YteobmfpbgnmffaaGreatDoorTruthMoreRowG05
import Derived.Test.YteobmfpbgnmffaaGreatDoorTruthMoreRowG08
import Derived.Test.YteobmfpbgnmffaaGreatDoorTruthMoreRowG10
import Derived.Test.YteobmfpbgnmffaaGreatDoorTruthMoreRowG24
import Derived.Test.YteobmfpbgnmffaaGreatDoorTruthMoreRowG12
import Derived.Test.YteobmfpbgnmffaaGreatDoorTruthMoreRowG23
import Derived.BigQuiet
set_option linter.unusedSimpArgs false
set_option linter.unusedVariables false
namespace Go.Proofs.YteobmfpbgnmffaaGreatDoor
section
/- Plain law: what comes and goes from what is installed to a state, over whatever packages. -/


set_option linter.unusedVariables false
namespace St

def inS (S : List Int) (n : Nat) : Bool := S.any fun z => z == (n : Int)
section
variable (I : Nat) (nm ob : Nat → Nat → Bool) (cmp : Nat → Nat → Int) (S : List Int)
end
section
variable {I N : Nat} {nm ob : Nat → Nat → Bool} {cmp : Nat → Nat → Int} {S : List Int}
end
end St
end
section
/- Plain law: whether packages satisfy a rich dependency, and what follows. -/



open Go.RowKit Go.Shelf
set_option linter.unusedVariables false
namespace Tr

def one (n : Nat) : Nat → Bool := fun m => m == n
def anyN (N : Nat) (p : Nat → Bool) : Bool := (List.range N).any p
/-- what a Kind makes of its parts: at_: who provides its Dep; v: the parts' answers; s: those for a package alone -/
def comb (N : Nat) (inn : Nat → Bool) (k : Int) (at_ : Nat → Bool) (v : List Bool) (s : Nat → List Bool) : Bool :=
  if k = 1 then anyN N fun n => inn n && at_ n
  else if k = 2 then v.all id
  else if k = 3 then v.any id
  else if k = 4 then (if v.getD 1 false then v.getD 0 false else (decide (v.length < 3) || v.getD 2 false))
  else if k = 5 then (if v.getD 1 false then (decide (v.length = 3) && v.getD 2 false) else v.getD 0 false)
  else if k = 6 then anyN N fun n => inn n && (s n).all id
  else anyN N fun n => inn n && ((s n).getD 0 false && !(s n).getD 1 false)
mutual
def sat (N : Nat) (pv : Nat → Dp → Bool) : RT → (Nat → Bool) → Bool
  | .mk k d l, inn => comb N inn k (fun n => pv n d) (satL N pv l inn) (fun n => satL N pv l (one n))
def satL (N : Nat) (pv : Nat → Dp → Bool) : List RT → (Nat → Bool) → List Bool
  | [], _ => []
  | t :: l, inn => sat N pv t inn :: satL N pv l inn
end
section
variable {N : Nat} {pv : Nat → Dp → Bool}
theorem satL_map (l : List RT) (inn : Nat → Bool) : satL N pv l inn = l.map fun t => sat N pv t inn := by
  induction l with
  | nil => rfl
  | cons a l ih => rw [satL, ih]; rfl
theorem satL_len (l : List RT) (inn : Nat → Bool) : (satL N pv l inn).length = l.length := by rw [satL_map, List.length_map]
theorem satL_get (l : List RT) (inn : Nat → Bool) {i : Nat} (h : i < l.length) : (satL N pv l inn).getD i false = sat N pv l[i] inn := by
  rw [satL_map, List.getD_eq_getElem?_getD, List.getElem?_map, List.getElem?_eq_getElem h]; rfl
theorem satL_all (l : List RT) (inn : Nat → Bool) : (satL N pv l inn).all id = l.all fun t => sat N pv t inn := by
  rw [satL_map, List.all_map]; rfl
theorem satL_any (l : List RT) (inn : Nat → Bool) : (satL N pv l inn).any id = l.any fun t => sat N pv t inn := by
  rw [satL_map, List.any_map]; rfl
theorem anyN_iff {p : Nat → Bool} : anyN N p = true ↔ ∃ n, n < N ∧ p n = true := by
  unfold anyN
  rw [List.any_eq_true]
  exact ⟨fun ⟨n, h, e⟩ => ⟨n, List.mem_range.1 h, e⟩, fun ⟨n, h, e⟩ => ⟨n, List.mem_range.2 h, e⟩⟩
/- more packages -/
mutual
def plain : RT → Bool | .mk k d l => !(k == 4 || k == 5) && plainL l
def plainL : List RT → Bool | [] => true | t :: l => plain t && plainL l
end
def leL : List Bool → List Bool → Prop
  | [], [] => True
  | a :: v, b :: w => (a = true → b = true) ∧ leL v w
  | _, _ => False
theorem leL_all : ∀ {v w : List Bool}, leL v w → v.all id = true → w.all id = true
  | [], [], _, _ => rfl
  | a :: v, b :: w, h, e => by
    simp only [List.all_cons, id, Bool.and_eq_true] at e ⊢
    exact ⟨h.1 e.1, leL_all h.2 e.2⟩
theorem leL_any : ∀ {v w : List Bool}, leL v w → v.any id = true → w.any id = true
  | [], [], _, e => e
  | a :: v, b :: w, h, e => by
    simp only [List.any_cons, id, Bool.or_eq_true] at e ⊢
    rcases e with e | e
    · exact .inl (h.1 e)
    · exact .inr (leL_any h.2 e)
theorem anyN_mono {p q : Nat → Bool} (h : ∀ n, n < N → p n = true → q n = true) (e : anyN N p = true) : anyN N q = true := by
  obtain ⟨n, hn, e⟩ := anyN_iff.1 e
  exact anyN_iff.2 ⟨n, hn, h n hn e⟩
theorem comb_mono {a b : Nat → Bool} {k : Int} {at_ : Nat → Bool} {v w : List Bool} {s : Nat → List Bool} (h : ∀ n, n < N → a n = true → b n = true) (hk : ¬ (k = 4 ∨ k = 5)) (hv : leL v w) : comb N a k at_ v s = true → comb N b k at_ w s = true := by
  unfold comb
  by_cases k1 : k = 1
  · rw [if_pos k1, if_pos k1]; exact anyN_mono fun n hn e => by rw [Bool.and_eq_true] at e ⊢; exact ⟨h n hn e.1, e.2⟩
  rw [if_neg k1, if_neg k1]
  by_cases k2 : k = 2
  · rw [if_pos k2, if_pos k2]; exact leL_all hv
  rw [if_neg k2, if_neg k2]
  by_cases k3 : k = 3
  · rw [if_pos k3, if_pos k3]; exact leL_any hv
  have k4 : ¬ k = 4 := fun e => hk (.inl e)
  have k5 : ¬ k = 5 := fun e => hk (.inr e)
  rw [if_neg k3, if_neg k3, if_neg k4, if_neg k4, if_neg k5, if_neg k5]
  by_cases k6 : k = 6
  · rw [if_pos k6, if_pos k6]; exact anyN_mono fun n hn e => by rw [Bool.and_eq_true] at e ⊢; exact ⟨h n hn e.1, e.2⟩
  rw [if_neg k6, if_neg k6]; exact anyN_mono fun n hn e => by rw [Bool.and_eq_true] at e ⊢; exact ⟨h n hn e.1, e.2⟩
mutual
theorem sat_mono {a b : Nat → Bool} (h : ∀ n, n < N → a n = true → b n = true) : ∀ t : RT, plain t = true → sat N pv t a = true → sat N pv t b = true
  | .mk k d l, hp, e => by
    rw [plain, Bool.and_eq_true] at hp
    rw [sat] at e ⊢
    exact comb_mono h (by have := hp.1; simp at this; omega) (satL_mono h l hp.2) e
theorem satL_mono {a b : Nat → Bool} (h : ∀ n, n < N → a n = true → b n = true) : ∀ l : List RT, plainL l = true → leL (satL N pv l a) (satL N pv l b)
  | [], _ => trivial
  | t :: l, hp => by
    rw [plainL, Bool.and_eq_true] at hp
    rw [satL, satL]
    exact ⟨sat_mono h t hp.1, satL_mono h l hp.2⟩
end
/-- does a state satisfy it? -/
def satS (N : Nat) (pv : Nat → Dp → Bool) (S : List Int) (t : RT) : Bool := t.whole && sat N pv t (St.inS S)
def aloneS (N : Nat) (pv : Nat → Dp → Bool) (n : Int) (t : RT) : Bool := (decide (0 ≤ n) && decide (n < (N : Int))) && satS N pv [n] t
def whoS (N : Nat) (pv : Nat → Dp → Bool) (S : List Int) (t : RT) : List Int := ((List.range N).filter fun n => St.inS S n && aloneS N pv (n : Int) t).map fun n : Nat => (n : Int)
theorem inS_one (n : Nat) : St.inS [(n : Int)] = one n := by
  funext m
  unfold St.inS one
  rw [Bool.eq_iff_iff]
  simp
  omega
theorem inS_mem {S : List Int} {n : Nat} : St.inS S n = true ↔ (n : Int) ∈ S := by
  unfold St.inS
  rw [List.any_eq_true]
  constructor
  · rintro ⟨z, hz, e⟩; rw [← (by simpa using e : z = (n : Int))]; exact hz
  · intro h; exact ⟨_, h, by simp⟩
/-- TruthMore -/
theorem more_sat {S M : List Int} {t : RT} (hp : plain t = true) (h : satS N pv S t = true) : satS N pv (M ++ S) t = true := by
  unfold satS at *
  rw [Bool.and_eq_true] at h ⊢
  exact ⟨h.1, sat_mono (fun n hn e => inS_mem.2 (List.mem_append_right _ (inS_mem.1 e))) t hp h.2⟩
theorem who_mem {S : List Int} {t : RT} {z : Int} (h : z ∈ whoS N pv S t) : z ∈ S ∧ aloneS N pv z t = true := by
  unfold whoS at h
  obtain ⟨n, hn, rfl⟩ := List.mem_map.1 h
  have h2 := (List.mem_filter.1 hn).2
  rw [Bool.and_eq_true] at h2
  exact ⟨inS_mem.1 h2.1, h2.2⟩
theorem who_more {S M : List Int} {t : RT} {z : Int} (h : z ∈ whoS N pv S t) : z ∈ whoS N pv (M ++ S) t := by
  unfold whoS at h ⊢
  obtain ⟨n, hn, rfl⟩ := List.mem_map.1 h
  obtain ⟨h1, h2⟩ := List.mem_filter.1 hn
  rw [Bool.and_eq_true] at h2
  exact List.mem_map.2 ⟨n, List.mem_filter.2 ⟨h1, by rw [Bool.and_eq_true]; exact ⟨inS_mem.2 (List.mem_append_right _ (inS_mem.1 h2.1)), h2.2⟩⟩, rfl⟩
/- TruthTurned -/
end
end Tr
end
section
/- Plain law: by what names a package is offered, and who provides a dependency by an index of these. -/




open Go.RowKit Go.Shelf Go.Maps
set_option linter.unusedVariables false

def hasN (l : List ByteArray) (s : ByteArray) : Bool := l.any fun x => decide (x = s)
theorem hasN_iff {l : List ByteArray} {s : ByteArray} : hasN l s = true ↔ s ∈ l := by
  unfold hasN
  rw [List.any_eq_true]
  exact ⟨fun ⟨x, hx, e⟩ => of_decide_eq_true e ▸ hx, fun h => ⟨s, h, decide_eq_true rfl⟩⟩
/-- the names of what a package may provide -/
def offN (q : Pk) : List ByteArray := q.name :: (q.prov.map (fun d => bs d.name) ++ q.files)
/-- who offers a name -/
def idxF (L : List Pk) (s : ByteArray) : List Int := ((List.range L.length).filter fun k => (L[k]?).any fun q => hasN (offN q) s).map fun k : Nat => (k : Int)
theorem idxF_nil : idxF [] = fun _ => [] := rfl
theorem idxF_snoc (L : List Pk) (q : Pk) (s : ByteArray) : idxF (L ++ [q]) s = idxF L s ++ (if hasN (offN q) s then [(L.length : Int)] else []) := by
  unfold idxF
  rw [List.length_append, List.length_singleton, List.range_succ, List.filter_append, List.map_append]
  congr 1
  · congr 1
    refine List.filter_congr fun k hk => ?_
    rw [List.getElem?_append_left (List.mem_range.1 hk)]
  · rw [List.filter_cons, List.getElem?_append_right (Nat.le_refl _)]
    cases h : hasN (offN q) s <;> simp [h]
theorem idxF_lt {L : List Pk} {s : ByteArray} {z : Int} (h : z ∈ idxF L s) : ∃ k : Nat, z = (k : Int) ∧ k < L.length := by
  obtain ⟨k, hk, rfl⟩ := List.mem_map.1 h
  exact ⟨k, rfl, List.mem_range.1 (List.mem_filter.1 hk).1⟩
theorem idxF_len (L : List Pk) (s : ByteArray) : (idxF L s).length ≤ L.length := by
  unfold idxF
  rw [List.length_map]
  have := List.length_filter_le (fun k => (L[k]?).any fun q => hasN (offN q) s) (List.range L.length)
  rwa [List.length_range] at this
theorem toList_ba {a b : ByteArray} (h : a.toList = b.toList) : a = b := toList_inj h
theorem prov_off {q : Pk} {d : Dp} (h : provB q d = true) : bs d.name ∈ offN q := by
  unfold provB at h
  rw [Bool.or_eq_true, Bool.or_eq_true] at h
  unfold offN
  rcases h with h | h | h
  · unfold meetsN at h
    rw [Bool.and_eq_true] at h
    have e : q.name.toList = d.name := by simpa [Pk.ownD] using h.1
    exact List.mem_cons.2 (.inl (by rw [← e, bs_of]))
  · obtain ⟨a, ha, e⟩ := List.any_eq_true.1 h
    unfold meetsN at e
    rw [Bool.and_eq_true] at e
    have e1 : a.name = d.name := by simpa using e.1
    exact List.mem_cons_of_mem _ (List.mem_append_left _ (List.mem_map.2 ⟨a, ha, by rw [e1]⟩))
  · rw [Bool.and_eq_true] at h
    obtain ⟨s, hs, e⟩ := List.any_eq_true.1 h.2
    have e1 : (bs d.name).toList = s.toList := by simpa using e
    exact List.mem_cons_of_mem _ (List.mem_append_right _ (by rw [toList_ba e1]; exact hs))
/-- who provides a dependency -/
def pvL (L : List Pk) (n : Nat) (d : Dp) : Bool := (L[n]?).any fun q => provB q d
def provL (L : List Pk) (d : Dp) : List Int := ((List.range L.length).filter fun n => pvL L n d).map fun n : Nat => (n : Int)
theorem prov_sift (L : List Pk) (d : Dp) : (idxF L (bs d.name)).filter (fun z => pvL L z.toNat d) = provL L d := by
  unfold idxF provL
  rw [List.filter_map, List.filter_filter]
  congr 1
  refine List.filter_congr fun n hn => ?_
  show (pvL L ((n : Int)).toNat d && _) = _
  rw [Int.toNat_natCast]
  cases h : L[n]? with
  | none => simp [pvL, h]
  | some q =>
    simp only [pvL, h, Option.any_some]
    cases hp : provB q d
    · rfl
    · rw [hasN_iff.2 (prov_off hp)]; rfl
theorem anyN_prov (L : List Pk) (d : Dp) (inn : Nat → Bool) : (provL L d).any (fun z => inn z.toNat) = Tr.anyN L.length fun n => inn n && pvL L n d := by
  unfold provL
  rw [List.any_map, List.any_filter]
  unfold Tr.anyN
  congr 1
  funext n
  show (pvL L n d && inn ((n : Int)).toNat) = _
  rw [Int.toNat_natCast, Bool.and_comm]
end
section
/- Walks: the small functions of the steps' statements. -/



open Go.RowKit Go.Shelf
set_option linter.unusedVariables false

theorem Rd.int_at {B : Nat} {A : Option Addr} {c : Nat} {D : List Int} {W : World} (h : Rd encI 1 B A c D W) {k : Nat} (hk : k < D.length) : ∃ b o, A = some ⟨b, o, none⟩ ∧ b < B ∧ W.cell? ⟨b, o + k, none⟩ = some (.int .i64 D[k]) := by
  obtain ⟨b, o, e, hb, hc⟩ := h.cells hk
  have := hc 0 _ rfl
  rw [Nat.mul_one] at this
  exact ⟨b, o, e, hb, this⟩
set_option maxRecDepth 100000 in
set_option maxHeartbeats 4000000 in
theorem numbers12_any (A B : Option Addr) (c d : Nat) (D E : List Int) (w : World) (hD : D.length ≤ 1000000) (hE : E.length ≤ 1000000) (h : Rd encI 1 w.heap.size A c D w) (h' : Rd encI 1 w.heap.size B d E w) : Calls Tryz.prog 30 #[.slice A D.length c, .slice B E.length d] w fun e w' => e = .returned (.bool (decide (D = E))) ∧ Below w.heap.size w w' := by
  obtain ⟨r, hr⟩ : ∃ r, r = decide (D = E) := ⟨_, rfl⟩
  rw [← hr]
  have RR := Lib.hid hr
  clear hr
  by_cases hl : D.length = E.length
  · have H := Lib.hid h
    have H' := Lib.hid h'
    obtain ⟨n, hn⟩ : ∃ n, n = D.length := ⟨_, rfl⟩
    have HN := Lib.hid hn
    have HE := Lib.hid (hn.trans hl)
    rw [← hl, ← hn]
    have hN : n ≤ 1000000 := by omega
    clear hl h h' hD hE hn
    go_enter Tryz.func30, Tryz.ntmps30
    go_wp2_with fail
    go_loopw [5] (fun iv wr => ∃ k : Nat, k ≤ n ∧ iv = .int .i64 (k : Int) ∧ Hid (∀ j, j < k → D[j]? = E[j]?) ∧ Below w.heap.size w wr) (fun iv _ => n - (intOf iv).toNat)
    case atStart => exact ⟨0, by omega, rfl, Lib.hid (by intro j h; omega), Below.refl _ _⟩
    case round =>
      obtain ⟨k, hk, rfl, HS, hB⟩ := hrel
      rename World => wr
      have HB := Lib.hid hB
      by_cases hlt : k < n
      · have l1 : k < D.length := by have := HN.out; omega
        have l2 : k < E.length := by have := HE.out; omega
        obtain ⟨b, o, hA, hb, e0⟩ := ((H.out.below hB).more hB.size).int_at l1
        obtain ⟨b2, o2, hA2, hb2, f0⟩ := ((H'.out.below hB).more hB.size).int_at l2
        have E1 := Lib.hid (show D[k]? = some D[k] from List.getElem?_eq_getElem l1)
        have E2 := Lib.hid (show E[k]? = some E[k] from List.getElem?_eq_getElem l2)
        subst hA hA2
        generalize D[k] = x at *
        generalize E[k] = y at *
        clear l1 l2 hB
        have i0 : (0 : Int) ≤ (k : Int) := by omega
        have i1 : (k : Int) < (n : Int) := by omega
        by_cases hxy : x = y
        · subst hxy
          go_wp2_with fail
          go_quiet (fail)
          go_wp2_with fail
          go_roundw
          case rel =>
            refine ⟨k + 1, by omega, by go_num, Lib.hid ?_, Go.below_drewN HB.out _⟩
            intro j hj
            by_cases hjk : j = k
            · subst hjk; rw [E1.out, E2.out]
            · exact HS.out j (by omega)
          case measure => simp [intOf]; omega
        · have HF := Lib.hid (show decide (D = E) = false from decide_eq_false fun h => hxy (by have := E1.out; rw [h, E2.out] at this; exact (Option.some.inj this).symm))
          go_wp2_with fail
          go_quiet (fail)
          go_wp2_with fail
          go_ret
          obtain rfl := RR.out.trans HF.out
          exact ⟨rfl, Go.below_drewN HB.out _⟩
      · obtain rfl : k = n := by omega
        have HF := Lib.hid (show decide (D = E) = true from decide_eq_true (List.ext_getElem? fun j => by
          by_cases hj : j < k
          · exact HS.out j hj
          · rw [List.getElem?_eq_none (by have := HN.out; omega), List.getElem?_eq_none (by have := HE.out; omega)]))
        have i1 : ¬ (k : Int) < (k : Int) := by omega
        go_wp2_with fail
        go_ret
        obtain rfl := RR.out.trans HF.out
        exact ⟨rfl, HB.out⟩
  · have HF := Lib.hid (show decide (D = E) = false from decide_eq_false fun h => hl (by rw [h]))
    have hl2 : ¬ (D.length : Int) = (E.length : Int) := by omega
    clear h h' hl
    go_enter Tryz.func30, Tryz.ntmps30
    go_wp2_with fail
    go_ret
    obtain rfl := RR.out.trans HF.out
    exact ⟨rfl, Below.refl _ _⟩
end
end Go.Proofs.YteobmfpbgnmffaaGreatDoor
