/- StMade, TrSm, TrAw0 -/
import Derived.Test.YteobmfpbgnmffaaGreatDoorTruthMoreRowG29
import Derived.Test.YteobmfpbgnmffaaGreatDoorTruthMoreRowG43
import Derived.Test.YteobmfpbgnmffaaGreatDoorTruthMoreRowG42
import Derived.Test.YteobmfpbgnmffaaGreatDoorTruthMoreRowG25
import Derived.Test.YteobmfpbgnmffaaGreatDoorTruthMoreRowG34
import Derived.Test.YteobmfpbgnmffaaGreatDoorTruthMoreRowG10
set_option linter.unusedSimpArgs false
set_option linter.unusedVariables false
namespace Go.Proofs.YteobmfpbgnmffaaGreatDoor
section
/- A pool that a statement of the steps makes of packages that are not more than it goes over. -/



open Go.RowKit Go.Shelf
set_option linter.unusedVariables false

theorem deep_slim {p : Pk} (hk : ∀ x ∈ LS p, ∀ t ∈ x.l, KO t) (hs : ∀ k, k < 6 → partsL (treeL (sixL p k)) ≤ 2000) : p.deepOk := by
  have hh : ∀ (l : List RV), partsL (treeL l) ≤ 2000 → ∀ t ∈ l, t.tree.parts ≤ 1000000 := by
    intro l hl t ht
    obtain ⟨i, hi, rfl⟩ := List.getElem_of_mem ht
    have h1 := partsL_take3 (l := treeL l) (k := i) (by rw [treeL_len]; exact hi)
    have h2 := partsL_mono (treeL l) (i + 1)
    rw [treeL_get l i hi] at h1
    omega
  intro x hx t ht
  refine ⟨hk x hx t ht, ?_⟩
  have hx2 := hx
  simp only [LS, List.mem_cons, List.not_mem_nil, or_false] at hx2
  rcases hx2 with rfl | rfl | rfl | rfl | rfl | rfl
  · exact hh _ (hs 0 (by omega)) t ht
  · exact hh _ (hs 1 (by omega)) t ht
  · exact hh _ (hs 2 (by omega)) t ht
  · exact hh _ (hs 3 (by omega)) t ht
  · exact hh _ (hs 4 (by omega)) t ht
  · exact hh _ (hs 5 (by omega)) t ht
theorem few_slim {p : Pk} (h : p.slim) : p.few :=
  ⟨by have := h.provN; omega, by have := h.obsN; omega, by have := h.filesN; omega, Nat.le_trans (show partsL (treeL p.req) ≤ 2000 from h.parts 0 (by omega)) (by omega), Nat.le_trans (show partsL (treeL p.con) ≤ 2000 from h.parts 1 (by omega)) (by omega), Nat.le_trans (show partsL (treeL p.rcm) ≤ 2000 from h.parts 2 (by omega)) (by omega), Nat.le_trans (show partsL (treeL p.sup) ≤ 2000 from h.parts 3 (by omega)) (by omega), Nat.le_trans (show partsL (treeL p.sug) ≤ 2000 from h.parts 4 (by omega)) (by omega), Nat.le_trans (show partsL (treeL p.enh) ≤ 2000 from h.parts 5 (by omega)) (by omega)⟩
theorem deep_narrow {repos : List Rp} {ins : List Pk} {k : Int} {W : World} (h : Narrow repos ins k) (hr : ∀ r ∈ repos, ∀ p ∈ r.pk, PkQ W p) (hi : ∀ p ∈ ins, PkQ W p) : ∀ x ∈ allP repos ins, x.deepOk ∧ x.few := by
  intro x hx
  rcases List.mem_append.1 hx with hx | hx
  · exact ⟨deep_slim (hi x hx).2 (h.si x hx).parts, few_slim (h.si x hx)⟩
  · obtain ⟨r, hr2, hx⟩ := List.mem_flatMap.1 hx
    exact ⟨deep_slim (hr r hr2 x hx).2 (h.sr r hr2 x hx).parts, few_slim (h.sr r hr2 x hx)⟩
/-- what a statement knows of the pool that it makes -/
def MadePost (repos : List Rp) (ins : List Pk) (w : World) (e : Ending) (w' : World) : Prop :=
  ((∃ (P : Nat) (L : List Pr), e = .returned (.tuple #[.pointer (some ⟨P, 0, none⟩), .int .i64 0]) ∧ Pool P (ins.length : Int) L w' ∧ ins.length ≤ L.length ∧ L.length ≤ 100) ∨ (∃ er : Int, (er == 0) = false ∧ e = .returned (.tuple #[.pointer none, .int .i64 er]))) ∧ Below w.heap.size w w'
theorem made_any {RA : Option Addr} {rc : Nat} {repos : List Rp} {IA : Option Addr} {ic : Nat} {ins : List Pk} {w0 w : World} {k : Int} (hI : PkIn w) (hr : RpRow w.heap.size w RA rc repos) (hi : PRow w.heap.size w IA ic ins) (hN : Narrow repos ins k) (hrq : ∀ r ∈ repos, ∀ p ∈ r.pk, PkQ w0 p) (hiq : ∀ p ∈ ins, PkQ w0 p) :
    Calls Tryz.prog 23 #[.slice RA repos.length rc, .slice IA ins.length ic] w (MadePost repos ins w) := by
  have hd := deep_narrow hN hrq hiq
  have h1 := hN.all
  have h2 := hN.nr
  refine (poolnew_any RA rc repos IA ic ins w hI hr hi hd (by omega) (by omega)).mono ?_
  rintro e w' ⟨hok, hno, hb⟩
  refine ⟨?_, hb⟩
  by_cases he : errOf repos ins = 0
  · obtain ⟨P, L, rfl, hat, hal⟩ := hok he
    have hl := hal.1
    rw [allP_len] at hl
    exact .inl ⟨P, L, rfl, Pool.of hat hal he fun x hx => (hd x hx).2, by omega, by omega⟩
  · exact .inr ⟨_, beq_eq_false_iff_ne.2 he, hno he⟩
end
section
/- Walks: the small functions of truth's statements. -/




open Go.RowKit Go.Shelf
set_option linter.unusedVariables false

set_option maxRecDepth 100000 in
set_option maxHeartbeats 16000000 in
theorem atom14_any (s : ByteArray) (w : World) : Calls Tryz.prog 58 #[.string s] w fun r w' => r = .returned (.agg #[.int .u8 1, .string s, .int .u8 0, .int .i64 0, .string ⟨#[]⟩, .string ⟨#[]⟩, .slice none 0 0]) ∧ Below w.heap.size w w' := by
  go_enter Tryz.func58, Tryz.ntmps58
  go_wp2_with fail
  exact bodyPost_ret (v := .agg #[.int .u8 1, .string s, .int .u8 0, .int .i64 0, .string ⟨#[]⟩, .string ⟨#[]⟩, .slice none 0 0]) (by simp [results, Tryz.results58, go_sem]) rfl ⟨rfl, (Below.refl _ _).alloc (Nat.le_refl _) _⟩
set_option maxRecDepth 100000 in
set_option maxHeartbeats 16000000 in
theorem of14_any (k : Int) (A : Option Addr) (n c : Nat) (w : World) : Calls Tryz.prog 44 #[.int .u8 k, .slice A n c] w fun r w' => r = .returned (.agg #[.int .u8 k, .string ⟨#[]⟩, .int .u8 0, .int .i64 0, .string ⟨#[]⟩, .string ⟨#[]⟩, .slice A n c]) ∧ Below w.heap.size w w' := by
  go_enter Tryz.func44, Tryz.ntmps44
  go_wp2_with fail
  exact bodyPost_ret (v := .agg #[.int .u8 k, .string ⟨#[]⟩, .int .u8 0, .int .i64 0, .string ⟨#[]⟩, .string ⟨#[]⟩, .slice A n c]) (by simp [results, Tryz.results44, go_sem]) rfl ⟨rfl, (Below.refl _ _).alloc (Nat.le_refl _) _⟩
set_option maxRecDepth 100000 in
set_option maxHeartbeats 4000000 in
theorem has14_any (A : Option Addr) (c : Nat) (D : List Int) (x : Int) (w : World) (hD : D.length ≤ 1000000) (h : Rd encI 1 w.heap.size A c D w) : Calls Tryz.prog 42 #[.slice A D.length c, .int .i64 x] w fun e w' => e = .returned (.bool (D.contains x)) ∧ Below w.heap.size w w' := by
  have H := Lib.hid h
  obtain ⟨n, hn⟩ : ∃ n, n = D.length := ⟨_, rfl⟩
  rw [← hn] at hD ⊢
  have HN := Lib.hid hn
  obtain ⟨r, hr⟩ : ∃ r, r = D.contains x := ⟨_, rfl⟩
  rw [← hr]
  have RR := Lib.hid hr
  clear h hn hr
  go_enter Tryz.func42, Tryz.ntmps42
  go_wp2_with fail
  go_loopw [5] (fun iv wr => ∃ k : Nat, k ≤ n ∧ iv = .int .i64 (k : Int) ∧ Hid (∀ j (hj : j < D.length), j < k → D[j] ≠ x) ∧ Below w.heap.size w wr) (fun iv _ => n - (intOf iv).toNat)
  case atStart => exact ⟨0, by omega, rfl, Lib.hid (by intro j hj h; omega), Below.refl _ _⟩
  case round =>
    obtain ⟨k, hk, rfl, HS, hB⟩ := hrel
    rename World => wr
    have HB := Lib.hid hB
    by_cases hlt : k < n
    · have hkl : k < D.length := by have := HN.out; omega
      obtain ⟨b, o, hA, hb, e0⟩ := ((H.out.below hB).more hB.size).int_at hkl
      have HM := Lib.hid (show D[k] ∈ D from List.getElem_mem hkl)
      have HNX := Lib.hid (fun (h : D[k] ≠ x) => show ∀ j (hj : j < D.length), j < k + 1 → D[j] ≠ x from fun j hj hjk => by
        by_cases e : j = k
        · subst e; exact h
        · exact HS.out j hj (by omega))
      subst hA
      generalize D[k] = y at *
      have i0 : (0 : Int) ≤ (k : Int) := by omega
      have i1 : (k : Int) < (n : Int) := by omega
      clear hB hkl
      by_cases hy : y = x
      · have HE := Lib.hid (show D.contains x = true from List.contains_iff_mem.2 (hy ▸ HM.out))
        subst hy
        go_wp2_with fail
        go_ret
        obtain rfl := RR.out.trans HE.out
        exact ⟨rfl, HB.out⟩
      · go_wp2_with fail
        go_roundw
        case rel => exact ⟨k + 1, by omega, by go_num, Lib.hid (HNX.out hy), HB.out⟩
        case measure => simp [intOf]; omega
    · obtain rfl : k = n := by omega
      have HE := Lib.hid (show D.contains x = false by
        rw [Bool.eq_false_iff]
        intro hc
        obtain ⟨j, hj, hjx⟩ := List.getElem_of_mem (List.contains_iff_mem.1 hc)
        exact HS.out j hj (by have := HN.out; omega) hjx)
      have i1 : ¬ (k : Int) < (k : Int) := by omega
      go_wp2_with fail
      go_ret
      obtain rfl := RR.out.trans HE.out
      exact ⟨rfl, HB.out⟩
end
section
/- Walks: the examples of truth's statements (chandlerylaw14.awake). -/




open Go.RowKit Go.Shelf
set_option linter.unusedVariables false

/-- an atom as it lies in a block of its own -/
def AtX (b : Nat) (s : ByteArray) (W : World) : Prop := b < W.heap.size ∧ W.cell? ⟨b, 0, none⟩ = some (.int .u8 1) ∧ W.cell? ⟨b, 1, none⟩ = some (.string s) ∧ W.cell? ⟨b, 2, none⟩ = some (.int .u8 0) ∧ W.cell? ⟨b, 3, none⟩ = some (.int .i64 0) ∧ W.cell? ⟨b, 4, none⟩ = some (.string ⟨#[]⟩) ∧ W.cell? ⟨b, 5, none⟩ = some (.string ⟨#[]⟩) ∧ W.cell? ⟨b, 6, none⟩ = some (.slice none 0 0)
theorem AtX.then {b : Nat} {s : ByteArray} {W W' : World} (h : AtX b s W) (hb : Below W.heap.size W W') : AtX b s W' := by
  obtain ⟨l, c0, c1, c2, c3, c4, c5, c6⟩ := h
  have hc : ∀ i, W'.cell? ⟨b, i, none⟩ = W.cell? ⟨b, i, none⟩ := fun i => hb.cell (p := ⟨b, i, none⟩) l
  exact ⟨Nat.lt_of_lt_of_le l hb.size, (hc 0).trans c0, (hc 1).trans c1, (hc 2).trans c2, (hc 3).trans c3, (hc 4).trans c4, (hc 5).trans c5, (hc 6).trans c6⟩
theorem AtX.new (s : ByteArray) (W : World) : AtX W.heap.size s (W.alloc (.cells #[.int .u8 1, .string s, .int .u8 0, .int .i64 0, .string ⟨#[]⟩, .string ⟨#[]⟩, .slice none 0 0] 39)) := ⟨by simp, by simp [go_sem], by simp [go_sem], by simp [go_sem], by simp [go_sem], by simp [go_sem], by simp [go_sem], by simp [go_sem]⟩
structure Aw (T X bx bY bo bn : Nat) (L2 : List Pk) (w0 W : World) : Prop where
  tr : TruthAt T X 2 L2 W
  ri : WhIn W
  x : AtX bx ⟨#[120]⟩ W
  y : AtX bY ⟨#[121]⟩ W
  bo : Rd encI 1 W.heap.size (some ⟨bo, 0, none⟩) 2 [0, 1] W
  on : Rd encI 1 W.heap.size (some ⟨bn, 0, none⟩) 1 [0] W
  old : Below w0.heap.size w0 W
theorem Aw.then {T X bx bY bo bn : Nat} {L2 : List Pk} {w0 W W' : World} (h : Aw T X bx bY bo bn L2 w0 W) (hb : Below W.heap.size W W') : Aw T X bx bY bo bn L2 w0 W' :=
  ⟨h.tr.then hb, h.ri.below hb, h.x.then hb, h.y.then hb, (h.bo.below hb).more hb.size, (h.on.below hb).more hb.size, h.old.trans (hb.mono h.old.size)⟩
abbrev ax : RV := atomR [120]
abbrev ay : RV := atomR [121]
theorem ax_all (W : World) {l : List RV} (h : ∀ t ∈ l, t = ax ∨ t = ay) : ∀ t ∈ l, RTree W.heap.size W t := fun t ht => by
  rcases h t ht with rfl | rfl
  · exact atomR_rtree _ _ _ (by decide)
  · exact atomR_rtree _ _ _ (by decide)
def PV : Nat → Dp → Bool := pvL (twoP none none)
theorem aw_rt {k : Int} {l : List RV} {W W2 : World} {cs : Array Value} (hcs : cs.toList = l.flatMap encR) (hn : l.length ≤ 3) (h : ∀ t ∈ l, t = ax ∨ t = ay) (hb : Below (W.alloc (.cells cs 39)).heap.size (W.alloc (.cells cs 39)) W2) : RTree W2.heap.size W2 (.node k zeroT (some ⟨W.heap.size, 0, none⟩) l.length l) :=
  ((lit_tree rfl hcs (by unfold maxLen; omega) (ax_all W h)).keeps hb).more hb.size
theorem aw_parts {k : Int} {l : List RV} {A : Option Addr} {c : Nat} (hn : l.length ≤ 3) (h : ∀ t ∈ l, t = ax ∨ t = ay) : (RV.node k zeroT A c l).tree.parts ≤ 1000000 := by
  have : ∀ l : List RV, (∀ t ∈ l, t = ax ∨ t = ay) → partsL (treeL l) = l.length := by
    intro l
    induction l with
    | nil => intro _; rfl
    | cons a l ih =>
      intro h
      show a.tree.parts + partsL (treeL l) = l.length + 1
      rw [ih (fun t ht => h t (List.mem_cons_of_mem _ ht))]
      rcases h a (List.mem_cons_self ..) with rfl | rfl
      · show 1 + l.length = _; omega
      · show 1 + l.length = _; omega
  show 1 + partsL (treeL l) ≤ 1000000
  rw [this l h]; omega
theorem aw_sat {T X bx bY bo bn : Nat} {L2 : List Pk} {w0 W W2 : World} (hA : Aw T X bx bY bo bn L2 w0 W2) (hp : pvL L2 = PV) {k : Int} {l : List RV} {cs : Array Value} (hcs : cs.toList = l.flatMap encR) (hn : l.length ≤ 3) (h : ∀ t ∈ l, t = ax ∨ t = ay) (hb : Below (W.alloc (.cells cs 39)).heap.size (W.alloc (.cells cs 39)) W2)
    {b : Nat} {S : List Int} (hS : Rd encI 1 W2.heap.size (some ⟨b, 0, none⟩) S.length S W2) {r : Bool} (hr : Tr.satS 2 PV S (.mk k zeroT (treeL l)) = r) :
    Calls Tryz.prog 40 #[.pointer (some ⟨T, 0, none⟩), .slice (some ⟨b, 0, none⟩) S.length S.length, .agg #[.int .u8 k, .string ⟨#[]⟩, .int .u8 0, .int .i64 0, .string ⟨#[]⟩, .string ⟨#[]⟩, .slice (some ⟨W.heap.size, 0, none⟩) l.length l.length]] W2 fun e w' => e = .returned (.bool r) ∧ Below W2.heap.size W2 w' := by
  have q := tsat_any hA.tr hA.ri (some ⟨b, 0, none⟩) S.length S hS (.node k zeroT (some ⟨W.heap.size, 0, none⟩) l.length l) (aw_rt hcs hn h hb) (aw_parts hn h)
  rw [hp, show (RV.node k zeroT (some ⟨W.heap.size, 0, none⟩) l.length l).tree = RT.mk k zeroT (treeL l) from rfl, hr] at q
  exact q
theorem aw_alone {T X bx bY bo bn : Nat} {L2 : List Pk} {w0 W W2 : World} (hA : Aw T X bx bY bo bn L2 w0 W2) (hp : pvL L2 = PV) {k n : Int} {l : List RV} {cs : Array Value} (hcs : cs.toList = l.flatMap encR) (hn : l.length ≤ 3) (h : ∀ t ∈ l, t = ax ∨ t = ay) (hb : Below (W.alloc (.cells cs 39)).heap.size (W.alloc (.cells cs 39)) W2)
    {r : Bool} (hr : Tr.aloneS 2 PV n (.mk k zeroT (treeL l)) = r) :
    Calls Tryz.prog 43 #[.pointer (some ⟨T, 0, none⟩), .int .i64 n, .agg #[.int .u8 k, .string ⟨#[]⟩, .int .u8 0, .int .i64 0, .string ⟨#[]⟩, .string ⟨#[]⟩, .slice (some ⟨W.heap.size, 0, none⟩) l.length l.length]] W2 fun e w' => e = .returned (.bool r) ∧ Below W2.heap.size W2 w' := by
  have q := talone_any hA.tr hA.ri n (.node k zeroT (some ⟨W.heap.size, 0, none⟩) l.length l) (aw_rt hcs hn h hb) (aw_parts hn h)
  rw [hp, show (RV.node k zeroT (some ⟨W.heap.size, 0, none⟩) l.length l).tree = RT.mk k zeroT (treeL l) from rfl, hr] at q
  exact q
theorem aw_who {T X bx bY bo bn : Nat} {L2 : List Pk} {w0 W2 : World} (hA : Aw T X bx bY bo bn L2 w0 W2) (hp : pvL L2 = PV) {l : List Int} (hr : Tr.whoS 2 PV [0, 1] (atomT [120]) = l) :
    Calls Tryz.prog 41 #[.pointer (some ⟨T, 0, none⟩), .slice (some ⟨bo, 0, none⟩) 2 2, .agg #[.int .u8 1, .string ⟨#[120]⟩, .int .u8 0, .int .i64 0, .string ⟨#[]⟩, .string ⟨#[]⟩, .slice none 0 0]] W2 fun e w' => ∃ v, e = .returned v ∧ Own encI 1 W2.heap.size 3 v l w' ∧ Below W2.heap.size W2 w' := by
  have q := twho_any hA.tr hA.ri (some ⟨bo, 0, none⟩) 2 [0, 1] hA.bo ax (atomR_rtree _ _ _ (by decide)) (by show 1 ≤ 1000000; decide)
  rw [hp, atomR_tree, hr] at q
  exact q
theorem aw1v : Tr.satS 2 PV [0, 1] (.mk 2 zeroT (treeL [ax, ay])) = true := by decide +kernel
theorem aw2v : Tr.satS 2 PV [0, 1] (.mk 6 zeroT (treeL [ax, ay])) = false := by decide +kernel
theorem aw3v : Tr.aloneS 2 PV 0 (.mk 7 zeroT (treeL [ax, ay])) = true := by decide +kernel
theorem aw4v : Tr.satS 2 PV [0] (.mk 4 zeroT (treeL [ax, ay])) = true := by decide +kernel
theorem aw5v : Tr.satS 2 PV [0] (.mk 4 zeroT (treeL [ay, ax])) = false := by decide +kernel
theorem aw6v : Tr.satS 2 PV [0] (.mk 5 zeroT (treeL [ax, ay])) = true := by decide +kernel
theorem aw7v : Tr.satS 2 PV [0] (.mk 4 zeroT (treeL [ay, ay, ax])) = true := by decide +kernel
theorem aw8v : Tr.whoS 2 PV [0, 1] (atomT [120]) = [0] := by decide +kernel
end
end Go.Proofs.YteobmfpbgnmffaaGreatDoor
