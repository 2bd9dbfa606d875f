/- PoolNew, PoolGet -/
import Derived.Test.YteobmfpbgnmffaaGreatDoorTruthMoreRowG28
import Derived.Test.YteobmfpbgnmffaaGreatDoorTruthMoreRowG11
set_option linter.unusedSimpArgs false
set_option linter.unusedVariables false
namespace Go.Proofs.YteobmfpbgnmffaaGreatDoor
section
/- Walk: a pool of repositories and what is installed (pool.New). -/


open Go.RowKit Go.Shelf
set_option linter.unusedVariables false

def rpOk (r : Rp) : Bool := decide (0 ≤ r.prio) && decide (r.prio ≤ 1024) && r.pk.all mayP
/-- what New refuses -/
def errOf (repos : List Rp) (ins : List Pk) : Int := if 16 < repos.length ∨ 256 < ins.length + pksOf repos then 40 else if ins.all mayP && repos.all rpOk then 0 else 4
theorem errOf_large {repos : List Rp} {ins : List Pk} (h : 16 < repos.length ∨ 256 < ins.length + pksOf repos) : errOf repos ins = 40 := if_pos h
theorem errOf_small {repos : List Rp} {ins : List Pk} (h : ¬ (16 < repos.length ∨ 256 < ins.length + pksOf repos)) : errOf repos ins = if ins.all mayP && repos.all rpOk then 0 else 4 := if_neg h
/-- all packages, in their row -/
def allP (repos : List Rp) (ins : List Pk) : List Pk := ins ++ repos.flatMap Rp.pk
def AllAlike (l : List Pk) (L : List Pr) : Prop := L.length = l.length ∧ ∀ (i : Nat) (h : i < l.length) (h' : i < L.length), Alike l[i] L[i].pk
theorem AllAlike.of {l : List Pk} {L : List Pr} {rp pr : Int} (h : Copies l L rp pr) : AllAlike l L := ⟨h.1, fun i h1 h2 => (h.2 i h1 h2).1⟩
theorem AllAlike.app {l l2 : List Pk} {L L2 : List Pr} {rp pr : Int} (h : AllAlike l L) (h2 : Copies l2 L2 rp pr) : AllAlike (l ++ l2) (L ++ L2) := by
  refine ⟨by rw [List.length_append, List.length_append, h.1, h2.1], fun i hi hi' => ?_⟩
  by_cases hlt : i < l.length
  · rw [List.getElem_append_left hlt, List.getElem_append_left (by rw [h.1]; exact hlt)]
    exact h.2 i hlt (by rw [h.1]; exact hlt)
  · rw [List.getElem_append_right (by omega), List.getElem_append_right (by rw [h.1]; omega)]
    rw [List.length_append] at hi hi'
    have h3 := h2.2 (i - l.length) (by omega) (by have := h2.1; omega)
    simp only [h.1]
    exact h3.1
theorem allP_len (l : List Rp) (ins : List Pk) : (allP l ins).length = ins.length + pksOf l := by
  unfold allP pksOf
  rw [List.length_append, List.length_flatMap]
theorem allP_take {l : List Rp} {ins : List Pk} {k : Nat} (hk : k < l.length) : allP (l.take (k + 1)) ins = allP (l.take k) ins ++ l[k].pk := by
  unfold allP
  rw [List.take_succ_eq_append_getElem hk, List.flatMap_append]
  simp
theorem mem_allP {l : List Rp} {ins : List Pk} {r : Rp} (hr : r ∈ l) {x : Pk} (hx : x ∈ r.pk) : x ∈ allP l ins := List.mem_append_right _ (List.mem_flatMap.2 ⟨r, hr, hx⟩)
theorem pksOf_le (l : List Rp) (k : Nat) : pksOf (l.take k) ≤ pksOf l := by
  have h : pksOf l = pksOf (l.take k) + pksOf (l.drop k) := by
    unfold pksOf
    rw [← List.sum_append, ← List.map_append, List.take_append_drop]
  omega
def NewPost (repos : List Rp) (ins : List Pk) (w : World) (e : Ending) (w' : World) : Prop :=
  (errOf repos ins = 0 → ∃ (P : Nat) (L : List Pr), e = .returned (.tuple #[.pointer (some ⟨P, 0, none⟩), .int .i64 0]) ∧ PoolAt P (ins.length : Int) L w' ∧ AllAlike (allP repos ins) L) ∧ (errOf repos ins ≠ 0 → e = .returned (.tuple #[.pointer none, .int .i64 (errOf repos ins)])) ∧ Below w.heap.size w w'
theorem NewPost.no {repos : List Rp} {ins : List Pk} {w w' : World} {n : Int} (h : errOf repos ins = n) (hn : n ≠ 0) (hb : Below w.heap.size w w') : NewPost repos ins w (.returned (.tuple #[.pointer none, .int .i64 n])) w' :=
  ⟨fun e => absurd (h.symm.trans e) hn, fun _ => by rw [h], hb⟩
theorem PoolSt.start {w0 W : World} (hb : Below w0.heap.size w0 W) (I : Int) : PoolSt w0 (W.heap.size + 1) W.heap.size (W.heap.size + 2) I 0 [] (fun _ => False) (.slice none 0 0) ((W.alloc (.map #[] 0)).alloc (.cells #[.slice none 0 0, .int .i64 I, .map (some W.heap.size)] 126)) := by
  have z1 : (W.alloc (.map #[] 0)).heap.size = W.heap.size + 1 := by simp
  have c : ∀ i v, (#[.slice none 0 0, .int .i64 I, .map (some W.heap.size)] : Array Value)[i]? = some v → ((W.alloc (.map #[] 0)).alloc (.cells #[.slice none 0 0, .int .i64 I, .map (some W.heap.size)] 126)).cell? ⟨W.heap.size + 1, i, none⟩ = some v := fun i v hv => (World.cell?_alloc_at _ _ _ _ z1.symm).trans hv
  have G0 : (W.alloc (.map #[] 0)).ownsGroups (H := Unit) Tryz.prog 9 (W.heap.size + 2) 3 .i64 W.heap.size 0 (.map []) :=
    ⟨#[], 0, (Go.MapKept.heap_alloc W _).1, ⟨by simp, Go.MapKept.stamped_empty 0, by simp⟩, Nat.le_refl _, rfl, by omega, by simp, by simp⟩
  have S0 := World.Shuns_made W (fun g => False ∨ (Value.slice none 0 0).ownBlock = some g)
  have ga := World.grownBy_alloc (W.alloc (.map #[] 0)) (.cells #[.slice none 0 0, .int .i64 I, .map (some W.heap.size)] 126) none
  exact ⟨(hb.alloc hb.size _).alloc (by rw [z1]; have := hb.size; omega) _, Nat.le_succ_of_le hb.size, hb.size, by omega, by omega, by omega, by simp, c 0 _ rfl, c 1 _ rfl, c 2 _ rfl, fun i hi => by simp [go_sem], Own.nil_ _ _ _, by simp, by simp [Value.ownBlock], fun g h => h.elim, ⟨_, G0.kept ga (by simp) (S0.rowsOff (by simp))⟩, S0.kept ga (by simp) (by simp)⟩
set_option maxRecDepth 100000 in
set_option maxHeartbeats 16000000 in
theorem poolnew_any (RA : Option Addr) (rc : Nat) (repos : List Rp) (IA : Option Addr) (ic : Nat) (ins : List Pk) (w : World) (hI : PkIn w) (hr : RpRow w.heap.size w RA rc repos) (hi : PRow w.heap.size w IA ic ins) (hd : ∀ x ∈ allP repos ins, x.deepOk ∧ x.few) (ht : ins.length + pksOf repos ≤ 1000000) (hk : repos.length ≤ 1000000) :
    Calls Tryz.prog 23 #[.slice RA repos.length rc, .slice IA ins.length ic] w (NewPost repos ins w) := by
  have HR := Lib.hid (fun W (hb : Below w.heap.size w W) => hr.calls hb)
  have HRW := Lib.hid hr
  have HIN := Lib.hid hi
  have HD := Lib.hid hd
  have HI := Lib.hid hI
  obtain ⟨ni, hni⟩ : ∃ n, n = ins.length := ⟨_, rfl⟩
  obtain ⟨nr, hnr⟩ : ∃ n, n = repos.length := ⟨_, rfl⟩
  have HNI := Lib.hid hni
  have HNR := Lib.hid hnr
  rw [← hni] at ht ⊢
  rw [← hnr] at hk ⊢
  have HT := Lib.hid ht
  have hni2 : ni ≤ 1000000 := by omega
  clear hr hi hd hI hni hnr
  have hmm : ∀ (t : TypeId) (w : World), (Instr.makeMap t none).run Tryz.prog w = .ok (.map (some w.heap.size)) (w.alloc (.map #[] 0)) := fun _ _ => rfl
  go_enter Tryz.func23, Tryz.ntmps23
  go_wp2_with fail
  go_loopw [6, 18] (fun n iv wr => ∃ (i m : Nat), i ≤ nr ∧ iv = .int .i64 (i : Int) ∧ n = .int .i64 (m : Int) ∧ m = ni + pksOf (repos.take i) ∧ Below w.heap.size w wr) (fun _ iv _ => nr - (intOf iv).toNat)
  case atStart => exact ⟨0, ni, Nat.zero_le _, rfl, rfl, by simp [pksOf], Below.refl _ _⟩
  case round =>
    obtain ⟨i, m, hi, rfl, rfl, hm, hB⟩ := hrel
    rename World => wr
    have HM := Lib.hid hm
    have HB := Lib.hid hB
    have hmb : m ≤ 1000000 := by have := pksOf_le repos i; have := HT.out; omega
    clear hm hB
    by_cases hlt : i < nr
    · have hil : i < repos.length := by have := HNR.out; omega
      obtain ⟨b, o, hadr, hbl, d0, d1⟩ := (HR.out wr HB.out).at_ hil
      have HM2 := Lib.hid (show m + (repos[i]).pk.length = ni + pksOf (repos.take (i + 1)) by rw [pksOf_take repos i hil, HM.out]; omega)
      have hpb : (repos[i]).pk.length ≤ 1000000 := by have h1 := pksOf_le repos (i + 1); have h2 := pksOf_take repos i hil; have := HT.out; omega
      generalize repos[i] = r at *
      obtain ⟨np, hnp⟩ : ∃ np, np = r.pk.length := ⟨_, rfl⟩
      rw [← hnp] at d1 HM2 hpb
      subst hadr
      clear hnp hil
      have j0 : (0 : Int) ≤ (i : Int) := by omega
      have j1 : (i : Int) < (nr : Int) := by omega
      have B2 := Lib.hid (HB.out.alloc HB.out.size (.cells #[.int .i64 r.prio, .slice r.A np r.c] 66))
      go_wp2_with fail
      go_roundw
      case rel => exact ⟨i + 1, m + np, by omega, by go_num, by go_num, HM2.out, B2.out⟩
      case measure => simp [intOf]; omega
    · obtain rfl : i = nr := by omega
      have HMT := Lib.hid (show m = ni + pksOf repos by rw [HM.out, List.take_of_length_le (by have := HNR.out; omega)])
      have j1 : ¬ (i : Int) < (i : Int) := by omega
      clear HM
      by_cases q0 : (16 : Int) < (i : Int)
      · have EE := Lib.hid (show errOf repos ins = 40 from errOf_large (.inl (by have := HNR.out; omega)))
        go_wp2_with fail
        go_ret2
        exact NewPost.no EE.out (by decide) HB.out
      by_cases q1 : (256 : Int) < (m : Int)
      · have EE := Lib.hid (show errOf repos ins = 40 from errOf_large (.inr (by have := HNI.out; have := HMT.out; omega)))
        go_wp2_with fail
        go_ret2
        exact NewPost.no EE.out (by decide) HB.out
      have ER := Lib.hid (show errOf repos ins = if ins.all mayP && repos.all rpOk then 0 else 4 from errOf_small (by have := HNR.out; have := HNI.out; have := HMT.out; omega))
      have SS := Lib.hid (PoolSt.start HB.out (ni : Int))
      have HT2 := Lib.hid (show ins.length + pksOf repos ≤ 256 by have := HNI.out; have := HMT.out; omega)
      have HM9 := Lib.hid (show ∀ (k : Nat) (hk : k ≤ repos.length) (L : List Pr), AllAlike (allP (repos.take k) ins) L → L.length = ins.length + pksOf (repos.take k) from fun k hk L h => by rw [h.1, allP_len])
      have AD := Lib.hid (fun (P mb base : Nat) (I : Int) (L : List Pr) (No : Nat → Prop) (v : Value) A c (l : List Pk) rp pr (W : World) (h1 : PRow w.heap.size w A c l) (h2 : ∀ x ∈ l, x.deepOk ∧ x.few) h3 h4 => pooladd_any (w0 := w) HI.out (P := P) (mb := mb) (base := base) (I := I) (L := L) (No0 := No) (v0 := v) A c l rp pr W h1 h2 h3 h4)
      clear hmb HMT HR
      go_wp2_with fail
      generalize (wr.alloc (.map #[] 0)).alloc (.cells #[.slice none 0 0, .int .i64 (ni : Int), .map (some wr.heap.size)] 126) = w1 at *
      generalize wr.heap.size + 1 = P at *
      generalize wr.heap.size + 2 = base at *
      generalize wr.heap.size = mb at *
      have AD0 := AD.out P mb base ni [] _ _ IA ic ins (-1) 1025 w1 HIN.out (fun x hx => HD.out x (List.mem_append_left _ hx)) SS.out (by have := HT2.out; simp; omega)
      rw [← HNI.out] at AD0
      have AD0 := Lib.hid AD0
      clear q1
      refine AD0.out.mono ?_
      rintro en w2 ⟨hy, hn, hb⟩
      have B2 := Lib.hid hb
      clear hb SS AD0 HB
      cases hm : ins.all mayP
      · obtain rfl := hn hm
        have EE := Lib.hid (show errOf repos ins = 4 by rw [ER.out, hm]; rfl)
        clear hy hn hm
        go_wp2_with fail
        go_ret2
        exact NewPost.no EE.out (by decide) B2.out
      · obtain ⟨rfl, L1, No, v, hS, hC⟩ := hy hm
        rw [List.nil_append] at hS
        have S1 := Lib.hid hS
        have C1 := Lib.hid (AllAlike.of hC)
        have ER := Lib.hid (show errOf repos ins = if repos.all rpOk then 0 else 4 by rw [ER.out, hm]; simp)
        clear hy hn hm hS hC
        go_wp2_with fail
        go_loopw [48] (fun iv wx => ∃ (k : Nat) (L : List Pr) (No : Nat → Prop) (v : Value), k ≤ i ∧ iv = .int .i64 (k : Int) ∧ PoolSt w P mb base (ni : Int) L.length L No v wx ∧ AllAlike (allP (repos.take k) ins) L ∧ Hid (∀ r ∈ repos.take k, rpOk r = true)) (fun iv _ => i - (intOf iv).toNat)
        case atStart => exact ⟨0, L1, No, v, Nat.zero_le _, rfl, S1.out, by simpa [allP] using C1.out, Lib.hid (by simp)⟩
        case round =>
          obtain ⟨k, L, No, v, hk2, rfl, hS, hA, HOK⟩ := hrel
          rename World => wx
          have S := Lib.hid hS
          have AA := Lib.hid hA
          clear hS hA S1 C1
          by_cases hlt2 : k < i
          · have hkl : k < repos.length := by have := HNR.out; omega
            obtain ⟨b, o, hadr, hbl, d0, d1⟩ := (HRW.out.calls S.out.old).at_ hkl
            have PR := Lib.hid (HRW.out.pks _ (List.getElem_mem hkl))
            have DR := Lib.hid (show ∀ x ∈ (repos[k]).pk, x.deepOk ∧ x.few from fun x hx => HD.out x (mem_allP (List.getElem_mem hkl) hx))
            have HLN := Lib.hid (show L.length + (repos[k]).pk.length ≤ 256 by have h1 := pksOf_le repos (k + 1); have h2 := pksOf_take repos k hkl; have h3 := HM9.out k (Nat.le_of_lt hkl) L AA.out; have := HT2.out; omega)
            have WF := HRW.out.wf _ (List.getElem_mem hkl)
            have BAD := Lib.hid (show rpOk (repos[k]) = false → errOf repos ins = 4 from fun h => by rw [ER.out, if_neg]; intro h2; rw [List.all_eq_true.1 h2 _ (List.getElem_mem hkl)] at h; cases h)
            have NXT := Lib.hid (fun (h : rpOk (repos[k]) = true) => show ∀ r ∈ repos.take (k + 1), rpOk r = true from fun r hr => by
              rw [List.take_succ_eq_append_getElem hkl] at hr
              rcases List.mem_append.1 hr with hr | hr
              · exact HOK.out r hr
              · simp at hr; subst hr; exact h)
            have ALL := Lib.hid (fun (L2 : List Pr) rp pr (h : Copies (repos[k]).pk L2 rp pr) => show AllAlike (allP (repos.take (k + 1)) ins) (L ++ L2) by rw [allP_take hkl]; exact AA.out.app h)
            generalize repos[k] = r at *
            obtain ⟨np, hnp⟩ : ∃ np, np = r.pk.length := ⟨_, rfl⟩
            rw [← hnp] at d1 HLN
            have HNP := Lib.hid hnp
            subst hadr
            clear hnp hkl
            have j0 : (0 : Int) ≤ (k : Int) := by omega
            have j2 : (k : Int) < (i : Int) := by omega
            have S2 := Lib.hid (S.out.then ((Below.refl wx.heap.size wx).alloc (Nat.le_refl _) (.cells #[.int .i64 r.prio, .slice r.A np r.c] 66)))
            by_cases q2 : r.prio < 0
            · have EE := Lib.hid (BAD.out (by simp [rpOk]; intro h; omega))
              clear WF
              go_wp2_with fail
              go_ret2
              exact NewPost.no EE.out (by decide) S2.out.old
            by_cases q3 : 1024 < r.prio
            · have EE := Lib.hid (BAD.out (by simp [rpOk]; intro h; omega))
              clear WF
              go_wp2_with fail
              go_ret2
              exact NewPost.no EE.out (by decide) S2.out.old
            have RP := Lib.hid (show rpOk r = r.pk.all mayP by simp [rpOk]; intro _; omega)
            have AD0 := AD.out P mb base ni L _ _ r.A r.c r.pk (k : Int) r.prio _ PR.out DR.out S2.out (by have := HLN.out; have := HNP.out; omega)
            rw [← HNP.out] at AD0
            have AD0 := Lib.hid AD0
            clear WF S
            go_wp2_with fail
            go_at_call 82
            refine AD0.out.mono ?_
            rintro en w3 ⟨hy, hn, hb⟩
            have B3 := Lib.hid hb
            clear hb S2 AD0
            cases hm : r.pk.all mayP
            · obtain rfl := hn hm
              have EE := Lib.hid (BAD.out (by rw [RP.out]; exact hm))
              clear hy hn hm
              go_wp2_with fail
              go_ret2
              exact NewPost.no EE.out (by decide) B3.out
            · obtain ⟨rfl, L2, No2, v2, hS, hC⟩ := hy hm
              have S3 := Lib.hid hS
              have A3 := Lib.hid (ALL.out L2 _ _ hC)
              have N3 := Lib.hid (NXT.out (by rw [RP.out]; exact hm))
              clear hy hn hm hS hC
              go_wp2_with fail
              go_roundw
              case rel => exact ⟨k + 1, L ++ L2, No2, v2, by omega, by go_num, S3.out, A3.out, Lib.hid N3.out⟩
              case measure => simp [intOf]; omega
          · obtain rfl : k = i := by omega
            have j2 : ¬ (k : Int) < (k : Int) := by omega
            have EE := Lib.hid (show errOf repos ins = 0 by rw [ER.out, if_pos]; exact List.all_eq_true.2 fun r hr => HOK.out r (by rw [List.take_of_length_le (by have := HNR.out; omega)]; exact hr))
            have AE := Lib.hid (show AllAlike (allP repos ins) L by have := AA.out; rwa [List.take_of_length_le (by have := HNR.out; omega)] at this)
            go_wp2_with fail
            go_ret2
            exact ⟨fun _ => ⟨P, L, rfl, HNI.out ▸ S.out.at_, AE.out⟩, (fun h => absurd EE.out h), S.out.old⟩
end
section
/- Walks: what a pool tells: how many, the package of a number, whether one obsoletes another one. -/



open Go.RowKit Go.Shelf
set_option linter.unusedVariables false

theorem word_le {l : Bytes} (h : wordB l = true) : l.length ≤ 64 := (word_iff.1 h).2.1
theorem name_le {l : Bytes} (h : nameB l = true) : l.length ≤ 64 := by
  unfold nameB at h
  simp only [Bool.and_eq_true, decide_eq_true_eq] at h
  exact h.2.1
theorem evr_le {e : Evr} {dep : Bool} (h : mayB e dep = true) : e.ver.length ≤ 64 ∧ e.rel.length ≤ 64 := by
  unfold mayB at h
  simp only [Bool.and_eq_true, Bool.or_eq_true, decide_eq_true_eq] at h
  refine ⟨word_le h.2.2.1, ?_⟩
  rcases h.2.2.2 with h | ⟨_, h⟩
  · exact word_le h
  · rw [List.isEmpty_iff] at h; rw [h]; simp
theorem dep_small {d : Dp} (h : dmayB d = true) : d.small := by
  unfold dmayB at h
  simp only [Bool.and_eq_true] at h
  have h1 := name_le h.1
  have h2 := h.2.2
  refine ⟨by omega, ?_⟩
  split at h2
  · unfold isZero at h2
    simp only [Bool.and_eq_true, List.isEmpty_iff] at h2
    rw [h2.2.1, h2.2.2]; simp
  · simp only [Bool.and_eq_true] at h2
    have := evr_le h2.2
    exact ⟨by omega, by omega⟩
theorem small_of_may {p : Pk} (h : mayP p = true) : p.small := by
  have hm := (mayP_iff p).1 h
  have he := evr_le hm.e
  have hn := name_le hm.n
  have sz := size_toList
  have he1 : p.ver.toList.length ≤ 64 := he.1
  have he2 : p.rel.toList.length ≤ 64 := he.2
  rw [sz] at hn he1 he2
  have h1 := hm.hpv.1
  have h2 := hm.hob.1
  have h3 := hm.hfi.1
  have h4 := hm.v
  refine ⟨by omega, by omega, by omega, by omega, by omega, by omega, by omega, fun d hd => dep_small (hm.hpv.2 d hd), fun d hd => dep_small (hm.hob.2 d hd), fun s hs => ?_⟩
  have := hm.hfi.2 s hs
  unfold fileS fileB at this
  simp only [Bool.and_eq_true] at this
  have h5 := name_le this.1
  rw [sz] at h5
  omega
theorem evr_ok_of_may {p : Pk} (h : mayP p = true) : p.evr.ok := by
  have := evr_le ((mayP_iff p).1 h).e
  exact ⟨by omega, by omega⟩
/-- a pool, and that its packages may be -/
structure Pool (P : Nat) (I : Int) (L : List Pr) (W : World) : Prop where
  at_ : PoolAt P I L W
  may : ∀ x ∈ L, mayP x.pk = true ∧ x.pk.few
theorem Pool.then {P : Nat} {I : Int} {L : List Pr} {W W' : World} (h : Pool P I L W) (hb : Below W.heap.size W W') : Pool P I L W' := ⟨h.at_.then hb, h.may⟩
theorem few_alike {p q : Pk} (h : Alike p q) (hf : p.few) : q.few :=
  ⟨by rw [h.prov]; exact hf.nprov, by rw [h.obs]; exact hf.nobs, by rw [h.files]; exact hf.nfiles, by rw [h.req]; exact hf.req, by rw [h.con]; exact hf.con, by rw [h.rcm]; exact hf.rcm, by rw [h.sup]; exact hf.sup, by rw [h.sug]; exact hf.sug, by rw [h.enh]; exact hf.enh⟩
theorem may_of_err {repos : List Rp} {ins : List Pk} (h : errOf repos ins = 0) : ∀ x ∈ allP repos ins, mayP x = true := by
  unfold errOf at h
  split at h
  · cases h
  · split at h
    · rename_i h2
      rw [Bool.and_eq_true] at h2
      intro x hx
      rcases List.mem_append.1 hx with hx | hx
      · exact List.all_eq_true.1 h2.1 x hx
      · obtain ⟨r, hr, hx⟩ := List.mem_flatMap.1 hx
        have h3 := List.all_eq_true.1 h2.2 r hr
        unfold rpOk at h3
        rw [Bool.and_eq_true] at h3
        exact List.all_eq_true.1 h3.2 x hx
    · cases h
theorem Pool.of {P : Nat} {I : Int} {L : List Pr} {W : World} {repos : List Rp} {ins : List Pk} (h : PoolAt P I L W) (ha : AllAlike (allP repos ins) L) (he : errOf repos ins = 0) (hf : ∀ x ∈ allP repos ins, x.few) : Pool P I L W := by
  refine ⟨h, fun x hx => ?_⟩
  obtain ⟨i, hi, rfl⟩ := List.getElem_of_mem hx
  have hi2 : i < (allP repos ins).length := by rw [← ha.1]; exact hi
  have hA := ha.2 i hi2 hi
  exact ⟨hA.may.trans (may_of_err he _ (List.getElem_mem hi2)), few_alike hA (hf _ (List.getElem_mem hi2))⟩
theorem pr_cells {B : Nat} {A : Option Addr} {c : Nat} {L : List Pr} {W : World} (h : Rd Pr.cells 17 B A c L W) {k : Nat} (hk : k < L.length) {b o : Nat} (ha : A = some ⟨b, o, none⟩) {x : Pk} (hx : L[k].pk = x) : W.cell? ⟨b, o + k * 17, none⟩ = some (.string x.name) ∧ W.cell? ⟨b, o + k * 17 + 1, none⟩ = some (.int .i64 x.epoch) ∧ W.cell? ⟨b, o + k * 17 + 2, none⟩ = some (.string x.ver) ∧ W.cell? ⟨b, o + k * 17 + 3, none⟩ = some (.string x.rel) ∧ W.cell? ⟨b, o + k * 17 + 4, none⟩ = some (.int .u8 x.arch) ∧ W.cell? ⟨b, o + k * 17 + 5, none⟩ = some (.string x.vendor) ∧ W.cell? ⟨b, o + k * 17 + 6, none⟩ = some (.slice x.provA x.prov.length x.provC) ∧ W.cell? ⟨b, o + k * 17 + 7, none⟩ = some (.slice x.reqA x.req.length x.reqC) ∧ W.cell? ⟨b, o + k * 17 + 8, none⟩ = some (.slice x.conA x.con.length x.conC) ∧ W.cell? ⟨b, o + k * 17 + 9, none⟩ = some (.slice x.obsA x.obs.length x.obsC) ∧ W.cell? ⟨b, o + k * 17 + 10, none⟩ = some (.slice x.rcmA x.rcm.length x.rcmC) ∧ W.cell? ⟨b, o + k * 17 + 11, none⟩ = some (.slice x.supA x.sup.length x.supC) ∧ W.cell? ⟨b, o + k * 17 + 12, none⟩ = some (.slice x.sugA x.sug.length x.sugC) ∧ W.cell? ⟨b, o + k * 17 + 13, none⟩ = some (.slice x.enhA x.enh.length x.enhC) ∧ W.cell? ⟨b, o + k * 17 + 14, none⟩ = some (.slice x.filesA x.files.length x.filesC) := by
  obtain ⟨b', o', e, _, hc⟩ := h.cells hk
  rw [ha] at e
  cases e
  subst hx
  exact ⟨hc 0 _ rfl, hc 1 _ rfl, hc 2 _ rfl, hc 3 _ rfl, hc 4 _ rfl, hc 5 _ rfl, hc 6 _ rfl, hc 7 _ rfl, hc 8 _ rfl, hc 9 _ rfl, hc 10 _ rfl, hc 11 _ rfl, hc 12 _ rfl, hc 13 _ rfl, hc 14 _ rfl⟩
set_option maxRecDepth 100000 in
theorem prows_is (A : Option Addr) (c : Nat) (i : Int) (n : Nat) (w : World) (hn : n ≤ 1000000) : Calls Tryz.prog 102 #[.slice A n c, .int .i64 i] w fun e w' => e = .returned (.bool (decide (0 ≤ i ∧ i < (n : Int)))) ∧ Below w.heap.size w w' := by
  by_cases h1 : 0 ≤ i
  · go_enter Tryz.func102, Tryz.ntmps102
    go_wp2_with fail
    go_ret
    exact ⟨by simp [h1], Below.refl _ _⟩
  · go_enter Tryz.func102, Tryz.ntmps102
    go_wp2_with fail
    go_ret
    exact ⟨by simp [h1]; intro h; omega, Below.refl _ _⟩
set_option maxRecDepth 100000 in
theorem poolcount_any {P : Nat} {I : Int} {L : List Pr} {w : World} (h : PoolAt P I L w) : Calls Tryz.prog 61 #[.pointer (some ⟨P, 0, none⟩)] w fun e w' => e = .returned (.int .i64 (L.length : Int)) ∧ Below w.heap.size w w' := by
  obtain ⟨A, c, h0, _⟩ := h.row
  clear h
  go_enter Tryz.func61, Tryz.ntmps61
  go_wp2_with fail
  go_ret
  exact ⟨rfl, Below.refl _ _⟩
end
end Go.Proofs.YteobmfpbgnmffaaGreatDoor
