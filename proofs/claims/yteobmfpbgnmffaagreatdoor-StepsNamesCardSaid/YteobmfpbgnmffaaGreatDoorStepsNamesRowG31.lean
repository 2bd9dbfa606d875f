/- PoolNew -/
import Derived.Test.YteobmfpbgnmffaaGreatDoorStepsNamesRowG30
set_option linter.unusedSimpArgs false
set_option linter.unusedVariables false
/- Walk: a pool of repositories and what is installed (pool.New). -/

namespace Go.Proofs.YteobmfpbgnmffaaGreatDoor
open Go.RowKit Go.Shelf
set_option linter.unusedVariables false

def rpOk (r : Rp) : Bool := decide (0 ≤ r.prio) && decide (r.prio ≤ 1024) && r.pk.all mayP
/-- what New refuses -/
def errOf (repos : List Rp) (ins : List Pk) : Int := if 16 < repos.length ∨ 256 < ins.length + pksOf repos then 40 else if ins.all mayP && repos.all rpOk then 0 else 4
theorem errOf_large {repos : List Rp} {ins : List Pk} (h : 16 < repos.length ∨ 256 < ins.length + pksOf repos) : errOf repos ins = 40 := if_pos h
theorem errOf_small {repos : List Rp} {ins : List Pk} (h : ¬ (16 < repos.length ∨ 256 < ins.length + pksOf repos)) : errOf repos ins = if ins.all mayP && repos.all rpOk then 0 else 4 := if_neg h
/-- all packages, in their row -/
def allP (repos : List Rp) (ins : List Pk) : List Pk := ins ++ repos.flatMap Rp.pk
def AllAlike (l : List Pk) (L : List Pr) : Prop := L.length = l.length ∧ ∀ (i : Nat) (h : i < l.length) (h' : i < L.length), Alike l[i] L[i].pk
theorem AllAlike.of {l : List Pk} {L : List Pr} {rp pr : Int} (h : Copies l L rp pr) : AllAlike l L := ⟨h.1, fun i h1 h2 => (h.2 i h1 h2).1⟩
theorem AllAlike.app {l l2 : List Pk} {L L2 : List Pr} {rp pr : Int} (h : AllAlike l L) (h2 : Copies l2 L2 rp pr) : AllAlike (l ++ l2) (L ++ L2) := by
  refine ⟨by rw [List.length_append, List.length_append, h.1, h2.1], fun i hi hi' => ?_⟩
  by_cases hlt : i < l.length
  · rw [List.getElem_append_left hlt, List.getElem_append_left (by rw [h.1]; exact hlt)]
    exact h.2 i hlt (by rw [h.1]; exact hlt)
  · rw [List.getElem_append_right (by omega), List.getElem_append_right (by rw [h.1]; omega)]
    rw [List.length_append] at hi hi'
    have h3 := h2.2 (i - l.length) (by omega) (by have := h2.1; omega)
    simp only [h.1]
    exact h3.1
theorem allP_len (l : List Rp) (ins : List Pk) : (allP l ins).length = ins.length + pksOf l := by
  unfold allP pksOf
  rw [List.length_append, List.length_flatMap]
theorem allP_take {l : List Rp} {ins : List Pk} {k : Nat} (hk : k < l.length) : allP (l.take (k + 1)) ins = allP (l.take k) ins ++ l[k].pk := by
  unfold allP
  rw [List.take_succ_eq_append_getElem hk, List.flatMap_append]
  simp
theorem mem_allP {l : List Rp} {ins : List Pk} {r : Rp} (hr : r ∈ l) {x : Pk} (hx : x ∈ r.pk) : x ∈ allP l ins := List.mem_append_right _ (List.mem_flatMap.2 ⟨r, hr, hx⟩)
theorem pksOf_le (l : List Rp) (k : Nat) : pksOf (l.take k) ≤ pksOf l := by
  have h : pksOf l = pksOf (l.take k) + pksOf (l.drop k) := by
    unfold pksOf
    rw [← List.sum_append, ← List.map_append, List.take_append_drop]
  omega
def NewPost (repos : List Rp) (ins : List Pk) (w : World) (e : Ending) (w' : World) : Prop :=
  (errOf repos ins = 0 → ∃ (P : Nat) (L : List Pr), e = .returned (.tuple #[.pointer (some ⟨P, 0, none⟩), .int .i64 0]) ∧ PoolAt P (ins.length : Int) L w' ∧ AllAlike (allP repos ins) L) ∧ (errOf repos ins ≠ 0 → e = .returned (.tuple #[.pointer none, .int .i64 (errOf repos ins)])) ∧ Below w.heap.size w w'
theorem NewPost.no {repos : List Rp} {ins : List Pk} {w w' : World} {n : Int} (h : errOf repos ins = n) (hn : n ≠ 0) (hb : Below w.heap.size w w') : NewPost repos ins w (.returned (.tuple #[.pointer none, .int .i64 n])) w' :=
  ⟨fun e => absurd (h.symm.trans e) hn, fun _ => by rw [h], hb⟩
theorem PoolSt.start {w0 W : World} (hb : Below w0.heap.size w0 W) (I : Int) : PoolSt w0 (W.heap.size + 1) W.heap.size (W.heap.size + 2) I 0 [] (fun _ => False) (.slice none 0 0) ((W.alloc (.map #[] 0)).alloc (.cells #[.slice none 0 0, .int .i64 I, .map (some W.heap.size)] 126)) := by
  have z1 : (W.alloc (.map #[] 0)).heap.size = W.heap.size + 1 := by simp
  have c : ∀ i v, (#[.slice none 0 0, .int .i64 I, .map (some W.heap.size)] : Array Value)[i]? = some v → ((W.alloc (.map #[] 0)).alloc (.cells #[.slice none 0 0, .int .i64 I, .map (some W.heap.size)] 126)).cell? ⟨W.heap.size + 1, i, none⟩ = some v := fun i v hv => (World.cell?_alloc_at _ _ _ _ z1.symm).trans hv
  have G0 : (W.alloc (.map #[] 0)).ownsGroups (H := Unit) Tryz.prog 9 (W.heap.size + 2) 3 .i64 W.heap.size 0 (.map []) :=
    ⟨#[], 0, (Go.MapKept.heap_alloc W _).1, ⟨by simp, Go.MapKept.stamped_empty 0, by simp⟩, Nat.le_refl _, rfl, by omega, by simp, by simp⟩
  have S0 := World.Shuns_made W (fun g => False ∨ (Value.slice none 0 0).ownBlock = some g)
  have ga := World.grownBy_alloc (W.alloc (.map #[] 0)) (.cells #[.slice none 0 0, .int .i64 I, .map (some W.heap.size)] 126) none
  exact ⟨(hb.alloc hb.size _).alloc (by rw [z1]; have := hb.size; omega) _, Nat.le_succ_of_le hb.size, hb.size, by omega, by omega, by omega, by simp, c 0 _ rfl, c 1 _ rfl, c 2 _ rfl, fun i hi => by simp [go_sem], Own.nil_ _ _ _, by simp, by simp [Value.ownBlock], fun g h => h.elim, ⟨_, G0.kept ga (by simp) (S0.rowsOff (by simp))⟩, S0.kept ga (by simp) (by simp)⟩
set_option maxRecDepth 100000 in
set_option maxHeartbeats 16000000 in
theorem poolnew_any (RA : Option Addr) (rc : Nat) (repos : List Rp) (IA : Option Addr) (ic : Nat) (ins : List Pk) (w : World) (hI : PkIn w) (hr : RpRow w.heap.size w RA rc repos) (hi : PRow w.heap.size w IA ic ins) (hd : ∀ x ∈ allP repos ins, x.deepOk ∧ x.few) (ht : ins.length + pksOf repos ≤ 1000000) (hk : repos.length ≤ 1000000) :
    Calls Tryz.prog 23 #[.slice RA repos.length rc, .slice IA ins.length ic] w (NewPost repos ins w) := by
  have HR := Lib.hid (fun W (hb : Below w.heap.size w W) => hr.calls hb)
  have HRW := Lib.hid hr
  have HIN := Lib.hid hi
  have HD := Lib.hid hd
  have HI := Lib.hid hI
  obtain ⟨ni, hni⟩ : ∃ n, n = ins.length := ⟨_, rfl⟩
  obtain ⟨nr, hnr⟩ : ∃ n, n = repos.length := ⟨_, rfl⟩
  have HNI := Lib.hid hni
  have HNR := Lib.hid hnr
  rw [← hni] at ht ⊢
  rw [← hnr] at hk ⊢
  have HT := Lib.hid ht
  have hni2 : ni ≤ 1000000 := by omega
  clear hr hi hd hI hni hnr
  have hmm : ∀ (t : TypeId) (w : World), (Instr.makeMap t none).run Tryz.prog w = .ok (.map (some w.heap.size)) (w.alloc (.map #[] 0)) := fun _ _ => rfl
  go_enter Tryz.func23, Tryz.ntmps23
  go_wp2_with fail
  go_loopw [6, 18] (fun n iv wr => ∃ (i m : Nat), i ≤ nr ∧ iv = .int .i64 (i : Int) ∧ n = .int .i64 (m : Int) ∧ m = ni + pksOf (repos.take i) ∧ Below w.heap.size w wr) (fun _ iv _ => nr - (intOf iv).toNat)
  case atStart => exact ⟨0, ni, Nat.zero_le _, rfl, rfl, by simp [pksOf], Below.refl _ _⟩
  case round =>
    obtain ⟨i, m, hi, rfl, rfl, hm, hB⟩ := hrel
    rename World => wr
    have HM := Lib.hid hm
    have HB := Lib.hid hB
    have hmb : m ≤ 1000000 := by have := pksOf_le repos i; have := HT.out; omega
    clear hm hB
    by_cases hlt : i < nr
    · have hil : i < repos.length := by have := HNR.out; omega
      obtain ⟨b, o, hadr, hbl, d0, d1⟩ := (HR.out wr HB.out).at_ hil
      have HM2 := Lib.hid (show m + (repos[i]).pk.length = ni + pksOf (repos.take (i + 1)) by rw [pksOf_take repos i hil, HM.out]; omega)
      have hpb : (repos[i]).pk.length ≤ 1000000 := by have h1 := pksOf_le repos (i + 1); have h2 := pksOf_take repos i hil; have := HT.out; omega
      generalize repos[i] = r at *
      obtain ⟨np, hnp⟩ : ∃ np, np = r.pk.length := ⟨_, rfl⟩
      rw [← hnp] at d1 HM2 hpb
      subst hadr
      clear hnp hil
      have j0 : (0 : Int) ≤ (i : Int) := by omega
      have j1 : (i : Int) < (nr : Int) := by omega
      have B2 := Lib.hid (HB.out.alloc HB.out.size (.cells #[.int .i64 r.prio, .slice r.A np r.c] 66))
      go_wp2_with fail
      go_roundw
      case rel => exact ⟨i + 1, m + np, by omega, by go_num, by go_num, HM2.out, B2.out⟩
      case measure => simp [intOf]; omega
    · obtain rfl : i = nr := by omega
      have HMT := Lib.hid (show m = ni + pksOf repos by rw [HM.out, List.take_of_length_le (by have := HNR.out; omega)])
      have j1 : ¬ (i : Int) < (i : Int) := by omega
      clear HM
      by_cases q0 : (16 : Int) < (i : Int)
      · have EE := Lib.hid (show errOf repos ins = 40 from errOf_large (.inl (by have := HNR.out; omega)))
        go_wp2_with fail
        go_ret2
        exact NewPost.no EE.out (by decide) HB.out
      by_cases q1 : (256 : Int) < (m : Int)
      · have EE := Lib.hid (show errOf repos ins = 40 from errOf_large (.inr (by have := HNI.out; have := HMT.out; omega)))
        go_wp2_with fail
        go_ret2
        exact NewPost.no EE.out (by decide) HB.out
      have ER := Lib.hid (show errOf repos ins = if ins.all mayP && repos.all rpOk then 0 else 4 from errOf_small (by have := HNR.out; have := HNI.out; have := HMT.out; omega))
      have SS := Lib.hid (PoolSt.start HB.out (ni : Int))
      have HT2 := Lib.hid (show ins.length + pksOf repos ≤ 256 by have := HNI.out; have := HMT.out; omega)
      have HM9 := Lib.hid (show ∀ (k : Nat) (hk : k ≤ repos.length) (L : List Pr), AllAlike (allP (repos.take k) ins) L → L.length = ins.length + pksOf (repos.take k) from fun k hk L h => by rw [h.1, allP_len])
      have AD := Lib.hid (fun (P mb base : Nat) (I : Int) (L : List Pr) (No : Nat → Prop) (v : Value) A c (l : List Pk) rp pr (W : World) (h1 : PRow w.heap.size w A c l) (h2 : ∀ x ∈ l, x.deepOk ∧ x.few) h3 h4 => pooladd_any (w0 := w) HI.out (P := P) (mb := mb) (base := base) (I := I) (L := L) (No0 := No) (v0 := v) A c l rp pr W h1 h2 h3 h4)
      clear hmb HMT HR
      go_wp2_with fail
      generalize (wr.alloc (.map #[] 0)).alloc (.cells #[.slice none 0 0, .int .i64 (ni : Int), .map (some wr.heap.size)] 126) = w1 at *
      generalize wr.heap.size + 1 = P at *
      generalize wr.heap.size + 2 = base at *
      generalize wr.heap.size = mb at *
      have AD0 := AD.out P mb base ni [] _ _ IA ic ins (-1) 1025 w1 HIN.out (fun x hx => HD.out x (List.mem_append_left _ hx)) SS.out (by have := HT2.out; simp; omega)
      rw [← HNI.out] at AD0
      have AD0 := Lib.hid AD0
      clear q1
      refine AD0.out.mono ?_
      rintro en w2 ⟨hy, hn, hb⟩
      have B2 := Lib.hid hb
      clear hb SS AD0 HB
      cases hm : ins.all mayP
      · obtain rfl := hn hm
        have EE := Lib.hid (show errOf repos ins = 4 by rw [ER.out, hm]; rfl)
        clear hy hn hm
        go_wp2_with fail
        go_ret2
        exact NewPost.no EE.out (by decide) B2.out
      · obtain ⟨rfl, L1, No, v, hS, hC⟩ := hy hm
        rw [List.nil_append] at hS
        have S1 := Lib.hid hS
        have C1 := Lib.hid (AllAlike.of hC)
        have ER := Lib.hid (show errOf repos ins = if repos.all rpOk then 0 else 4 by rw [ER.out, hm]; simp)
        clear hy hn hm hS hC
        go_wp2_with fail
        go_loopw [48] (fun iv wx => ∃ (k : Nat) (L : List Pr) (No : Nat → Prop) (v : Value), k ≤ i ∧ iv = .int .i64 (k : Int) ∧ PoolSt w P mb base (ni : Int) L.length L No v wx ∧ AllAlike (allP (repos.take k) ins) L ∧ Hid (∀ r ∈ repos.take k, rpOk r = true)) (fun iv _ => i - (intOf iv).toNat)
        case atStart => exact ⟨0, L1, No, v, Nat.zero_le _, rfl, S1.out, by simpa [allP] using C1.out, Lib.hid (by simp)⟩
        case round =>
          obtain ⟨k, L, No, v, hk2, rfl, hS, hA, HOK⟩ := hrel
          rename World => wx
          have S := Lib.hid hS
          have AA := Lib.hid hA
          clear hS hA S1 C1
          by_cases hlt2 : k < i
          · have hkl : k < repos.length := by have := HNR.out; omega
            obtain ⟨b, o, hadr, hbl, d0, d1⟩ := (HRW.out.calls S.out.old).at_ hkl
            have PR := Lib.hid (HRW.out.pks _ (List.getElem_mem hkl))
            have DR := Lib.hid (show ∀ x ∈ (repos[k]).pk, x.deepOk ∧ x.few from fun x hx => HD.out x (mem_allP (List.getElem_mem hkl) hx))
            have HLN := Lib.hid (show L.length + (repos[k]).pk.length ≤ 256 by have h1 := pksOf_le repos (k + 1); have h2 := pksOf_take repos k hkl; have h3 := HM9.out k (Nat.le_of_lt hkl) L AA.out; have := HT2.out; omega)
            have WF := HRW.out.wf _ (List.getElem_mem hkl)
            have BAD := Lib.hid (show rpOk (repos[k]) = false → errOf repos ins = 4 from fun h => by rw [ER.out, if_neg]; intro h2; rw [List.all_eq_true.1 h2 _ (List.getElem_mem hkl)] at h; cases h)
            have NXT := Lib.hid (fun (h : rpOk (repos[k]) = true) => show ∀ r ∈ repos.take (k + 1), rpOk r = true from fun r hr => by
              rw [List.take_succ_eq_append_getElem hkl] at hr
              rcases List.mem_append.1 hr with hr | hr
              · exact HOK.out r hr
              · simp at hr; subst hr; exact h)
            have ALL := Lib.hid (fun (L2 : List Pr) rp pr (h : Copies (repos[k]).pk L2 rp pr) => show AllAlike (allP (repos.take (k + 1)) ins) (L ++ L2) by rw [allP_take hkl]; exact AA.out.app h)
            generalize repos[k] = r at *
            obtain ⟨np, hnp⟩ : ∃ np, np = r.pk.length := ⟨_, rfl⟩
            rw [← hnp] at d1 HLN
            have HNP := Lib.hid hnp
            subst hadr
            clear hnp hkl
            have j0 : (0 : Int) ≤ (k : Int) := by omega
            have j2 : (k : Int) < (i : Int) := by omega
            have S2 := Lib.hid (S.out.then ((Below.refl wx.heap.size wx).alloc (Nat.le_refl _) (.cells #[.int .i64 r.prio, .slice r.A np r.c] 66)))
            by_cases q2 : r.prio < 0
            · have EE := Lib.hid (BAD.out (by simp [rpOk]; intro h; omega))
              clear WF
              go_wp2_with fail
              go_ret2
              exact NewPost.no EE.out (by decide) S2.out.old
            by_cases q3 : 1024 < r.prio
            · have EE := Lib.hid (BAD.out (by simp [rpOk]; intro h; omega))
              clear WF
              go_wp2_with fail
              go_ret2
              exact NewPost.no EE.out (by decide) S2.out.old
            have RP := Lib.hid (show rpOk r = r.pk.all mayP by simp [rpOk]; intro _; omega)
            have AD0 := AD.out P mb base ni L _ _ r.A r.c r.pk (k : Int) r.prio _ PR.out DR.out S2.out (by have := HLN.out; have := HNP.out; omega)
            rw [← HNP.out] at AD0
            have AD0 := Lib.hid AD0
            clear WF S
            go_wp2_with fail
            go_at_call 82
            refine AD0.out.mono ?_
            rintro en w3 ⟨hy, hn, hb⟩
            have B3 := Lib.hid hb
            clear hb S2 AD0
            cases hm : r.pk.all mayP
            · obtain rfl := hn hm
              have EE := Lib.hid (BAD.out (by rw [RP.out]; exact hm))
              clear hy hn hm
              go_wp2_with fail
              go_ret2
              exact NewPost.no EE.out (by decide) B3.out
            · obtain ⟨rfl, L2, No2, v2, hS, hC⟩ := hy hm
              have S3 := Lib.hid hS
              have A3 := Lib.hid (ALL.out L2 _ _ hC)
              have N3 := Lib.hid (NXT.out (by rw [RP.out]; exact hm))
              clear hy hn hm hS hC
              go_wp2_with fail
              go_roundw
              case rel => exact ⟨k + 1, L ++ L2, No2, v2, by omega, by go_num, S3.out, A3.out, Lib.hid N3.out⟩
              case measure => simp [intOf]; omega
          · obtain rfl : k = i := by omega
            have j2 : ¬ (k : Int) < (k : Int) := by omega
            have EE := Lib.hid (show errOf repos ins = 0 by rw [ER.out, if_pos]; exact List.all_eq_true.2 fun r hr => HOK.out r (by rw [List.take_of_length_le (by have := HNR.out; omega)]; exact hr))
            have AE := Lib.hid (show AllAlike (allP repos ins) L by have := AA.out; rwa [List.take_of_length_le (by have := HNR.out; omega)] at this)
            go_wp2_with fail
            go_ret2
            exact ⟨fun _ => ⟨P, L, rfl, HNI.out ▸ S.out.at_, AE.out⟩, (fun h => absurd EE.out h), S.out.old⟩
end Go.Proofs.YteobmfpbgnmffaaGreatDoor
