/- St14Much, St14Large, St14Wide -/
import Derived.Test.YteobmfpbgnmffaaGreatDoorTruthMoreRowG09
import Derived.Test.YteobmfpbgnmffaaGreatDoorTruthMoreRowG20
import Derived.Test.YteobmfpbgnmffaaGreatDoorTruthMoreRowG36
set_option linter.unusedSimpArgs false
set_option linter.unusedVariables false
namespace Go.Proofs.YteobmfpbgnmffaaGreatDoor
section
/- Walk: of how many parts rich dependencies are (chandlerylaw14.much). -/


open Go.RowKit Go.Shelf
set_option linter.unusedVariables false

set_option maxRecDepth 100000 in
set_option maxHeartbeats 16000000 in
theorem much14_any : ∀ (f : Nat) (deep : Nat) (A : Option Addr) (cap : Nat) (l : List RV) (w : World), deep + f = 21 → RRow w.heap.size w A cap l → Calls Tryz.prog 92 #[.slice A l.length cap, .int .i64 (deep : Int)] w (MuchPost2 l w)
  | 0, deep, A, cap, l, w, hd, h => by
    obtain rfl : deep = 21 := by omega
    have hm := h.1.len
    clear h
    generalize l.length = n at *
    go_enter Tryz.func92, Tryz.ntmps92
    go_wp2_with fail
    go_ret2
    exact ⟨0, true, rfl, by omega, (fun h => by cases h), Below.refl _ _⟩
  | f + 1, deep, A, cap, l, w, hd, h => by
    have IH := Lib.hid (fun A cap l w h => much14_any f (deep + 1) A cap l w (by omega) h)
    have hm := h.1.len
    have H := Lib.hid h
    have d0 : ¬ (20 : Int) < (deep : Int) := by omega
    have d1 : (deep : Int) ≤ 20 := by omega
    clear h
    by_cases hn : 100 < l.length
    · have hn2 : (100 : Int) < (l.length : Int) := by omega
      clear IH H hn
      generalize l.length = n at *
      go_enter Tryz.func92, Tryz.ntmps92
      go_wp2_with fail
      go_ret2
      exact ⟨0, true, rfl, by omega, (fun h => by cases h), Below.refl _ _⟩
    · have hn2 : ¬ (100 : Int) < (l.length : Int) := by omega
      obtain ⟨n, hnn⟩ : ∃ n, n = l.length := ⟨_, rfl⟩
      rw [← hnn] at hn hn2 hm ⊢
      have HN := Lib.hid hnn
      clear hnn
      have hd1 : (((deep + 1 : Nat)) : Int) = (deep : Int) + 1 := by omega
      rw [hd1] at IH
      clear hd1
      go_enter Tryz.func92, Tryz.ntmps92
      go_wp2_with fail
      go_loopw [6, 7] (fun m i wr => ∃ k c : Nat, k ≤ n ∧ c ≤ 2000 ∧ i = .int .i64 (k : Int) ∧ m = .int .i64 (c : Int) ∧ Hid (c = partsL ((treeL l).take k)) ∧ Below w.heap.size w wr) (fun _ i _ => n - (intOf i).toNat)
      case atStart => exact ⟨0, 0, by omega, by omega, rfl, rfl, Lib.hid (by simp [partsL]), Below.refl _ _⟩
      case round =>
        obtain ⟨k, c, hk, hc, rfl, rfl, HCP, hB⟩ := hrel
        rename World => wr
        by_cases hlt : k < n
        · have hkl : k < l.length := by have := HN.out; omega
          have HS := Lib.hid ((H.out.below hB).sub hkl)
          obtain ⟨b, o, rfl, hb, c0, c1, c2, c3, c4, c5, c6⟩ := (H.out.below hB).at_ hkl
          have hw := (H.out.2 _ (List.getElem_mem hkl)).wf
          have HST := Lib.hid (show ∀ m : Nat, m = partsL (treeL l[k].args) → c + 1 + m = partsL ((treeL l).take (k + 1)) from fun m hm => by
            have hkt : k < (treeL l).length := by rw [treeL_len]; exact hkl
            have g1 := partsL_take3 hkt
            rw [treeL_get l k hkl, tree_parts l[k], RT.parts, ← hm, ← HCP.out] at g1
            omega)
          generalize l[k] = t at *
          have i0 : (0 : Int) ≤ (k : Int) := by omega
          have i1 : (k : Int) < (n : Int) := by omega
          have hsz := hB.size
          have HB := Lib.hid hB
          clear hkl hw hB c0 c2 c3
          generalize bs t.dep.name = s0 at *
          generalize bs t.dep.evr.ver = s1 at *
          generalize bs t.dep.evr.rel = s2 at *
          generalize t.addr = tA at *
          generalize t.cap = tc at *
          generalize t.args = tl at *
          obtain ⟨z, hz⟩ : ∃ z, IntKind.i64.wrap ((s0.size : Int) + (s1.size : Int)) = z := ⟨_, rfl⟩
          by_cases q1 : (500 : Int) < z
          · go_wp2_with fail
            go_quiet (fail)
            go_wp2_with fail
            go_ret2
            exact ⟨0, true, rfl, by omega, (fun h => by cases h), below_drewNm HB.out⟩
          · by_cases q2 : (500 : Int) < (s2.size : Int)
            · go_wp2_with fail
              go_quiet (fail)
              go_wp2_with fail
              go_ret2
              exact ⟨0, true, rfl, by omega, (fun h => by cases h), below_drewNm HB.out⟩
            · go_wp2_with fail
              go_quiet (fail)
              go_wp2_with fail
              go_at_call 92
              refine (IH.out tA tc tl _ ((HS.out.below (below_drewNm (Below.refl _ _))).more hsz)).mono ?_
              rintro e w2 ⟨m, r, rfl, hm2, hmp, h⟩
              have HMP := Lib.hid hmp
              clear hmp
              have hB2 := (below_drewNm HB.out).trans (h.mono hsz)
              clear h
              cases r
              · by_cases q3 : (2000 : Int) < (c : Int) + 1 + (m : Int)
                · go_wp2_with fail
                  go_ret2
                  exact ⟨0, true, rfl, by omega, (fun h => by cases h), hB2⟩
                · go_wp2_with fail
                  go_roundw
                  case rel => exact ⟨k + 1, c + 1 + m, by omega, by omega, by go_num, by go_num, Lib.hid (HST.out m (HMP.out (by trivial))), hB2⟩
                  case measure => simp [intOf]; omega
              · go_wp2_with fail
                go_ret2
                exact ⟨0, true, rfl, by omega, (fun h => by cases h), hB2⟩
        · have i1 : ¬ (k : Int) < (n : Int) := by omega
          go_wp2_with fail
          go_ret2
          exact ⟨c, false, rfl, hc, (fun _ => by rw [HCP.out, List.take_of_length_le (by rw [treeL_len]; have := HN.out; omega)]), hB⟩
end
section
/- Walk: whether a package is more than a statement goes over (chandlerylaw14.large). -/



open Go.RowKit Go.Shelf
set_option linter.unusedVariables false

set_option maxRecDepth 100000 in
set_option maxHeartbeats 16000000 in
theorem large14_any (p : Pk) (w : World) (h : p.Laid w.heap.size w) : Calls Tryz.prog 93 #[p.val] w (SlimPost p w) := by
  have L1 := h.prov.len
  have L2 := h.obs.len
  have L3 := h.files.len
  have n0 := h.n0
  have n1 := h.n1
  have n2 := h.n2
  have n3 := h.n3
  unfold maxLen at n0 n1 n2 n3
  have H := Lib.hid h
  unfold Pk.val
  clear h
  have hbox : Below w.heap.size w (w.alloc (.cells #[.string p.name, .int .i64 p.epoch, .string p.ver, .string p.rel, .int .u8 p.arch, .string p.vendor, .slice p.provA p.prov.length p.provC, .slice p.reqA p.req.length p.reqC, .slice p.conA p.con.length p.conC, .slice p.obsA p.obs.length p.obsC, .slice p.rcmA p.rcm.length p.rcmC, .slice p.supA p.sup.length p.supC, .slice p.sugA p.sug.length p.sugC, .slice p.enhA p.enh.length p.enhC, .slice p.filesA p.files.length p.filesC] 28)) := (Below.refl _ w).alloc (Nat.le_refl _) _
  by_cases q0 : (100 : Int) < (p.prov.length : Int)
  · go_enter Tryz.func93, Tryz.ntmps93
    go_wp2_with fail
    go_ret
    exact slim_yes hbox
  by_cases q1 : (100 : Int) < (p.obs.length : Int)
  · go_enter Tryz.func93, Tryz.ntmps93
    go_wp2_with fail
    go_ret
    exact slim_yes hbox
  by_cases q2 : (100 : Int) < (p.files.length : Int)
  · go_enter Tryz.func93, Tryz.ntmps93
    go_wp2_with fail
    go_ret
    exact slim_yes hbox
  by_cases q3 : (1000 : Int) < (p.name.size : Int)
  · go_enter Tryz.func93, Tryz.ntmps93
    go_wp2_with fail
    go_ret
    exact slim_yes hbox
  by_cases q4 : (1000 : Int) < (p.vendor.size : Int)
  · go_enter Tryz.func93, Tryz.ntmps93
    go_wp2_with fail
    go_ret
    exact slim_yes hbox
  by_cases q5 : (1000 : Int) < (p.ver.size : Int)
  · go_enter Tryz.func93, Tryz.ntmps93
    go_wp2_with fail
    go_ret
    exact slim_yes hbox
  by_cases q6 : (1000 : Int) < (p.rel.size : Int)
  · go_enter Tryz.func93, Tryz.ntmps93
    go_wp2_with fail
    go_ret
    exact slim_yes hbox
  have SM := Lib.hid (fun (h : ∀ k, k < 6 → partsL (treeL (sixL p k)) ≤ 2000) => show p.slim from ⟨by omega, by omega, by omega, by omega, by omega, by omega, by omega, h⟩)
  have hz1 : (w.alloc (.cells #[.string p.name, .int .i64 p.epoch, .string p.ver, .string p.rel, .int .u8 p.arch, .string p.vendor, .slice p.provA p.prov.length p.provC, .slice p.reqA p.req.length p.reqC, .slice p.conA p.con.length p.conC, .slice p.obsA p.obs.length p.obsC, .slice p.rcmA p.rcm.length p.rcmC, .slice p.supA p.sup.length p.supC, .slice p.sugA p.sug.length p.sugC, .slice p.enhA p.enh.length p.enhC, .slice p.filesA p.files.length p.filesC] 28)).heap.size = w.heap.size + 1 := by simp
  have H6 := Lib.hid (fun (W' : World) h (k : Nat) (hk : k < 6) => six_at2 (w.alloc (.cells #[.string p.name, .int .i64 p.epoch, .string p.ver, .string p.rel, .int .u8 p.arch, .string p.vendor, .slice p.provA p.prov.length p.provC, .slice p.reqA p.req.length p.reqC, .slice p.conA p.con.length p.conC, .slice p.obsA p.obs.length p.obsC, .slice p.rcmA p.rcm.length p.rcmC, .slice p.supA p.sup.length p.supC, .slice p.sugA p.sug.length p.sugC, .slice p.enhA p.enh.length p.enhC, .slice p.filesA p.files.length p.filesC] 28)) p 25 (H.out.below hbox) (by rw [hz1]; omega) W' h k hk)
  have HB := Lib.hid (hbox.alloc (by rw [hz1]; omega) (.cells #[.slice p.reqA p.req.length p.reqC, .slice p.conA p.con.length p.conC, .slice p.rcmA p.rcm.length p.rcmC, .slice p.supA p.sup.length p.supC, .slice p.sugA p.sug.length p.sugC, .slice p.enhA p.enh.length p.enhC] 25))
  clear hbox hz1
  go_enter Tryz.func93, Tryz.ntmps93
  go_wp2_with fail
  have hz1 : (w.alloc (.cells #[.string p.name, .int .i64 p.epoch, .string p.ver, .string p.rel, .int .u8 p.arch, .string p.vendor, .slice p.provA p.prov.length p.provC, .slice p.reqA p.req.length p.reqC, .slice p.conA p.con.length p.conC, .slice p.obsA p.obs.length p.obsC, .slice p.rcmA p.rcm.length p.rcmC, .slice p.supA p.sup.length p.supC, .slice p.sugA p.sug.length p.sugC, .slice p.enhA p.enh.length p.enhC, .slice p.filesA p.files.length p.filesC] 28)).heap.size = w.heap.size + 1 := by simp
  rw [hz1] at H6
  generalize (w.alloc (.cells #[.string p.name, .int .i64 p.epoch, .string p.ver, .string p.rel, .int .u8 p.arch, .string p.vendor, .slice p.provA p.prov.length p.provC, .slice p.reqA p.req.length p.reqC, .slice p.conA p.con.length p.conC, .slice p.obsA p.obs.length p.obsC, .slice p.rcmA p.rcm.length p.rcmC, .slice p.supA p.sup.length p.supC, .slice p.sugA p.sug.length p.sugC, .slice p.enhA p.enh.length p.enhC, .slice p.filesA p.files.length p.filesC] 28)).alloc (.cells #[.slice p.reqA p.req.length p.reqC, .slice p.conA p.con.length p.conC, .slice p.rcmA p.rcm.length p.rcmC, .slice p.supA p.sup.length p.supC, .slice p.sugA p.sug.length p.sugC, .slice p.enhA p.enh.length p.enhC] 25) = V at *
  clear q0 q1 q2 q3 q4 q5 q6 hz1
  go_loopw [3, 64] (fun m i wr => ∃ k n : Nat, k ≤ 6 ∧ n ≤ 2000 ∧ i = .int .i64 (k : Int) ∧ m = .int .i64 (n : Int) ∧ Hid (∀ j, j < k → partsL (treeL (sixL p j)) ≤ 2000) ∧ Below V.heap.size V wr) (fun _ i _ => 6 - (intOf i).toNat)
  case atStart => exact ⟨0, 0, by omega, by omega, rfl, rfl, Lib.hid (by intro j h; omega), Below.refl _ _⟩
  case round =>
    obtain ⟨k, n, hk, hn, rfl, rfl, HSX, hB⟩ := hrel
    rename World => wr
    by_cases hlt : k < 6
    · obtain ⟨A6, c6, e6, h6⟩ := H6.out wr hB k hlt
      have HSY := Lib.hid (fun (h : partsL (treeL (sixL p k)) ≤ 2000) => show ∀ j, j < k + 1 → partsL (treeL (sixL p j)) ≤ 2000 from fun j hj => by
        by_cases e : j = k
        · subst e; exact h
        · exact HSX.out j (by omega))
      generalize sixL p k = l6 at *
      have MU := Lib.hid (much14_any 21 0 A6 c6 l6 wr rfl h6)
      have i0 : (0 : Int) ≤ (k : Int) := by omega
      have i1 : (k : Int) < 6 := by omega
      clear h6
      go_wp2_with fail
      go_at_call 92
      refine MU.out.mono ?_
      rintro e w3 ⟨m, r, rfl, hm, hmp, h⟩
      have HMP := Lib.hid hmp
      clear hmp
      have hB3 := hB.trans (h.mono hB.size)
      clear h MU
      cases r
      · by_cases q6' : (2000 : Int) < (n : Int) + (m : Int)
        · go_wp2_with fail
          go_ret
          exact slim_yes (HB.out.trans (hB3.mono HB.out.size))
        · go_wp2_with fail
          go_roundw
          case rel => exact ⟨k + 1, n + m, by omega, by omega, by go_num, by go_num, Lib.hid (HSY.out (by have := HMP.out (by trivial); omega)), hB3⟩
          case measure => simp [intOf]; omega
      · go_wp2_with fail
        go_ret
        exact slim_yes (HB.out.trans (hB3.mono HB.out.size))
    · have i1 : ¬ (k : Int) < 6 := by omega
      go_wp2_with fail
      go_ret
      exact ⟨false, rfl, fun _ => SM.out fun j hj => HSX.out j (by omega), HB.out.trans (hB.mono HB.out.size)⟩
end
section
/- Walk: whether repositories, what is installed, a state and a rich dependency are more than a statement goes over (chandlerylaw14.wide). -/




open Go.RowKit Go.Shelf
set_option linter.unusedVariables false

def Wide14 (repos : List Rp) (ins : List Pk) (sl : Nat) (R : RV) (w : World) (e : Ending) (w' : World) : Prop := ∃ r, e = .returned (.bool r) ∧ (r = false → Narrow repos ins (sl : Int) ∧ R.tree.parts ≤ 2000) ∧ Below w.heap.size w w'
theorem wide14_yes {repos : List Rp} {ins : List Pk} {sl : Nat} {R : RV} {w w' : World} (h : Below w.heap.size w w') : Wide14 repos ins sl R w (.returned (.bool true)) w' := ⟨true, rfl, (fun hf => by cases hf), h⟩
theorem rp_cell14 {w W : World} {A : Option Addr} {cap : Nat} {l : List Rp} (h : RpRow w.heap.size w A cap l) (hb : Below w.heap.size w W) {k : Nat} (hk : k < l.length) {b o : Nat} (ha : A = some ⟨b, o, none⟩) : W.cell? ⟨b, o + k * 2 + 1, none⟩ = some (.slice l[k].A l[k].pk.length l[k].c) := by
  obtain ⟨b', o', e, _, _, h2⟩ := (h.calls hb).at_ hk
  rw [ha] at e
  cases e
  exact h2
theorem rrow_one {W : World} {R : RV} (h : RTree W.heap.size W R) : RRow (W.alloc (.cells #[.int .u8 R.kind, .string (bs R.dep.name), .int .u8 R.dep.op, .int .i64 R.dep.evr.epoch, .string (bs R.dep.evr.ver), .string (bs R.dep.evr.rel), .slice R.addr R.args.length R.cap] 39)).heap.size (W.alloc (.cells #[.int .u8 R.kind, .string (bs R.dep.name), .int .u8 R.dep.op, .int .i64 R.dep.evr.epoch, .string (bs R.dep.evr.ver), .string (bs R.dep.evr.rel), .slice R.addr R.args.length R.cap] 39)) (some ⟨W.heap.size, 0, none⟩) 1 [R] := by
  have b1 := (Below.refl W.heap.size W).alloc (Nat.le_refl _) (.cells #[.int .u8 R.kind, .string (bs R.dep.name), .int .u8 R.dep.op, .int .i64 R.dep.evr.epoch, .string (bs R.dep.evr.ver), .string (bs R.dep.evr.rel), .slice R.addr R.args.length R.cap] 39)
  refine ⟨⟨by simp, by unfold maxLen; omega, fun k hk => ⟨W.heap.size, 0, rfl, by simp, fun j u hu => ?_⟩⟩, fun t ht => ?_⟩
  · obtain rfl : k = 0 := by simp at hk; exact hk
    refine (World.cell?_alloc_at _ _ _ _ rfl).trans ?_
    simpa [encR] using hu
  · simp at ht; subst ht
    exact (h.keeps b1).more b1.size
set_option maxRecDepth 100000 in
set_option maxHeartbeats 16000000 in
theorem wide14_any (RA : Option Addr) (rc : Nat) (repos : List Rp) (IA : Option Addr) (ic : Nat) (ins : List Pk) (SA : Option Addr) (sl sc : Nat) (R : RV) (w : World) (hr : RpRow w.heap.size w RA rc repos) (hi : PRow w.heap.size w IA ic ins) (hT : RTree w.heap.size w R) : Calls Tryz.prog 36 #[.slice RA repos.length rc, .slice IA ins.length ic, .slice SA sl sc, R.val] w (Wide14 repos ins sl R w) := by
  have HI := Lib.hid hi
  have HR := Lib.hid hr
  have LI := hi.1.len
  have LR := hr.row.len
  have mi := hi.1.1
  have mr := hr.row.1
  have mi2 := hi.1.2.1
  have mr2 := hr.row.2.1
  unfold maxLen at mi2 mr2
  clear hi hr
  have LG := Lib.hid (fun (p : Pk) W (h : p.Laid W.heap.size W) => large14_any p W h)
  unfold Pk.val at LG
  have b1 := (Below.refl w.heap.size w).alloc (Nat.le_refl _) (.cells #[.int .u8 R.kind, .string (bs R.dep.name), .int .u8 R.dep.op, .int .i64 R.dep.evr.epoch, .string (bs R.dep.evr.ver), .string (bs R.dep.evr.rel), .slice R.addr R.args.length R.cap] 39)
  have RB := RBx.new R w
  have tr := (hT.keeps b1).more b1.size
  have rw1 := rrow_one tr
  rw [show (w.alloc (.cells #[.int .u8 R.kind, .string (bs R.dep.name), .int .u8 R.dep.op, .int .i64 R.dep.evr.epoch, .string (bs R.dep.evr.ver), .string (bs R.dep.evr.rel), .slice R.addr R.args.length R.cap] 39)).heap.size = w.heap.size + 1 from by simp] at rw1
  have MU := Lib.hid (much14_any 21 0 _ 1 [R] _ rfl rw1)
  have b2 := b1.alloc b1.size (.cells #[.int .u8 R.kind, .string (bs R.dep.name), .int .u8 R.dep.op, .int .i64 R.dep.evr.epoch, .string (bs R.dep.evr.ver), .string (bs R.dep.evr.rel), .slice R.addr R.args.length R.cap] 39)
  unfold MuchPost2 at MU
  rw [show [R].length = 1 from rfl] at MU
  unfold RV.val
  obtain ⟨_, z0, z1, z2, z3, z4, z5, z6⟩ := RB
  have B2 := Lib.hid b2
  clear tr rw1 b1 b2 hT
  obtain ⟨ni, hni⟩ : ∃ n, n = ins.length := ⟨_, rfl⟩
  obtain ⟨nr, hnr⟩ : ∃ n, n = repos.length := ⟨_, rfl⟩
  rw [← hni] at LI mi ⊢
  rw [← hnr] at LR mr ⊢
  have HNI := Lib.hid hni
  have HNR := Lib.hid hnr
  clear hni hnr
  go_enter Tryz.func36, Tryz.ntmps36
  go_wp2_with fail
  go_at_call 92
  refine MU.out.mono ?_
  rintro en W1 ⟨mm, rr, rfl, hm2, hr2, h⟩
  have HB0 := Lib.hid (B2.out.trans (h.mono B2.out.size))
  have HR2 := Lib.hid hr2
  clear h hr2 MU B2 z0 z1 z2 z3 z4 z5 z6
  cases rr
  rotate_left
  · go_wp2_with fail
    go_ret
    exact wide14_yes HB0.out
  have HPT := Lib.hid (show R.tree.parts ≤ 2000 from by
    have q := HR2.out (by trivial)
    rw [treeL, treeL, partsL, partsL] at q
    omega)
  clear HR2
  by_cases q0 : (30 : Int) < (nr : Int)
  · go_wp2_with fail
    go_ret
    exact wide14_yes HB0.out
  by_cases q1 : (30 : Int) < (ni : Int)
  · go_wp2_with fail
    go_ret
    exact wide14_yes HB0.out
  by_cases q2 : (200 : Int) < (sl : Int)
  · go_wp2_with fail
    go_ret
    exact wide14_yes HB0.out
  have Q2 := Lib.hid q2
  go_wp2_with fail
  clear q2
  go_loopw [12] (fun i wr => ∃ j : Nat, j ≤ ni ∧ i = .int .i64 (j : Int) ∧ Hid (∀ m (hm : m < ins.length), m < j → (ins[m]).slim) ∧ Below w.heap.size w wr) (fun i _ => ni - (intOf i).toNat)
  case atStart => exact ⟨0, by omega, rfl, Lib.hid (by intro m hm h; omega), HB0.out⟩
  case round =>
    obtain ⟨j, hj, rfl, HS, hB⟩ := hrel
    rename World => wr
    have HB := Lib.hid hB
    clear hB
    by_cases hlt : j < ni
    · have hjl : j < ins.length := by have := HNI.out; omega
      obtain ⟨b, o, hadr, hbl, e0, e1, e2, e3, e4, e5, e6, e7, e8, e9, e10, e11, e12, e13, e14⟩ := (HI.out.calls HB.out).at_ hjl
      have LP := Lib.hid (LG.out ins[j] wr ((HI.out.calls HB.out).2 _ (List.getElem_mem hjl)))
      have HSY := Lib.hid (fun (h : (ins[j]).slim) => show ∀ m (hm : m < ins.length), m < j + 1 → (ins[m]).slim from fun m hm hmj => by
        by_cases e : m = j
        · subst e; exact h
        · exact HS.out m hm (by omega))
      unfold SlimPost at LP
      generalize ins[j] = x at *
      subst hadr
      have i0 : (0 : Int) ≤ (j : Int) := by omega
      have i1 : (j : Int) < (ni : Int) := by omega
      clear hjl
      go_wp2_with fail
      go_at_call 93
      refine LP.out.mono ?_
      rintro e w3 ⟨r, rfl, hs, h⟩
      have HB3 := Lib.hid (HB.out.trans (h.mono HB.out.size))
      have HSP := Lib.hid hs
      clear h hs LP e0 e1 e2 e3 e4 e5 e6 e7 e8 e9 e10 e11 e12 e13 e14
      cases r
      · go_wp2_with fail
        go_roundw
        case rel => exact ⟨j + 1, by omega, by go_num, Lib.hid (HSY.out (HSP.out (by trivial))), HB3.out⟩
        case measure => simp [intOf]; omega
      · go_wp2_with fail
        go_ret
        exact wide14_yes HB3.out
    · obtain rfl : j = ni := by omega
      have SI := Lib.hid (show ∀ p ∈ ins, p.slim from fun p hp => by
        obtain ⟨m, hm, rfl⟩ := List.getElem_of_mem hp
        exact HS.out m hm (by have := HNI.out; omega))
      clear HS
      have i1 : ¬ (j : Int) < (j : Int) := by omega
      go_wp2_with fail
      go_loopw [11, 13] (fun n i wx => ∃ (t m : Nat), t ≤ nr ∧ i = .int .i64 (t : Int) ∧ n = .int .i64 (m : Int) ∧ Hid (m = ins.length + pksOf (repos.take t)) ∧ (0 < t → m ≤ 50) ∧ m ≤ 50 ∧ Hid (∀ u (hu : u < repos.length), u < t → ∀ p ∈ (repos[u]).pk, p.slim) ∧ Below w.heap.size w wx) (fun _ i _ => nr - (intOf i).toNat)
      case atStart => exact ⟨0, j, by omega, rfl, rfl, Lib.hid (by rw [HNI.out]; simp [pksOf]), by omega, by omega, Lib.hid (by intro u hu h; omega), HB.out⟩
      case round =>
        obtain ⟨t, m, ht, rfl, rfl, HM, _, hm50, HS, hB⟩ := hrel
        rename World => wx
        have HX := Lib.hid hB
        clear hB HB
        by_cases hlt2 : t < nr
        · have htl : t < repos.length := by have := HNR.out; omega
          obtain ⟨b, o, hadr, hbl, d0, d1⟩ := (HR.out.calls HX.out).at_ htl
          have DD := Lib.hid (fun W (h : Below w.heap.size w W) => rp_cell14 HR.out h htl hadr)
          have PR := Lib.hid (HR.out.pks _ (List.getElem_mem htl))
          have HM2 := Lib.hid (show m + (repos[t]).pk.length = ins.length + pksOf (repos.take (t + 1)) by rw [pksOf_take repos t htl, HM.out]; omega)
          have hpl := HR.out.cnt _ (List.getElem_mem htl)
          have HSY := Lib.hid (fun (h : ∀ p ∈ (repos[t]).pk, p.slim) => show ∀ u (hu : u < repos.length), u < t + 1 → ∀ p ∈ (repos[u]).pk, p.slim from fun u hu hut => by
            by_cases e : u = t
            · subst e; exact h
            · exact HS.out u hu (by omega))
          generalize repos[t] = r at *
          obtain ⟨np, hnp⟩ : ∃ np, np = r.pk.length := ⟨_, rfl⟩
          rw [← hnp] at d1 hpl HM2
          have HNP := Lib.hid hnp
          have HAD := Lib.hid hadr
          subst hadr
          clear hnp htl HAD
          have i0 : (0 : Int) ≤ (t : Int) := by omega
          have i2 : (t : Int) < (nr : Int) := by omega
          by_cases hw : (50 : Int) < (m : Int) + (np : Int)
          · go_wp2_with fail
            go_ret
            exact wide14_yes HX.out
          · go_wp2_with fail
            go_loopw [14] (fun i wy => ∃ v : Nat, v ≤ np ∧ i = .int .i64 (v : Int) ∧ Hid (∀ u (hu : u < r.pk.length), u < v → (r.pk[u]).slim) ∧ Below w.heap.size w wy) (fun i _ => np - (intOf i).toNat)
            case atStart => exact ⟨0, by omega, rfl, Lib.hid (by intro u hu h; omega), HX.out⟩
            case round =>
              obtain ⟨v, hv, rfl, HV, hB⟩ := hrel
              rename World => wy
              have HY := Lib.hid hB
              clear hB
              have dd1 : wy.cell? ⟨b, o + t * 2 + 1, none⟩ = some (.slice r.A np r.c) := by
                have h1 := HNP.out
                exact (DD.out wy HY.out).trans (by rw [h1])
              by_cases hlt3 : v < np
              · have hvl : v < r.pk.length := by have := HNP.out; omega
                obtain ⟨b', o', hadr', hbl', e0, e1, e2, e3, e4, e5, e6, e7, e8, e9, e10, e11, e12, e13, e14⟩ := (PR.out.calls HY.out).at_ hvl
                have LP := Lib.hid (LG.out r.pk[v] wy ((PR.out.calls HY.out).2 _ (List.getElem_mem hvl)))
                have HVY := Lib.hid (fun (h : (r.pk[v]).slim) => show ∀ u (hu : u < r.pk.length), u < v + 1 → (r.pk[u]).slim from fun u hu huv => by
                  by_cases e : u = v
                  · subst e; exact h
                  · exact HV.out u hu (by omega))
                unfold SlimPost at LP
                generalize r.pk[v] = x at *
                rw [hadr'] at dd1
                clear hadr'
                have j0 : (0 : Int) ≤ (v : Int) := by omega
                have j1 : (v : Int) < (np : Int) := by omega
                clear hvl
                go_wp2_with fail
                go_at_call 93
                refine LP.out.mono ?_
                rintro e w3 ⟨r9, rfl, hs, h⟩
                have HB3 := Lib.hid (HY.out.trans (h.mono HY.out.size))
                have HSP := Lib.hid hs
                clear h hs LP e0 e1 e2 e3 e4 e5 e6 e7 e8 e9 e10 e11 e12 e13 e14 dd1
                cases r9
                · go_wp2_with fail
                  go_roundw
                  case rel => exact ⟨v + 1, by omega, by go_num, Lib.hid (HVY.out (HSP.out (by trivial))), HB3.out⟩
                  case measure => simp [intOf]; omega
                · go_wp2_with fail
                  go_ret
                  exact wide14_yes HB3.out
              · obtain rfl : v = np := by omega
                have SR := Lib.hid (show ∀ p ∈ r.pk, p.slim from fun p hp => by
                  obtain ⟨u, hu, rfl⟩ := List.getElem_of_mem hp
                  exact HV.out u hu (by have := HNP.out; omega))
                have j1 : ¬ (v : Int) < (v : Int) := by omega
                clear HV
                go_wp2_with fail
                go_roundw
                case rel => exact ⟨t + 1, m + v, by omega, by go_num, by go_num, HM2, by omega, by omega, Lib.hid (HSY.out SR.out), HY.out⟩
                case measure => simp [intOf]; omega
        · obtain rfl : t = nr := by omega
          have i2 : ¬ (t : Int) < (t : Int) := by omega
          have NW := Lib.hid (show Narrow repos ins (sl : Int) from ⟨by have := HNR.out; omega, by have := HNI.out; omega, by have := Q2.out; omega, SI.out, fun r hr p hp => by
            obtain ⟨u, hu, rfl⟩ := List.getElem_of_mem hr
            exact HS.out u hu (by have := HNR.out; omega) p hp, by
            have h1 := HM.out
            rw [List.take_of_length_le (by have := HNR.out; omega)] at h1
            omega⟩)
          clear HM HS SI
          go_wp2_with fail
          go_ret
          exact ⟨false, rfl, fun _ => ⟨NW.out, HPT.out⟩, HX.out⟩
end
end Go.Proofs.YteobmfpbgnmffaaGreatDoor
