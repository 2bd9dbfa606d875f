/- StMade, StTwo, StTellsM, St30Much, St30Large -/
import Derived.Test.YteobmfpbgnmffaaGreatDoorT45
import Derived.Test.YteobmfpbgnmffaaGreatDoorT44
set_option linter.unusedVariables false
set_option maxHeartbeats 16000000
set_option maxRecDepth 100000
open Go.Lib (hid)
set_option linter.unusedSimpArgs false
namespace Go.Proofs.YteobmfpbgnmffaaGreatDoor
open Go.RowKit Go.Shelf
section
theorem qJ6 {p : Pk} (hk : ∀ x ∈ LS p, ∀ t ∈ x.l, KO t) (hs : ∀ k, k < 6 -> qAB (qA6 (sixL p k)) <= 2000) : p.deepOk := by
 have hh : ∀ (l : List RV), qAB (qA6 l) <= 2000 -> ∀ t ∈ l, t.tree.parts <= 1000000 := by
  intro l hl t ht;obtain ⟨i, hi, rfl⟩ := List.getElem_of_mem ht;have h1 := qF3 (l := qA6 l) (k := i) (by rw [qAD]; exact hi);have h2 := qC1 (qA6 l) (i + 1);rw [qB2 l i hi] at h1;omega
 intro x hx t ht;refine ⟨hk x hx t ht, ?_⟩;have hx2 := hx;simp only [LS, List.mem_cons, List.not_mem_nil, or_false] at hx2;rcases hx2 with rfl | rfl | rfl | rfl | rfl | rfl
 ·exact hh _ (hs 0 (by omega)) t ht
 ·exact hh _ (hs 1 (by omega)) t ht
 ·exact hh _ (hs 2 (by omega)) t ht
 ·exact hh _ (hs 3 (by omega)) t ht
 ·exact hh _ (hs 4 (by omega)) t ht
 ·exact hh _ (hs 5 (by omega)) t ht
theorem qM4 {p : Pk} (h : p.slim) : p.few :=
 ⟨by have := h.provN; omega, by have := h.obsN; omega, by have := h.filesN; omega, Nat.le_trans (show qAB (qA6 p.req) <= 2000 from h.parts 0 (by omega)) (by omega), Nat.le_trans (show qAB (qA6 p.con) <= 2000 from h.parts 1 (by omega)) (by omega), Nat.le_trans (show qAB (qA6 p.rcm) <= 2000 from h.parts 2 (by omega)) (by omega), Nat.le_trans (show qAB (qA6 p.sup) <= 2000 from h.parts 3 (by omega)) (by omega), Nat.le_trans (show qAB (qA6 p.sug) <= 2000 from h.parts 4 (by omega)) (by omega), Nat.le_trans (show qAB (qA6 p.enh) <= 2000 from h.parts 5 (by omega)) (by omega)⟩
theorem qGA {repos : List Rp} {ins : List Pk} {k : Int} {W : World} (h : Narrow repos ins k) (hr : ∀ r ∈ repos, ∀ p ∈ r.pk, PkQ W p) (hi : ∀ p ∈ ins, PkQ W p) : ∀ x ∈ allP repos ins, x.deepOk /\ x.few := by
 intro x hx;rcases List.mem_append.1 hx with hx | hx
 ·exact ⟨qJ6 (hi x hx).2 (h.si x hx).parts, qM4 (h.si x hx)⟩
 ·obtain ⟨r, hr2, hx⟩ := List.mem_flatMap.1 hx;exact ⟨qJ6 (hr r hr2 x hx).2 (h.sr r hr2 x hx).parts, qM4 (h.sr r hr2 x hx)⟩
end
section
section
variable {l : List Pk} {L : List Pr} {L' : List Pk}
theorem qH9 (h : qAI l L) (h' : qBF l L') (i : Nat) : (L[i]? = none /\ L'[i]? = none) \/ ∃ p x y, L[i]? = some x /\ L'[i]? = some y /\ Alike p x.pk /\ Alike p y := by
 by_cases hi : i < l.length
 ·have h1 : i < L.length := by rw [h.1]; exact hi
  have h2 : i < L'.length := by rw [h'.1]; exact hi
  exact .inr ⟨l[i], L[i], L'[i], List.getElem?_eq_getElem h1, List.getElem?_eq_getElem h2, h.2 i hi h1, h'.2 i hi h2⟩
 ·exact .inl ⟨List.getElem?_eq_none (by rw [h.1]; omega), List.getElem?_eq_none (by rw [h'.1]; omega)⟩
theorem qVC (h : qAI l L) (h' : qBF l L') : nmP L = nmQ L' := by
 funext m k
 unfold nmP nmQ;rcases qH9 h h' m with ⟨a, b⟩ | ⟨p, x, y, a, b, c, d⟩
 ·rw [a, b]
 ·rcases qH9 h h' k with ⟨a2, b2⟩ | ⟨p2, x2, y2, a2, b2, c2, d2⟩
  ·rw [a, b, a2, b2]
  ·rw [a, b, a2, b2];simp only [c.name, d.name, c2.name, d2.name]
theorem qUA (h : qAI l L) (h' : qBF l L') : qC6 L = cmpQ L' := by
 funext m k
 unfold qC6 cmpQ;rcases qH9 h h' m with ⟨a, b⟩ | ⟨p, x, y, a, b, c, d⟩
 ·rw [a, b]
 ·rcases qH9 h h' k with ⟨a2, b2⟩ | ⟨p2, x2, y2, a2, b2, c2, d2⟩
  ·rw [a, b, a2, b2]
  ·rw [a, b, a2, b2];simp only [c.evr, d.evr, c2.evr, d2.evr]
theorem qIJ {p q : Pk} (h : Alike p q) : q.ownD = p.ownD := by unfold Pk.ownD; rw [h.name, h.evr]
theorem qVQ (h : qAI l L) (h' : qBF l L') : obN L = obQ L' := by
 funext m k
 unfold obN obQ obsP obsQ;rw [h.1, h'.1];rcases qH9 h h' (m : Int).toNat with ⟨a, b⟩ | ⟨p, x, y, a, b, c, d⟩
 ·rw [a, b]
 ·rcases qH9 h h' (k : Int).toNat with ⟨a2, b2⟩ | ⟨p2, x2, y2, a2, b2, c2, d2⟩
  ·rw [a, b, a2, b2]
  ·rw [a, b, a2, b2];simp only [c.obs, d.obs, qIJ c2, qIJ d2]
theorem qP6 (h : qAI l L) (h' : qBF l L') (I0 : Nat) (hI : I0 <= L.length) (S : List Int) : qBY L I0 S = qEA L' I0 S := by
 have e : L'.length = L.length := h'.1.trans h.1.symm;unfold qEA;rw [e];cases hb : badS L.length S
 ·rw [qJY hI hb, <- qVC h h', <- qVQ h h', <- qUA h h'];simp only [Bool.false_eq_true, if_false]
 ·rw [qDT hb];simp
end
def qPC (repos : List Rp) (ins : List Pk) (w : World) (e : Ending) (w' : World) : Prop :=
 ((qB8 repos ins = 0 /\ ∃ (P : Nat) (L : List Pr), e = .returned (.tuple #[.pointer (some ⟨P, 0, none⟩), .int .i64 0]) /\ Pool P (ins.length : Int) L w' /\ qAI (allP repos ins) L /\ ins.length <= L.length /\ L.length <= 100) \/ (qB8 repos ins ≠ 0 /\ e = .returned (.tuple #[.pointer none, .int .i64 (qB8 repos ins)]))) /\ Below w.heap.size w w'
theorem qKT {RA : Option Addr} {rc : Nat} {repos : List Rp} {IA : Option Addr} {ic : Nat} {ins : List Pk} {w0 w : World} {k : Int} (hI : PkIn w) (hr : RpRow w.heap.size w RA rc repos) (hi : PRow w.heap.size w IA ic ins) (hN : Narrow repos ins k) (hrq : ∀ r ∈ repos, ∀ p ∈ r.pk, PkQ w0 p) (hiq : ∀ p ∈ ins, PkQ w0 p) :
  Calls Tryz.prog 23 #[.slice RA repos.length rc, .slice IA ins.length ic] w (qPC repos ins w) := by
 have hd := qGA hN hrq hiq;have h1 := hN.all;have h2 := hN.nr;refine (qFU RA rc repos IA ic ins w hI hr hi hd (by omega) (by omega)).mono ?_;rintro e w' ⟨hok, hno, hb⟩;refine ⟨?_, hb⟩;by_cases he : qB8 repos ins = 0
 ·obtain ⟨P, L, rfl, hat, hal⟩ := hok he;have hl := hal.1;rw [qIE] at hl;exact .inl ⟨he, P, L, rfl, Pool.of hat hal he fun x hx => (hd x hx).2, hal, by omega, by omega⟩
 ·exact .inr ⟨he, hno he⟩
def qPB (repos : List Rp) (ins : List Pk) (w : World) (e : Ending) (w' : World) : Prop :=
 ((qB8 repos ins = 0 /\ ∃ (Q : Nat) (L : List Pk), e = .returned (.tuple #[.pointer (some ⟨Q, 0, none⟩), .int .i64 0]) /\ RPool Q (ins.length : Int) L w' /\ qBF (allP repos ins) L) \/ (qB8 repos ins ≠ 0 /\ e = .returned (.tuple #[.pointer none, .int .i64 (qB8 repos ins)]))) /\ Below w.heap.size w w'
theorem qKM {RA : Option Addr} {rc : Nat} {repos : List Rp} {IA : Option Addr} {ic : Nat} {ins : List Pk} {w0 w : World} {k : Int} (hr : RpRow w.heap.size w RA rc repos) (hi : PRow w.heap.size w IA ic ins) (hN : Narrow repos ins k) (hrq : ∀ r ∈ repos, ∀ p ∈ r.pk, PkQ w0 p) (hiq : ∀ p ∈ ins, PkQ w0 p) :
  Calls Tryz.prog 24 #[.slice RA repos.length rc, .slice IA ins.length ic] w (qPB repos ins w) := by
 have hd := qGA hN hrq hiq;have h1 := hN.all;have h2 := hN.nr;refine (qNW RA rc repos IA ic ins w hr hi hd (by omega) (by omega)).mono ?_;rintro e w' ⟨hok, hno, hb⟩;refine ⟨?_, hb⟩;by_cases he : qB8 repos ins = 0
 ·obtain ⟨Q, L, rfl, hat, hal⟩ := hok he;refine .inl ⟨he, Q, L, rfl, ⟨hat, fun q hq => ?_⟩, hal⟩;obtain ⟨i, hi, rfl⟩ := List.getElem_of_mem hq;have hi2 : i < (allP repos ins).length := by rw [<- hal.1]; exact hi
  rw [(hal.2 i hi2 hi).may];exact qHJ he _ (List.getElem_mem hi2)
 ·exact .inr ⟨he, hno he⟩
end
section
theorem qMK {base : Nat} {e : TypeId} {size g n cap : Nat} {W : World} {xs : List Value} (h : W.ownsRow base e size (.slice (some ⟨g, 0, none⟩) n cap) n xs) {k : Nat} (hk : k < n * size) : ∃ u, W.cell? ⟨g, k, none⟩ = some u /\ W.frozen? ⟨g, k, none⟩ = false := by
 rcases h.2 with ⟨h2, _⟩ | ⟨g', cap', cur, hv, hg, hh, h1, h2, h3, h4⟩
 ·simp at h2
 ·simp only [Value.slice.injEq, Option.some.injEq, Addr.mk.injEq] at hv;obtain ⟨⟨rfl, _⟩, _, rfl⟩ := hv;have hl : k < cur.size := Nat.lt_of_lt_of_le hk (by rw [h3]; exact Nat.mul_le_mul_right size h1);refine ⟨cur[k], ?_, ?_⟩
  ·simp [World.cell?, hh, hl]
  ·simp [World.frozen?, hh]
theorem qQY {base : Nat} {e : TypeId} {size n : Nat} {W : World} {v : Value} {xs : List Value} (h : W.ownsRow base e size v n xs) : n = 0 \/ ∃ g cap, v = .slice (some ⟨g, 0, none⟩) n cap /\ base <= g /\ g < W.heap.size := by
 rcases h.2 with ⟨_, h2⟩ | ⟨g', cap', cur, hv, hg, hh, h1, h2, h3, h4⟩
 ·exact .inl h2
 ·refine .inr ⟨g', cap', hv, hg, ?_⟩;exact (Array.getElem?_eq_some_iff.1 hh).1
theorem qTF {base : Nat} {e : TypeId} {size n g k : Nat} {W : World} {v u : Value} {xs : List Value} (h : W.ownsRow base e size v n xs) (hg : g < base) : (W.setCell ⟨g, k, none⟩ u).ownsRow base e size v n xs := by
 refine ⟨h.1, ?_⟩;rcases h.2 with h2 | ⟨g', cap', cur, hv, hg', hh, h1, h2, h3, h4⟩
 ·exact .inl h2
 ·refine .inr ⟨g', cap', cur, hv, hg', ?_, h1, h2, h3, h4⟩;have : g ≠ g' := by omega
  simp [World.setCell, Array.getElem?_modify, hh, this]
end
section
theorem qHI : ∀ (f : Nat) (deep : Nat) (A : Option Addr) (cap : Nat) (l : List RV) (w : World), deep + f = 21 -> RRow w.heap.size w A cap l -> Calls Tryz.prog 124 #[.slice A l.length cap, .int .i64 (deep : Int)] w (qQ2 l w)
 | 0, deep, A, cap, l, w, hd, h => by
  obtain rfl : deep = 21 := by omega
  have hm := h.1.len;clear h;generalize l.length = n at *
  go_enter Tryz.func124, Tryz.ntmps124
  go_wp2_with fail
  go_ret2
  exact ⟨0, true, rfl, by omega, (fun h => by cases h), Below.refl _ _⟩
 | f + 1, deep, A, cap, l, w, hd, h => by
  have IH := hid (fun A cap l w h => qHI f (deep + 1) A cap l w (by omega) h);have hm := h.1.len;have H := hid h;have d0 : ¬ (20 : Int) < (deep : Int) := by omega
  have d1 : (deep : Int) <= 20 := by omega
  clear h;by_cases hn : 100 < l.length
  ·have hn2 : (100 : Int) < (l.length : Int) := by omega
   clear IH H hn;generalize l.length = n at *
   go_enter Tryz.func124, Tryz.ntmps124
   go_wp2_with fail
   go_ret2
   exact ⟨0, true, rfl, by omega, (fun h => by cases h), Below.refl _ _⟩
  ·have hn2 : ¬ (100 : Int) < (l.length : Int) := by omega
   obtain ⟨n, hnn⟩ : ∃ n, n = l.length := ⟨_, rfl⟩;rw [<- hnn] at hn hn2 hm |-;have HN := hid hnn;clear hnn;have hd1 : (((deep + 1 : Nat)) : Int) = (deep : Int) + 1 := by omega
   rw [hd1] at IH;clear hd1
   go_enter Tryz.func124, Tryz.ntmps124
   go_wp2_with fail
   go_loopw [6, 7] (fun m i wr => ∃ k c : Nat, k <= n /\ c <= 2000 /\ i = .int .i64 (k : Int) /\ m = .int .i64 (c : Int) /\ Hid (c = qAB ((qA6 l).take k)) /\ Below w.heap.size w wr) (fun _ i _ => n - (intOf i).toNat)
   case atStart => exact ⟨0, 0, by omega, by omega, rfl, rfl, hid (by simp [qAB]), Below.refl _ _⟩
   case round =>
    obtain ⟨k, c, hk, hc, rfl, rfl, HCP, hB⟩ := hrel;rename World => wr
    by_cases hlt : k < n
    ·have hkl : k < l.length := by have := HN.out; omega
     have HS := hid ((H.out.below hB).sub hkl);obtain ⟨b, o, rfl, hb, c0, c1, c2, c3, c4, c5, c6⟩ := (H.out.below hB).at_ hkl
     have hw := (H.out.2 _ (List.getElem_mem hkl)).wf;have HST := hid (show ∀ m : Nat, m = qAB (qA6 l[k].args) -> c + 1 + m = qAB ((qA6 l).take (k + 1)) from fun m hm => by
      have hkt : k < (qA6 l).length := by rw [qAD]; exact hkl
      have g1 := qF3 hkt;rw [qB2 l k hkl, qAX l[k], RT.parts, <- hm, <- HCP.out] at g1;omega)
     generalize l[k] = t at *;have i0 : (0 : Int) <= (k : Int) := by omega
     have i1 : (k : Int) < (n : Int) := by omega
     have hsz := hB.size;have HB := hid hB;clear hkl hw hB c0 c2 c3;generalize bs t.dep.name = s0 at *;generalize bs t.dep.evr.ver = s1 at *;generalize bs t.dep.evr.rel = s2 at *;generalize t.addr = tA at *;generalize t.cap = tc at *;generalize t.args = tl at *;obtain ⟨z, hz⟩ : ∃ z, IntKind.i64.wrap ((s0.size : Int) + (s1.size : Int)) = z := ⟨_, rfl⟩;by_cases q1 : (500 : Int) < z
     ·go_wp2_with fail
      go_quiet (fail);go_wp2_with fail
      go_ret2
      exact ⟨0, true, rfl, by omega, (fun h => by cases h), qAH HB.out⟩
     ·by_cases q2 : (500 : Int) < (s2.size : Int)
      ·go_wp2_with fail
       go_quiet (fail);go_wp2_with fail
       go_ret2
       exact ⟨0, true, rfl, by omega, (fun h => by cases h), qAH HB.out⟩
      ·go_wp2_with fail
       go_quiet (fail);go_wp2_with fail
       go_at_call 124
       refine (IH.out tA tc tl _ ((HS.out.below (qAH bR)).more hsz)).mono ?_;rintro e w2 ⟨m, r, rfl, hm2, hmp, h⟩;have HMP := hid hmp;clear hmp;have hB2 := (qAH HB.out).trans (h.mono hsz);clear h;cases r
       ·by_cases q3 : (2000 : Int) < (c : Int) + 1 + (m : Int)
        ·go_wp2_with fail
         go_ret2
         exact ⟨0, true, rfl, by omega, (fun h => by cases h), hB2⟩
        ·go_wp2_with fail
         go_roundw
         case rel => exact ⟨k + 1, c + 1 + m, by omega, by omega, by go_num, by go_num, hid (HST.out m (HMP.out (by trivial))), hB2⟩
         case measure => simp [intOf]; omega
       ·go_wp2_with fail
        go_ret2
        exact ⟨0, true, rfl, by omega, (fun h => by cases h), hB2⟩
    ·have i1 : ¬ (k : Int) < (n : Int) := by omega
     go_wp2_with fail
     go_ret2
     exact ⟨c, false, rfl, hc, (fun _ => by rw [HCP.out, List.take_of_length_le (by rw [qAD]; have := HN.out; omega)]), hB⟩
end
section
theorem qKV (p : Pk) (w : World) (h : p.Laid w.heap.size w) : Calls Tryz.prog 81 #[p.val] w (qFG p w) := by
 have L1 := h.prov.len;have L2 := h.obs.len;have L3 := h.files.len;have n0 := h.n0;have n1 := h.n1;have n2 := h.n2;have n3 := h.n3;unfold maxLen at n0 n1 n2 n3;have H := hid h;unfold Pk.val;clear h;have hbox : Below w.heap.size w (w.alloc (.cells #[.string p.name, .int .i64 p.epoch, .string p.ver, .string p.rel, .int .u8 p.arch, .string p.vendor, .slice p.provA p.prov.length p.provC, .slice p.reqA p.req.length p.reqC, .slice p.conA p.con.length p.conC, .slice p.obsA p.obs.length p.obsC, .slice p.rcmA p.rcm.length p.rcmC, .slice p.supA p.sup.length p.supC, .slice p.sugA p.sug.length p.sugC, .slice p.enhA p.enh.length p.enhC, .slice p.filesA p.files.length p.filesC] 28)) := (Below.refl _ w).alloc lR _;by_cases q0 : (100 : Int) < (p.prov.length : Int)
 ·go_enter Tryz.func81, Tryz.ntmps81
  go_wp2_with fail
  go_ret;exact qC8 hbox
 by_cases q1 : (100 : Int) < (p.obs.length : Int)
 ·go_enter Tryz.func81, Tryz.ntmps81
  go_wp2_with fail
  go_ret;exact qC8 hbox
 by_cases q2 : (100 : Int) < (p.files.length : Int)
 ·go_enter Tryz.func81, Tryz.ntmps81
  go_wp2_with fail
  go_ret;exact qC8 hbox
 by_cases q3 : (1000 : Int) < (p.name.size : Int)
 ·go_enter Tryz.func81, Tryz.ntmps81
  go_wp2_with fail
  go_ret;exact qC8 hbox
 by_cases q4 : (1000 : Int) < (p.vendor.size : Int)
 ·go_enter Tryz.func81, Tryz.ntmps81
  go_wp2_with fail
  go_ret;exact qC8 hbox
 by_cases q5 : (1000 : Int) < (p.ver.size : Int)
 ·go_enter Tryz.func81, Tryz.ntmps81
  go_wp2_with fail
  go_ret;exact qC8 hbox
 by_cases q6 : (1000 : Int) < (p.rel.size : Int)
 ·go_enter Tryz.func81, Tryz.ntmps81
  go_wp2_with fail
  go_ret;exact qC8 hbox
 have SM := hid (fun (h : ∀ k, k < 6 -> qAB (qA6 (sixL p k)) <= 2000) => show p.slim from ⟨by omega, by omega, by omega, by omega, by omega, by omega, by omega, h⟩);have hz1 : (w.alloc (.cells #[.string p.name, .int .i64 p.epoch, .string p.ver, .string p.rel, .int .u8 p.arch, .string p.vendor, .slice p.provA p.prov.length p.provC, .slice p.reqA p.req.length p.reqC, .slice p.conA p.con.length p.conC, .slice p.obsA p.obs.length p.obsC, .slice p.rcmA p.rcm.length p.rcmC, .slice p.supA p.sup.length p.supC, .slice p.sugA p.sug.length p.sugC, .slice p.enhA p.enh.length p.enhC, .slice p.filesA p.files.length p.filesC] 28)).heap.size = w.heap.size + 1 := by simp
 have H6 := hid (fun (W' : World) h (k : Nat) (hk : k < 6) => qU2 (w.alloc (.cells #[.string p.name, .int .i64 p.epoch, .string p.ver, .string p.rel, .int .u8 p.arch, .string p.vendor, .slice p.provA p.prov.length p.provC, .slice p.reqA p.req.length p.reqC, .slice p.conA p.con.length p.conC, .slice p.obsA p.obs.length p.obsC, .slice p.rcmA p.rcm.length p.rcmC, .slice p.supA p.sup.length p.supC, .slice p.sugA p.sug.length p.sugC, .slice p.enhA p.enh.length p.enhC, .slice p.filesA p.files.length p.filesC] 28)) p 25 (H.out.below hbox) (by rw [hz1]; omega) W' h k hk);have HB := hid (hbox.alloc (by rw [hz1]; omega) (.cells #[.slice p.reqA p.req.length p.reqC, .slice p.conA p.con.length p.conC, .slice p.rcmA p.rcm.length p.rcmC, .slice p.supA p.sup.length p.supC, .slice p.sugA p.sug.length p.sugC, .slice p.enhA p.enh.length p.enhC] 25));clear hbox hz1
 go_enter Tryz.func81, Tryz.ntmps81
 go_wp2_with fail
 have hz1 : (w.alloc (.cells #[.string p.name, .int .i64 p.epoch, .string p.ver, .string p.rel, .int .u8 p.arch, .string p.vendor, .slice p.provA p.prov.length p.provC, .slice p.reqA p.req.length p.reqC, .slice p.conA p.con.length p.conC, .slice p.obsA p.obs.length p.obsC, .slice p.rcmA p.rcm.length p.rcmC, .slice p.supA p.sup.length p.supC, .slice p.sugA p.sug.length p.sugC, .slice p.enhA p.enh.length p.enhC, .slice p.filesA p.files.length p.filesC] 28)).heap.size = w.heap.size + 1 := by simp
 rw [hz1] at H6;generalize (w.alloc (.cells #[.string p.name, .int .i64 p.epoch, .string p.ver, .string p.rel, .int .u8 p.arch, .string p.vendor, .slice p.provA p.prov.length p.provC, .slice p.reqA p.req.length p.reqC, .slice p.conA p.con.length p.conC, .slice p.obsA p.obs.length p.obsC, .slice p.rcmA p.rcm.length p.rcmC, .slice p.supA p.sup.length p.supC, .slice p.sugA p.sug.length p.sugC, .slice p.enhA p.enh.length p.enhC, .slice p.filesA p.files.length p.filesC] 28)).alloc (.cells #[.slice p.reqA p.req.length p.reqC, .slice p.conA p.con.length p.conC, .slice p.rcmA p.rcm.length p.rcmC, .slice p.supA p.sup.length p.supC, .slice p.sugA p.sug.length p.sugC, .slice p.enhA p.enh.length p.enhC] 25) = V at *;clear q0 q1 q2 q3 q4 q5 q6 hz1
 go_loopw [3, 64] (fun m i wr => ∃ k n : Nat, k <= 6 /\ n <= 2000 /\ i = .int .i64 (k : Int) /\ m = .int .i64 (n : Int) /\ Hid (∀ j, j < k -> qAB (qA6 (sixL p j)) <= 2000) /\ Below V.heap.size V wr) (fun _ i _ => 6 - (intOf i).toNat)
 case atStart => exact ⟨0, 0, by omega, by omega, rfl, rfl, hid (by intro j h; omega), Below.refl _ _⟩
 case round =>
  obtain ⟨k, n, hk, hn, rfl, rfl, HSX, hB⟩ := hrel;rename World => wr
  by_cases hlt : k < 6
  ·obtain ⟨A6, c6, e6, h6⟩ := H6.out wr hB k hlt;have HSY := hid (fun (h : qAB (qA6 (sixL p k)) <= 2000) => show ∀ j, j < k + 1 -> qAB (qA6 (sixL p j)) <= 2000 from fun j hj => by
    by_cases e : j = k
    ·subst e; exact h
    ·exact HSX.out j (by omega))
   generalize sixL p k = l6 at *;have MU := hid (qHI 21 0 A6 c6 l6 wr rfl h6);have i0 : (0 : Int) <= (k : Int) := by omega
   have i1 : (k : Int) < 6 := by omega
   clear h6;go_wp2_with fail
   go_at_call 124
   refine MU.out.mono ?_;rintro e w3 ⟨m, r, rfl, hm, hmp, h⟩;have HMP := hid hmp;clear hmp;have hB3 := hB.trans (h.mono hB.size);clear h MU;cases r
   ·by_cases q6' : (2000 : Int) < (n : Int) + (m : Int)
    ·go_wp2_with fail
     go_ret;exact qC8 (HB.out.trans (hB3.mono HB.out.size))
    ·go_wp2_with fail
     go_roundw
     case rel => exact ⟨k + 1, n + m, by omega, by omega, by go_num, by go_num, hid (HSY.out (by have := HMP.out (by trivial); omega)), hB3⟩
     case measure => simp [intOf]; omega
   ·go_wp2_with fail
    go_ret;exact qC8 (HB.out.trans (hB3.mono HB.out.size))
  ·have i1 : ¬ (k : Int) < 6 := by omega
   go_wp2_with fail
   go_ret;exact ⟨false, rfl, fun _ => SM.out fun j hj => HSX.out j (by omega), HB.out.trans (hB.mono HB.out.size)⟩
