/- PoolGet -/
import Derived.Test.YteobmfpbgnmffaaGreatDoorT23
set_option linter.unusedVariables false
set_option maxHeartbeats 16000000
set_option maxRecDepth 100000
open Go.Lib (hid)
set_option linter.unusedSimpArgs false
namespace Go.Proofs.YteobmfpbgnmffaaGreatDoor
open Go.RowKit Go.Shelf
theorem qP9 {l : qAK} (h : qCJ l = true) : l.length <= 64 := (qEN.1 h).2.1
theorem qL0 {l : qAK} (h : qBW l = true) : l.length <= 64 := by
 unfold qBW at h;simp only [Bool.and_eq_true, decide_eq_true_eq] at h;exact h.2.1
theorem qPL {e : Evr} {dep : Bool} (h : mayB e dep = true) : e.ver.length <= 64 /\ e.rel.length <= 64 := by
 unfold mayB at h;simp only [Bool.and_eq_true, Bool.or_eq_true, decide_eq_true_eq] at h;refine ⟨qP9 h.2.2.1, ?_⟩;rcases h.2.2.2 with h | ⟨_, h⟩
 ·exact qP9 h
 ·rw [List.isEmpty_iff] at h; rw [h]; simp
theorem qJ9 {d : Dp} (h : qAQ d = true) : d.small := by
 unfold qAQ at h;simp only [Bool.and_eq_true] at h;have h1 := qL0 h.1;have h2 := h.2.2;refine ⟨by omega, ?_⟩;split at h2
 ·unfold qFA at h2;simp only [Bool.and_eq_true, List.isEmpty_iff] at h2;rw [h2.2.1, h2.2.2]; simp
 ·simp only [Bool.and_eq_true] at h2;have := qPL h2.2;exact ⟨by omega, by omega⟩
theorem qC4 {p : Pk} (h : mayP p = true) : p.small := by
 have hm := (qFM p).1 h;have he := qPL hm.e;have hn := qL0 hm.n;have sz := qA3;have he1 : p.ver.toList.length <= 64 := he.1;have he2 : p.rel.toList.length <= 64 := he.2;rw [sz] at hn he1 he2;have h1 := hm.hpv.1;have h2 := hm.hob.1;have h3 := hm.hfi.1;have h4 := hm.v;refine ⟨by omega, by omega, by omega, by omega, by omega, by omega, by omega, fun d hd => qJ9 (hm.hpv.2 d hd), fun d hd => qJ9 (hm.hob.2 d hd), fun s hs => ?_⟩;have := hm.hfi.2 s hs;unfold qD7 qCK at this;simp only [Bool.and_eq_true] at this;have h5 := qL0 this.1;rw [sz] at h5;omega
theorem qI7 {p : Pk} (h : mayP p = true) : p.evr.ok := by
 have := qPL ((qFM p).1 h).e;exact ⟨by omega, by omega⟩
structure Pool (P : Nat) (I : Int) (L : List Pr) (W : World) : Prop where
 at_ : PoolAt P I L W
 may : ∀ x ∈ L, mayP x.pk = true /\ x.pk.few
theorem Pool.then {P : Nat} {I : Int} {L : List Pr} {W W' : World} (h : Pool P I L W) (hb : Below W.heap.size W W') : Pool P I L W' := ⟨h.at_.then hb, h.may⟩
theorem qR1 {p q : Pk} (h : Alike p q) (hf : p.few) : q.few :=
 ⟨by rw [h.prov]; exact hf.nprov, by rw [h.obs]; exact hf.nobs, by rw [h.files]; exact hf.nfiles, by rw [h.req]; exact hf.req, by rw [h.con]; exact hf.con, by rw [h.rcm]; exact hf.rcm, by rw [h.sup]; exact hf.sup, by rw [h.sug]; exact hf.sug, by rw [h.enh]; exact hf.enh⟩
theorem qHJ {repos : List Rp} {ins : List Pk} (h : qB8 repos ins = 0) : ∀ x ∈ allP repos ins, mayP x = true := by
 unfold qB8 at h;split at h
 ·cases h
 ·split at h
  ·rename_i h2
   rw [Bool.and_eq_true] at h2;intro x hx;rcases List.mem_append.1 hx with hx | hx
   ·exact List.all_eq_true.1 h2.1 x hx
   ·obtain ⟨r, hr, hx⟩ := List.mem_flatMap.1 hx;have h3 := List.all_eq_true.1 h2.2 r hr;unfold rpOk at h3;rw [Bool.and_eq_true] at h3;exact List.all_eq_true.1 h3.2 x hx
  ·cases h
theorem Pool.of {P : Nat} {I : Int} {L : List Pr} {W : World} {repos : List Rp} {ins : List Pk} (h : PoolAt P I L W) (ha : qAI (allP repos ins) L) (he : qB8 repos ins = 0) (hf : ∀ x ∈ allP repos ins, x.few) : Pool P I L W := by
 refine ⟨h, fun x hx => ?_⟩;obtain ⟨i, hi, rfl⟩ := List.getElem_of_mem hx;have hi2 : i < (allP repos ins).length := by rw [<- ha.1]; exact hi
 have hA := ha.2 i hi2 hi;exact ⟨hA.may.trans (qHJ he _ (List.getElem_mem hi2)), qR1 hA (hf _ (List.getElem_mem hi2))⟩
theorem qIG {B : Nat} {A : Option Addr} {c : Nat} {L : List Pr} {W : World} (h : Rd Pr.cells 17 B A c L W) {k : Nat} (hk : k < L.length) {b o : Nat} (ha : A = some ⟨b, o, none⟩) {x : Pk} (hx : L[k].pk = x) : W.cell? ⟨b, o + k * 17, none⟩ = some (.string x.name) /\ W.cell? ⟨b, o + k * 17 + 1, none⟩ = some (.int .i64 x.epoch) /\ W.cell? ⟨b, o + k * 17 + 2, none⟩ = some (.string x.ver) /\ W.cell? ⟨b, o + k * 17 + 3, none⟩ = some (.string x.rel) /\ W.cell? ⟨b, o + k * 17 + 4, none⟩ = some (.int .u8 x.arch) /\ W.cell? ⟨b, o + k * 17 + 5, none⟩ = some (.string x.vendor) /\ W.cell? ⟨b, o + k * 17 + 6, none⟩ = some (.slice x.provA x.prov.length x.provC) /\ W.cell? ⟨b, o + k * 17 + 7, none⟩ = some (.slice x.reqA x.req.length x.reqC) /\ W.cell? ⟨b, o + k * 17 + 8, none⟩ = some (.slice x.conA x.con.length x.conC) /\ W.cell? ⟨b, o + k * 17 + 9, none⟩ = some (.slice x.obsA x.obs.length x.obsC) /\ W.cell? ⟨b, o + k * 17 + 10, none⟩ = some (.slice x.rcmA x.rcm.length x.rcmC) /\ W.cell? ⟨b, o + k * 17 + 11, none⟩ = some (.slice x.supA x.sup.length x.supC) /\ W.cell? ⟨b, o + k * 17 + 12, none⟩ = some (.slice x.sugA x.sug.length x.sugC) /\ W.cell? ⟨b, o + k * 17 + 13, none⟩ = some (.slice x.enhA x.enh.length x.enhC) /\ W.cell? ⟨b, o + k * 17 + 14, none⟩ = some (.slice x.filesA x.files.length x.filesC) := by
 obtain ⟨b', o', e, _, hc⟩ := h.cells hk;rw [ha] at e;cases e
 subst hx;exact ⟨hc 0 _ rfl, hc 1 _ rfl, hc 2 _ rfl, hc 3 _ rfl, hc 4 _ rfl, hc 5 _ rfl, hc 6 _ rfl, hc 7 _ rfl, hc 8 _ rfl, hc 9 _ rfl, hc 10 _ rfl, hc 11 _ rfl, hc 12 _ rfl, hc 13 _ rfl, hc 14 _ rfl⟩
def obsP (L : List Pr) (i j : Int) : Bool := decide (0 <= i /\ i < (L.length : Int)) && (decide (0 <= j /\ j < (L.length : Int)) && (decide (i ≠ j) && (match L[i.toNat]?, L[j.toNat]? with | some x, some y => x.pk.obs.any fun d => qAP y.pk.ownD d | _, _ => false)))
theorem qMQ (A : Option Addr) (c : Nat) (i : Int) (n : Nat) (w : World) (hn : n <= 1000000) : Calls Tryz.prog 102 #[.slice A n c, .int .i64 i] w fun e w' => e = .returned (.bool (decide (0 <= i /\ i < (n : Int)))) /\ Below w.heap.size w w' := by
 by_cases h1 : 0 <= i
 ·go_enter Tryz.func102, Tryz.ntmps102
  go_wp2_with fail
  go_ret;exact ⟨by simp [h1], Below.refl _ _⟩
 ·go_enter Tryz.func102, Tryz.ntmps102
  go_wp2_with fail
  go_ret;exact ⟨by simp [h1]; intro h; omega, Below.refl _ _⟩
theorem qBI {P : Nat} {I : Int} {L : List Pr} {w : World} (h : PoolAt P I L w) : Calls Tryz.prog 61 #[.pointer (some ⟨P, 0, none⟩)] w fun e w' => e = .returned (.int .i64 (L.length : Int)) /\ Below w.heap.size w w' := by
 obtain ⟨A, c, h0, _⟩ := h.row;clear h
 go_enter Tryz.func61, Tryz.ntmps61
 go_wp2_with fail
 go_ret;exact ⟨rfl, Below.refl _ _⟩
theorem qDD {P : Nat} {I : Int} {L : List Pr} {w : World} (h : PoolAt P I L w) : Calls Tryz.prog 86 #[.pointer (some ⟨P, 0, none⟩)] w fun e w' => e = .returned (.int .i64 I) /\ Below w.heap.size w w' := by
 have h1 := h.c1;clear h
 go_enter Tryz.func86, Tryz.ntmps86
 go_wp2_with fail
 go_ret;exact ⟨rfl, Below.refl _ _⟩
theorem qSD {P : Nat} {I : Int} {L : List Pr} {w : World} (h : Pool P I L w) {k m : Nat} (hk : k < L.length) (hm : m < L.length) (W : World) (hb : Below w.heap.size w W) : Calls Tryz.prog 178 #[L[k].pk.val, L[m].pk.val] W fun r w' => r = .returned (.bool (L[k].pk.obs.any fun d => qAP L[m].pk.ownD d)) /\ Below W.heap.size W w' :=
 qP0 _ _ W ((h.then hb).at_.laid _ (List.getElem_mem hk)) (qC4 (h.may _ (List.getElem_mem hk)).1) (qI7 (h.may _ (List.getElem_mem hm)).1)
def pgA (P n c : Nat) (A : Option Addr) (i j : Int) (k : Nat) (v : Value) (W : World) : Prop := match k with
 | 0 => v = .pointer (some ⟨P, 0, none⟩)
 | 1 | 2 => v = .bool true
 | 3 => v = .pointer (some ⟨P, 0, none⟩)
 | 4 => v = .pointer (some ⟨P, 0, none⟩)
 | 5 => v = .pointer (some ⟨P, 0, none⟩)
 | 6 => v = .slice A n c
 | 7 => v = .int .i64 i
 | 8 | 9 | 10 => v = .bool false
 | 11 | 12 | 13 | 14 | 15 | 16 => v = undef
 | 17 | 18 => v = .bool false
 | 19 | 20 | 21 => v = undef
 | 22 | 23 => v = .bool false
 | 24 | 25 | 26 | 27 | 28 | 29 | 30 | 31 | 32 | 33 | 34 | 35 | 36 | 37 | 38 | 39 | 40 => v = undef
 | 41 | 42 => v = .bool false
 | _ => False
theorem qT7 (P n c : Nat) (A : Option Addr) (i j : Int) : ∀ k v w w', pgA P n c A i j k v w -> Below w.heap.size w w' -> pgA P n c A i j k v w' := by
 intro k v w w' h hb
 match k, h with
 | 0, h | 1, h | 2, h | 3, h | 4, h | 5, h | 6, h | 7, h | 8, h | 9, h | 10, h | 11, h | 12, h | 13, h | 14, h | 15, h | 16, h | 17, h | 18, h | 19, h | 20, h | 21, h | 22, h | 23, h | 24, h | 25, h | 26, h | 27, h | 28, h | 29, h | 30, h | 31, h | 32, h | 33, h | 34, h | 35, h | 36, h | 37, h | 38, h | 39, h | 40, h | 41, h | 42, h => exact h
 | (k + 43), h => exact h.elim
def pgB (P n c : Nat) (A : Option Addr) (i j : Int) (k : Nat) (v : Value) (W : World) : Prop := match k with
 | 0 => v = .pointer (some ⟨P, 0, none⟩)
 | 1 | 2 => v = .bool true
 | 3 => v = .pointer (some ⟨P, 0, none⟩)
 | 4 => v = .pointer (some ⟨P, 0, none⟩)
 | 5 => v = .pointer (some ⟨P, 0, none⟩)
 | 6 => v = .slice A n c
 | 7 => v = .int .i64 i
 | 8 | 9 | 10 => v = .bool true
 | 11 => v = .pointer (some ⟨P, 0, none⟩)
 | 12 => v = .pointer (some ⟨P, 0, none⟩)
 | 13 => v = .pointer (some ⟨P, 0, none⟩)
 | 14 => v = .slice A n c
 | 15 => v = .int .i64 j
 | 16 | 17 | 18 => v = .bool false
 | 19 | 20 | 21 => v = undef
 | 22 | 23 => v = .bool false
 | 24 | 25 | 26 | 27 | 28 | 29 | 30 | 31 | 32 | 33 | 34 | 35 | 36 | 37 | 38 | 39 | 40 => v = undef
 | 41 | 42 => v = .bool false
 | _ => False
theorem qS6 (P n c : Nat) (A : Option Addr) (i j : Int) : ∀ k v w w', pgB P n c A i j k v w -> Below w.heap.size w w' -> pgB P n c A i j k v w' := by
 intro k v w w' h hb
 match k, h with
 | 0, h | 1, h | 2, h | 3, h | 4, h | 5, h | 6, h | 7, h | 8, h | 9, h | 10, h | 11, h | 12, h | 13, h | 14, h | 15, h | 16, h | 17, h | 18, h | 19, h | 20, h | 21, h | 22, h | 23, h | 24, h | 25, h | 26, h | 27, h | 28, h | 29, h | 30, h | 31, h | 32, h | 33, h | 34, h | 35, h | 36, h | 37, h | 38, h | 39, h | 40, h | 41, h | 42, h => exact h
 | (k + 43), h => exact h.elim
def pgC (P n c : Nat) (A : Option Addr) (i j : Int) (k : Nat) (v : Value) (W : World) : Prop := match k with
 | 0 => v = .pointer (some ⟨P, 0, none⟩)
 | 1 | 2 => v = .bool true
 | 3 => v = .pointer (some ⟨P, 0, none⟩)
 | 4 => v = .pointer (some ⟨P, 0, none⟩)
 | 5 => v = .pointer (some ⟨P, 0, none⟩)
 | 6 => v = .slice A n c
 | 7 => v = .int .i64 i
 | 8 | 9 | 10 => v = .bool true
 | 11 => v = .pointer (some ⟨P, 0, none⟩)
 | 12 => v = .pointer (some ⟨P, 0, none⟩)
 | 13 => v = .pointer (some ⟨P, 0, none⟩)
 | 14 => v = .slice A n c
 | 15 => v = .int .i64 j
 | 16 | 17 | 18 => v = .bool true
 | 19 => v = .int .i64 i
 | 20 => v = .int .i64 j
 | 21 | 22 | 23 => v = .bool false
 | 24 | 25 | 26 | 27 | 28 | 29 | 30 | 31 | 32 | 33 | 34 | 35 | 36 | 37 | 38 | 39 | 40 => v = undef
 | 41 | 42 => v = .bool false
 | _ => False
theorem qSL (P n c : Nat) (A : Option Addr) (i j : Int) : ∀ k v w w', pgC P n c A i j k v w -> Below w.heap.size w w' -> pgC P n c A i j k v w' := by
 intro k v w w' h hb
 match k, h with
 | 0, h | 1, h | 2, h | 3, h | 4, h | 5, h | 6, h | 7, h | 8, h | 9, h | 10, h | 11, h | 12, h | 13, h | 14, h | 15, h | 16, h | 17, h | 18, h | 19, h | 20, h | 21, h | 22, h | 23, h | 24, h | 25, h | 26, h | 27, h | 28, h | 29, h | 30, h | 31, h | 32, h | 33, h | 34, h | 35, h | 36, h | 37, h | 38, h | 39, h | 40, h | 41, h | 42, h => exact h
 | (k + 43), h => exact h.elim
def pgD (P n c : Nat) (A : Option Addr) (i j : Int) (b o i9 j9 : Nat) (x y : Pk) (ob : Bool) (k : Nat) (v : Value) (W : World) : Prop := match k with
 | 0 => v = .pointer (some ⟨P, 0, none⟩)
 | 1 | 2 => v = .bool true
 | 3 => v = .pointer (some ⟨P, 0, none⟩)
 | 4 => v = .pointer (some ⟨P, 0, none⟩)
 | 5 => v = .pointer (some ⟨P, 0, none⟩)
 | 6 => v = .slice A n c
 | 7 => v = .int .i64 i
 | 8 | 9 | 10 => v = .bool true
 | 11 => v = .pointer (some ⟨P, 0, none⟩)
 | 12 => v = .pointer (some ⟨P, 0, none⟩)
 | 13 => v = .pointer (some ⟨P, 0, none⟩)
 | 14 => v = .slice A n c
 | 15 => v = .int .i64 j
 | 16 | 17 | 18 => v = .bool true
 | 19 => v = .int .i64 i
 | 20 => v = .int .i64 j
 | 21 | 22 | 23 => v = .bool true
 | 24 => v = .pointer (some ⟨P, 0, none⟩)
 | 25 => v = .pointer (some ⟨P, 0, none⟩)
 | 26 => v = .pointer (some ⟨P, 0, none⟩)
 | 27 => v = .slice A n c
 | 28 => v = .int .i64 i
 | 29 => v = .pointer (some ⟨b, o + i9 * 17, none⟩)
 | 30 => v = .pointer (some ⟨b, o + i9 * 17, none⟩)
 | 31 => v = .agg #[.string x.name, .int .i64 x.epoch, .string x.ver, .string x.rel, .int .u8 x.arch, .string x.vendor, .slice x.provA x.prov.length x.provC, .slice x.reqA x.req.length x.reqC, .slice x.conA x.con.length x.conC, .slice x.obsA x.obs.length x.obsC, .slice x.rcmA x.rcm.length x.rcmC, .slice x.supA x.sup.length x.supC, .slice x.sugA x.sug.length x.sugC, .slice x.enhA x.enh.length x.enhC, .slice x.filesA x.files.length x.filesC]
 | 32 => v = .pointer (some ⟨P, 0, none⟩)
 | 33 => v = .pointer (some ⟨P, 0, none⟩)
 | 34 => v = .pointer (some ⟨P, 0, none⟩)
 | 35 => v = .slice A n c
 | 36 => v = .int .i64 j
 | 37 => v = .pointer (some ⟨b, o + j9 * 17, none⟩)
 | 38 => v = .pointer (some ⟨b, o + j9 * 17, none⟩)
 | 39 => v = .agg #[.string y.name, .int .i64 y.epoch, .string y.ver, .string y.rel, .int .u8 y.arch, .string y.vendor, .slice y.provA y.prov.length y.provC, .slice y.reqA y.req.length y.reqC, .slice y.conA y.con.length y.conC, .slice y.obsA y.obs.length y.obsC, .slice y.rcmA y.rcm.length y.rcmC, .slice y.supA y.sup.length y.supC, .slice y.sugA y.sug.length y.sugC, .slice y.enhA y.enh.length y.enhC, .slice y.filesA y.files.length y.filesC]
 | 40 => v = .bool ob
 | 41 => v = .bool ob
 | 42 => v = .bool ob
 | _ => False
theorem qRN (P n c : Nat) (A : Option Addr) (i j : Int) (b o i9 j9 : Nat) (x y : Pk) (ob : Bool) : ∀ k v w w', pgD P n c A i j b o i9 j9 x y ob k v w -> Below w.heap.size w w' -> pgD P n c A i j b o i9 j9 x y ob k v w' := by
 intro k v w w' h hb
 match k, h with
 | 0, h | 1, h | 2, h | 3, h | 4, h | 5, h | 6, h | 7, h | 8, h | 9, h | 10, h | 11, h | 12, h | 13, h | 14, h | 15, h | 16, h | 17, h | 18, h | 19, h | 20, h | 21, h | 22, h | 23, h | 24, h | 25, h | 26, h | 27, h | 28, h | 29, h | 30, h | 31, h | 32, h | 33, h | 34, h | 35, h | 36, h | 37, h | 38, h | 39, h | 40, h | 41, h | 42, h => exact h
 | (k + 43), h => exact h.elim
theorem qGR {P : Nat} {I : Int} {L : List Pr} {w : World} (hp : Pool P I L w) (i j : Int) (hn : L.length <= 1000000) : Calls Tryz.prog 133 #[.pointer (some ⟨P, 0, none⟩), .int .i64 i, .int .i64 j] w fun e w' => e = .returned (.bool (obsP L i j)) /\ Below w.heap.size w w' := by
 have HP := hid hp;have IS := hid (fun (i : Int) A c (W : World) => qMQ A c i L.length W hn);obtain ⟨A, c, h0, hr⟩ := hp.at_.row;have HRD := hid hr;have OB := hid (fun (k m : Nat) (hk : k < L.length) (hm : m < L.length) W (hb : Below w.heap.size w W) => qSD hp hk hm W hb);have hlt := hp.at_.lt;obtain ⟨n, hn9⟩ : ∃ n, n = L.length := ⟨_, rfl⟩;rw [<- hn9] at h0 IS;have HN := hid hn9;clear hp hr hn hn9;have C0 := hid h0;have HLT := hid hlt;clear h0 hlt;by_cases q1 : 0 <= i /\ i < (n : Int)
 rotate_left
 ·have F1 := hid (show decide (0 <= i /\ i < (n : Int)) = false from decide_eq_false q1);have ER := hid (show obsP L i j = false by unfold obsP; rw [<- HN.out, decide_eq_false q1]; rfl);clear q1;rw [ER.out]
  go_enter Tryz.func133, Tryz.ntmps133
  go_wp2_with fail
  refine qC2 (PP := pgA P n c A i j) rfl (by kernel_rfl) (by decide) (qT7 P n c A i j) (fun i => if i = 42 then .bool false else undef) (by simp [qA2, gQ]) ?_ ?_
  ·intro i o vs W hi ho he hBW K hK;simp only [qA2, gQ] at hK |-;have BW := hid hBW;have C0W := hid ((hBW.cell (p := ⟨P, 0, none⟩) HLT.out).trans C0.out);obtain rfl | rfl | rfl | rfl | rfl | rfl | rfl | rfl | rfl | rfl | rfl | rfl | rfl | rfl | rfl | rfl | rfl | rfl | rfl | rfl | rfl | rfl | rfl | rfl | rfl | rfl | rfl | rfl | rfl | rfl | rfl | rfl | rfl | rfl | rfl | rfl | rfl | rfl | rfl | rfl | rfl | rfl | rfl := c43_ hi <;> simp only [gE] at ho <;> subst ho
   ·rw [if_pos (by rfl)];simp only [gQ] at hK;have HK := hid hK;clear hK he hi hBW;go_simp;exact HK.out _ _ (by first | rfl | simp [pgA]) bR
   ·have e0 : vs 0 = _ := he ⟨0, .data⟩ (by simp) rfl;rw [e0] at hK |-;rw [if_pos (by rfl)];simp only [gQ] at hK;have HK := hid hK;clear hK he hi hBW;go_simp;exact HK.out _ _ rfl bR
   ·have e1 : vs 1 = _ := he ⟨1, .data⟩ (by simp) rfl;rw [e1] at hK |-;rw [if_pos (by rfl)];simp only [gQ] at hK;have HK := hid hK;clear hK he hi hBW;go_simp;exact HK.out _ _ (by first | rfl | simp [pgA]) bR
   ·have e2 : vs 2 = _ := he ⟨2, .guard⟩ (by simp) rfl;rw [e2] at hK |-;rw [if_pos (by rfl)];simp only [gQ] at hK;have HK := hid hK;clear hK he hi hBW;go_simp;exact HK.out _ _ (by first | rfl | simp [pgA]) bR
   ·have e3 : vs 3 = _ := he ⟨3, .data⟩ (by simp) rfl;rw [e3] at hK |-;have e2 : vs 2 = _ := he ⟨2, .guard⟩ (by simp) rfl;rw [e2] at hK |-;rw [if_pos (by rfl)];simp only [gQ] at hK;have HK := hid hK;clear hK he hi hBW;go_simp;exact HK.out _ _ (by first | rfl | simp [pgA]) bR
   ·have e4 : vs 4 = _ := he ⟨4, .data⟩ (by simp) rfl;rw [e4] at hK |-;have e2 : vs 2 = _ := he ⟨2, .guard⟩ (by simp) rfl;rw [e2] at hK |-;rw [if_pos (by rfl)];simp only [gQ] at hK;have HK := hid hK;clear hK he hi hBW;go_simp;exact HK.out _ _ (by first | rfl | simp [pgA]) bR
   ·have e5 : vs 5 = _ := he ⟨5, .data⟩ (by simp) rfl;rw [e5] at hK |-;have e2 : vs 2 = _ := he ⟨2, .guard⟩ (by simp) rfl;rw [e2] at hK |-;rw [if_pos (by rfl)];simp only [gQ] at hK;have HK := hid hK;clear hK he hi hBW;have c0 := C0W.out;go_simp;exact HK.out _ _ rfl bR
   ·have e2 : vs 2 = _ := he ⟨2, .guard⟩ (by simp) rfl;rw [e2] at hK |-;rw [if_pos (by rfl)];simp only [gQ] at hK;have HK := hid hK;clear hK he hi hBW;go_simp;exact HK.out _ _ (by first | rfl | simp [pgA]) bR
   ·have e6 : vs 6 = _ := he ⟨6, .data⟩ (by simp) rfl;rw [e6] at hK |-;have e7 : vs 7 = _ := he ⟨7, .data⟩ (by simp) rfl;rw [e7] at hK |-;have e2 : vs 2 = _ := he ⟨2, .guard⟩ (by simp) rfl;rw [e2] at hK |-;rw [if_pos (by rfl)];simp only [gQ] at hK;have HK := hid hK;clear hK he hi hBW;go_simp;go_at_call 102
    refine (IS.out i _ c W).mono ?_;rintro en w9 ⟨rfl, h⟩;rw [F1.out];go_simp;exact HK.out _ _ rfl h
   ·have e2 : vs 2 = _ := he ⟨2, .data⟩ (by simp) rfl;rw [e2] at hK |-;have e8 : vs 8 = _ := he ⟨8, .data⟩ (by simp) rfl;rw [e8] at hK |-;rw [if_pos (by rfl)];simp only [gQ] at hK;have HK := hid hK;clear hK he hi hBW;go_simp;exact HK.out _ _ (by first | rfl | simp [pgA]) bR
   ·have e9 : vs 9 = _ := he ⟨9, .data⟩ (by simp) rfl;rw [e9] at hK |-;rw [if_pos (by rfl)];simp only [gQ] at hK;have HK := hid hK;clear hK he hi hBW;go_simp;exact HK.out _ _ (by first | rfl | simp [pgA]) bR
   ·have e10 : vs 10 = _ := he ⟨10, .guard⟩ (by simp) rfl;rw [e10] at hK |-;refine wN bF ?_;exact hK _ _ rfl bR
   ·have e11 : vs 11 = _ := he ⟨11, .data⟩ (by simp) rfl;rw [e11] at hK |-;have e10 : vs 10 = _ := he ⟨10, .guard⟩ (by simp) rfl;rw [e10] at hK |-;refine wN bF ?_;exact hK _ _ rfl bR
   ·have e12 : vs 12 = _ := he ⟨12, .data⟩ (by simp) rfl;rw [e12] at hK |-;have e10 : vs 10 = _ := he ⟨10, .guard⟩ (by simp) rfl;rw [e10] at hK |-;refine wN bF ?_;exact hK _ _ rfl bR
   ·have e13 : vs 13 = _ := he ⟨13, .data⟩ (by simp) rfl;rw [e13] at hK |-;have e10 : vs 10 = _ := he ⟨10, .guard⟩ (by simp) rfl;rw [e10] at hK |-;refine wN bF ?_;exact hK _ _ rfl bR
   ·have e10 : vs 10 = _ := he ⟨10, .guard⟩ (by simp) rfl;rw [e10] at hK |-;refine wN bF ?_;exact hK _ _ rfl bR
   ·have e14 : vs 14 = _ := he ⟨14, .data⟩ (by simp) rfl;rw [e14] at hK |-;have e15 : vs 15 = _ := he ⟨15, .data⟩ (by simp) rfl;rw [e15] at hK |-;have e10 : vs 10 = _ := he ⟨10, .guard⟩ (by simp) rfl;rw [e10] at hK |-;refine wN bF ?_;exact hK _ _ rfl bR
   ·have e10 : vs 10 = _ := he ⟨10, .data⟩ (by simp) rfl;rw [e10] at hK |-;have e16 : vs 16 = _ := he ⟨16, .data⟩ (by simp) rfl;rw [e16] at hK |-;rw [if_pos (by rfl)];simp only [gQ] at hK;have HK := hid hK;clear hK he hi hBW;go_simp;exact HK.out _ _ (by first | rfl | simp [pgA]) bR
   ·have e17 : vs 17 = _ := he ⟨17, .data⟩ (by simp) rfl;rw [e17] at hK |-;rw [if_pos (by rfl)];simp only [gQ] at hK;have HK := hid hK;clear hK he hi hBW;go_simp;exact HK.out _ _ (by first | rfl | simp [pgA]) bR
   iterate 2 ·have e18 : vs 18 = _ := he ⟨18, .guard⟩ (by simp) rfl;rw [e18] at hK |-;refine wN bF ?_;exact hK _ _ rfl bR
   ·have e19 : vs 19 = _ := he ⟨19, .data⟩ (by simp) rfl;rw [e19] at hK |-;have e20 : vs 20 = _ := he ⟨20, .data⟩ (by simp) rfl;rw [e20] at hK |-;have e18 : vs 18 = _ := he ⟨18, .guard⟩ (by simp) rfl;rw [e18] at hK |-;refine wN bF ?_;exact hK _ _ rfl bR
   ·have e18 : vs 18 = _ := he ⟨18, .data⟩ (by simp) rfl;rw [e18] at hK |-;have e21 : vs 21 = _ := he ⟨21, .data⟩ (by simp) rfl;rw [e21] at hK |-;rw [if_pos (by rfl)];simp only [gQ] at hK;have HK := hid hK;clear hK he hi hBW;go_simp;exact HK.out _ _ (by first | rfl | simp [pgA]) bR
   ·have e22 : vs 22 = _ := he ⟨22, .data⟩ (by simp) rfl;rw [e22] at hK |-;rw [if_pos (by rfl)];simp only [gQ] at hK;have HK := hid hK;clear hK he hi hBW;go_simp;exact HK.out _ _ (by first | rfl | simp [pgA]) bR
   ·have e23 : vs 23 = _ := he ⟨23, .guard⟩ (by simp) rfl;rw [e23] at hK |-;refine wN bF ?_;exact hK _ _ rfl bR
   ·have e24 : vs 24 = _ := he ⟨24, .data⟩ (by simp) rfl;rw [e24] at hK |-;have e23 : vs 23 = _ := he ⟨23, .guard⟩ (by simp) rfl;rw [e23] at hK |-;refine wN bF ?_;exact hK _ _ rfl bR
   ·have e25 : vs 25 = _ := he ⟨25, .data⟩ (by simp) rfl;rw [e25] at hK |-;have e23 : vs 23 = _ := he ⟨23, .guard⟩ (by simp) rfl;rw [e23] at hK |-;refine wN bF ?_;exact hK _ _ rfl bR
   ·have e26 : vs 26 = _ := he ⟨26, .data⟩ (by simp) rfl;rw [e26] at hK |-;have e23 : vs 23 = _ := he ⟨23, .guard⟩ (by simp) rfl;rw [e23] at hK |-;refine wN bF ?_;exact hK _ _ rfl bR
   ·have e23 : vs 23 = _ := he ⟨23, .guard⟩ (by simp) rfl;rw [e23] at hK |-;refine wN bF ?_;exact hK _ _ rfl bR
   ·have e27 : vs 27 = _ := he ⟨27, .data⟩ (by simp) rfl;rw [e27] at hK |-;have e28 : vs 28 = _ := he ⟨28, .data⟩ (by simp) rfl;rw [e28] at hK |-;have e23 : vs 23 = _ := he ⟨23, .guard⟩ (by simp) rfl;rw [e23] at hK |-;refine wN bF ?_;exact hK _ _ rfl bR
   ·have e29 : vs 29 = _ := he ⟨29, .data⟩ (by simp) rfl;rw [e29] at hK |-;have e23 : vs 23 = _ := he ⟨23, .guard⟩ (by simp) rfl;rw [e23] at hK |-;refine wN bF ?_;exact hK _ _ rfl bR
   ·have e30 : vs 30 = _ := he ⟨30, .data⟩ (by simp) rfl;rw [e30] at hK |-;have e23 : vs 23 = _ := he ⟨23, .guard⟩ (by simp) rfl;rw [e23] at hK |-;refine wN bF ?_;exact hK _ _ rfl bR
   ·have e23 : vs 23 = _ := he ⟨23, .guard⟩ (by simp) rfl;rw [e23] at hK |-;refine wN bF ?_;exact hK _ _ rfl bR
   ·have e32 : vs 32 = _ := he ⟨32, .data⟩ (by simp) rfl;rw [e32] at hK |-;have e23 : vs 23 = _ := he ⟨23, .guard⟩ (by simp) rfl;rw [e23] at hK |-;refine wN bF ?_;exact hK _ _ rfl bR
   ·have e33 : vs 33 = _ := he ⟨33, .data⟩ (by simp) rfl;rw [e33] at hK |-;have e23 : vs 23 = _ := he ⟨23, .guard⟩ (by simp) rfl;rw [e23] at hK |-;refine wN bF ?_;exact hK _ _ rfl bR
   ·have e34 : vs 34 = _ := he ⟨34, .data⟩ (by simp) rfl;rw [e34] at hK |-;have e23 : vs 23 = _ := he ⟨23, .guard⟩ (by simp) rfl;rw [e23] at hK |-;refine wN bF ?_;exact hK _ _ rfl bR
   ·have e23 : vs 23 = _ := he ⟨23, .guard⟩ (by simp) rfl;rw [e23] at hK |-;refine wN bF ?_;exact hK _ _ rfl bR
   ·have e35 : vs 35 = _ := he ⟨35, .data⟩ (by simp) rfl;rw [e35] at hK |-;have e36 : vs 36 = _ := he ⟨36, .data⟩ (by simp) rfl;rw [e36] at hK |-;have e23 : vs 23 = _ := he ⟨23, .guard⟩ (by simp) rfl;rw [e23] at hK |-;refine wN bF ?_;exact hK _ _ rfl bR
   ·have e37 : vs 37 = _ := he ⟨37, .data⟩ (by simp) rfl;rw [e37] at hK |-;have e23 : vs 23 = _ := he ⟨23, .guard⟩ (by simp) rfl;rw [e23] at hK |-;refine wN bF ?_;exact hK _ _ rfl bR
   ·have e38 : vs 38 = _ := he ⟨38, .data⟩ (by simp) rfl;rw [e38] at hK |-;have e23 : vs 23 = _ := he ⟨23, .guard⟩ (by simp) rfl;rw [e23] at hK |-;refine wN bF ?_;exact hK _ _ rfl bR
   ·have e31 : vs 31 = _ := he ⟨31, .data⟩ (by simp) rfl;rw [e31] at hK |-;have e39 : vs 39 = _ := he ⟨39, .data⟩ (by simp) rfl;rw [e39] at hK |-;have e23 : vs 23 = _ := he ⟨23, .guard⟩ (by simp) rfl;rw [e23] at hK |-;refine wN bF ?_;exact hK _ _ rfl bR
   ·have e23 : vs 23 = _ := he ⟨23, .data⟩ (by simp) rfl;rw [e23] at hK |-;have e40 : vs 40 = _ := he ⟨40, .data⟩ (by simp) rfl;rw [e40] at hK |-;rw [if_pos (by rfl)];simp only [gQ] at hK;have HK := hid hK;clear hK he hi hBW;go_simp;exact HK.out _ _ (by first | rfl | simp [pgA]) bR
   ·have e41 : vs 41 = _ := he ⟨41, .data⟩ (by simp) rfl;rw [e41] at hK |-;rw [if_pos (by rfl)];simp only [gQ] at hK;have HK := hid hK;clear hK he hi hBW;go_simp;exact HK.out _ _ (by first | rfl | simp [pgA]) bR
  ·intro vs W hall hBW;have e42 : vs 42 = .bool false := (hall 42 (by decide) : pgA P n c A i j 42 (vs 42) W);simp only [qA2, gQ];rw [e42];have BW := hid hBW;clear hall hBW;go_wp2_with fail
   go_ret;exact ⟨rfl, BW.out⟩
 by_cases q2 : 0 <= j /\ j < (n : Int)
 rotate_left
 ·have F1 := hid (show decide (0 <= i /\ i < (n : Int)) = true from decide_eq_true q1);have F2 := hid (show decide (0 <= j /\ j < (n : Int)) = false from decide_eq_false q2);have ER := hid (show obsP L i j = false by unfold obsP; rw [<- HN.out, decide_eq_true q1, decide_eq_false q2]; rfl);clear q1 q2;rw [ER.out]
  go_enter Tryz.func133, Tryz.ntmps133
  go_wp2_with fail
  refine qC2 (PP := pgB P n c A i j) rfl (by kernel_rfl) (by decide) (qS6 P n c A i j) (fun i => if i = 42 then .bool false else undef) (by simp [qA2, gQ]) ?_ ?_
  ·intro i o vs W hi ho he hBW K hK;simp only [qA2, gQ] at hK |-;have BW := hid hBW;have C0W := hid ((hBW.cell (p := ⟨P, 0, none⟩) HLT.out).trans C0.out);obtain rfl | rfl | rfl | rfl | rfl | rfl | rfl | rfl | rfl | rfl | rfl | rfl | rfl | rfl | rfl | rfl | rfl | rfl | rfl | rfl | rfl | rfl | rfl | rfl | rfl | rfl | rfl | rfl | rfl | rfl | rfl | rfl | rfl | rfl | rfl | rfl | rfl | rfl | rfl | rfl | rfl | rfl | rfl := c43_ hi <;> simp only [gE] at ho <;> subst ho
   ·rw [if_pos (by rfl)];simp only [gQ] at hK;have HK := hid hK;clear hK he hi hBW;go_simp;exact HK.out _ _ (by first | rfl | simp [pgB]) bR
   ·have e0 : vs 0 = _ := he ⟨0, .data⟩ (by simp) rfl;rw [e0] at hK |-;rw [if_pos (by rfl)];simp only [gQ] at hK;have HK := hid hK;clear hK he hi hBW;go_simp;exact HK.out _ _ rfl bR
   ·have e1 : vs 1 = _ := he ⟨1, .data⟩ (by simp) rfl;rw [e1] at hK |-;rw [if_pos (by rfl)];simp only [gQ] at hK;have HK := hid hK;clear hK he hi hBW;go_simp;exact HK.out _ _ (by first | rfl | simp [pgB]) bR
   ·have e2 : vs 2 = _ := he ⟨2, .guard⟩ (by simp) rfl;rw [e2] at hK |-;rw [if_pos (by rfl)];simp only [gQ] at hK;have HK := hid hK;clear hK he hi hBW;go_simp;exact HK.out _ _ (by first | rfl | simp [pgB]) bR
   ·have e3 : vs 3 = _ := he ⟨3, .data⟩ (by simp) rfl;rw [e3] at hK |-;have e2 : vs 2 = _ := he ⟨2, .guard⟩ (by simp) rfl;rw [e2] at hK |-;rw [if_pos (by rfl)];simp only [gQ] at hK;have HK := hid hK;clear hK he hi hBW;go_simp;exact HK.out _ _ (by first | rfl | simp [pgB]) bR
   ·have e4 : vs 4 = _ := he ⟨4, .data⟩ (by simp) rfl;rw [e4] at hK |-;have e2 : vs 2 = _ := he ⟨2, .guard⟩ (by simp) rfl;rw [e2] at hK |-;rw [if_pos (by rfl)];simp only [gQ] at hK;have HK := hid hK;clear hK he hi hBW;go_simp;exact HK.out _ _ (by first | rfl | simp [pgB]) bR
   ·have e5 : vs 5 = _ := he ⟨5, .data⟩ (by simp) rfl;rw [e5] at hK |-;have e2 : vs 2 = _ := he ⟨2, .guard⟩ (by simp) rfl;rw [e2] at hK |-;rw [if_pos (by rfl)];simp only [gQ] at hK;have HK := hid hK;clear hK he hi hBW;have c0 := C0W.out;go_simp;exact HK.out _ _ rfl bR
   ·have e2 : vs 2 = _ := he ⟨2, .guard⟩ (by simp) rfl;rw [e2] at hK |-;rw [if_pos (by rfl)];simp only [gQ] at hK;have HK := hid hK;clear hK he hi hBW;go_simp;exact HK.out _ _ (by first | rfl | simp [pgB]) bR
   ·have e6 : vs 6 = _ := he ⟨6, .data⟩ (by simp) rfl;rw [e6] at hK |-;have e7 : vs 7 = _ := he ⟨7, .data⟩ (by simp) rfl;rw [e7] at hK |-;have e2 : vs 2 = _ := he ⟨2, .guard⟩ (by simp) rfl;rw [e2] at hK |-;rw [if_pos (by rfl)];simp only [gQ] at hK;have HK := hid hK;clear hK he hi hBW;go_simp;go_at_call 102
    refine (IS.out i _ c W).mono ?_;rintro en w9 ⟨rfl, h⟩;rw [F1.out];go_simp;exact HK.out _ _ rfl h
   ·have e2 : vs 2 = _ := he ⟨2, .data⟩ (by simp) rfl;rw [e2] at hK |-;have e8 : vs 8 = _ := he ⟨8, .data⟩ (by simp) rfl;rw [e8] at hK |-;rw [if_pos (by rfl)];simp only [gQ] at hK;have HK := hid hK;clear hK he hi hBW;go_simp;exact HK.out _ _ (by first | rfl | simp [pgB]) bR
   ·have e9 : vs 9 = _ := he ⟨9, .data⟩ (by simp) rfl;rw [e9] at hK |-;rw [if_pos (by rfl)];simp only [gQ] at hK;have HK := hid hK;clear hK he hi hBW;go_simp;exact HK.out _ _ (by first | rfl | simp [pgB]) bR
   ·have e10 : vs 10 = _ := he ⟨10, .guard⟩ (by simp) rfl;rw [e10] at hK |-;rw [if_pos (by rfl)];simp only [gQ] at hK;have HK := hid hK;clear hK he hi hBW;go_simp;exact HK.out _ _ (by first | rfl | simp [pgB]) bR
   ·have e11 : vs 11 = _ := he ⟨11, .data⟩ (by simp) rfl;rw [e11] at hK |-;have e10 : vs 10 = _ := he ⟨10, .guard⟩ (by simp) rfl;rw [e10] at hK |-;rw [if_pos (by rfl)];simp only [gQ] at hK;have HK := hid hK;clear hK he hi hBW;go_simp;exact HK.out _ _ (by first | rfl | simp [pgB]) bR
   ·have e12 : vs 12 = _ := he ⟨12, .data⟩ (by simp) rfl;rw [e12] at hK |-;have e10 : vs 10 = _ := he ⟨10, .guard⟩ (by simp) rfl;rw [e10] at hK |-;rw [if_pos (by rfl)];simp only [gQ] at hK;have HK := hid hK;clear hK he hi hBW;go_simp;exact HK.out _ _ (by first | rfl | simp [pgB]) bR
   ·have e13 : vs 13 = _ := he ⟨13, .data⟩ (by simp) rfl;rw [e13] at hK |-;have e10 : vs 10 = _ := he ⟨10, .guard⟩ (by simp) rfl;rw [e10] at hK |-;rw [if_pos (by rfl)];simp only [gQ] at hK;have HK := hid hK;clear hK he hi hBW;have c0 := C0W.out;go_simp;exact HK.out _ _ rfl bR
   ·have e10 : vs 10 = _ := he ⟨10, .guard⟩ (by simp) rfl;rw [e10] at hK |-;rw [if_pos (by rfl)];simp only [gQ] at hK;have HK := hid hK;clear hK he hi hBW;go_simp;exact HK.out _ _ (by first | rfl | simp [pgB]) bR
   ·have e14 : vs 14 = _ := he ⟨14, .data⟩ (by simp) rfl;rw [e14] at hK |-;have e15 : vs 15 = _ := he ⟨15, .data⟩ (by simp) rfl;rw [e15] at hK |-;have e10 : vs 10 = _ := he ⟨10, .guard⟩ (by simp) rfl;rw [e10] at hK |-;rw [if_pos (by rfl)];simp only [gQ] at hK;have HK := hid hK;clear hK he hi hBW;go_simp;go_at_call 102
    refine (IS.out j _ c W).mono ?_;rintro en w9 ⟨rfl, h⟩;rw [F2.out];go_simp;exact HK.out _ _ rfl h
   ·have e10 : vs 10 = _ := he ⟨10, .data⟩ (by simp) rfl;rw [e10] at hK |-;have e16 : vs 16 = _ := he ⟨16, .data⟩ (by simp) rfl;rw [e16] at hK |-;rw [if_pos (by rfl)];simp only [gQ] at hK;have HK := hid hK;clear hK he hi hBW;go_simp;exact HK.out _ _ (by first | rfl | simp [pgB]) bR
   ·have e17 : vs 17 = _ := he ⟨17, .data⟩ (by simp) rfl;rw [e17] at hK |-;rw [if_pos (by rfl)];simp only [gQ] at hK;have HK := hid hK;clear hK he hi hBW;go_simp;exact HK.out _ _ (by first | rfl | simp [pgB]) bR
   iterate 2 ·have e18 : vs 18 = _ := he ⟨18, .guard⟩ (by simp) rfl;rw [e18] at hK |-;refine wN bF ?_;exact hK _ _ rfl bR
   ·have e19 : vs 19 = _ := he ⟨19, .data⟩ (by simp) rfl;rw [e19] at hK |-;have e20 : vs 20 = _ := he ⟨20, .data⟩ (by simp) rfl;rw [e20] at hK |-;have e18 : vs 18 = _ := he ⟨18, .guard⟩ (by simp) rfl;rw [e18] at hK |-;refine wN bF ?_;exact hK _ _ rfl bR
   ·have e18 : vs 18 = _ := he ⟨18, .data⟩ (by simp) rfl;rw [e18] at hK |-;have e21 : vs 21 = _ := he ⟨21, .data⟩ (by simp) rfl;rw [e21] at hK |-;rw [if_pos (by rfl)];simp only [gQ] at hK;have HK := hid hK;clear hK he hi hBW;go_simp;exact HK.out _ _ (by first | rfl | simp [pgB]) bR
   ·have e22 : vs 22 = _ := he ⟨22, .data⟩ (by simp) rfl;rw [e22] at hK |-;rw [if_pos (by rfl)];simp only [gQ] at hK;have HK := hid hK;clear hK he hi hBW;go_simp;exact HK.out _ _ (by first | rfl | simp [pgB]) bR
   ·have e23 : vs 23 = _ := he ⟨23, .guard⟩ (by simp) rfl;rw [e23] at hK |-;refine wN bF ?_;exact hK _ _ rfl bR
   ·have e24 : vs 24 = _ := he ⟨24, .data⟩ (by simp) rfl;rw [e24] at hK |-;have e23 : vs 23 = _ := he ⟨23, .guard⟩ (by simp) rfl;rw [e23] at hK |-;refine wN bF ?_;exact hK _ _ rfl bR
   ·have e25 : vs 25 = _ := he ⟨25, .data⟩ (by simp) rfl;rw [e25] at hK |-;have e23 : vs 23 = _ := he ⟨23, .guard⟩ (by simp) rfl;rw [e23] at hK |-;refine wN bF ?_;exact hK _ _ rfl bR
   ·have e26 : vs 26 = _ := he ⟨26, .data⟩ (by simp) rfl;rw [e26] at hK |-;have e23 : vs 23 = _ := he ⟨23, .guard⟩ (by simp) rfl;rw [e23] at hK |-;refine wN bF ?_;exact hK _ _ rfl bR
   ·have e23 : vs 23 = _ := he ⟨23, .guard⟩ (by simp) rfl;rw [e23] at hK |-;refine wN bF ?_;exact hK _ _ rfl bR
   ·have e27 : vs 27 = _ := he ⟨27, .data⟩ (by simp) rfl;rw [e27] at hK |-;have e28 : vs 28 = _ := he ⟨28, .data⟩ (by simp) rfl;rw [e28] at hK |-;have e23 : vs 23 = _ := he ⟨23, .guard⟩ (by simp) rfl;rw [e23] at hK |-;refine wN bF ?_;exact hK _ _ rfl bR
   ·have e29 : vs 29 = _ := he ⟨29, .data⟩ (by simp) rfl;rw [e29] at hK |-;have e23 : vs 23 = _ := he ⟨23, .guard⟩ (by simp) rfl;rw [e23] at hK |-;refine wN bF ?_;exact hK _ _ rfl bR
   ·have e30 : vs 30 = _ := he ⟨30, .data⟩ (by simp) rfl;rw [e30] at hK |-;have e23 : vs 23 = _ := he ⟨23, .guard⟩ (by simp) rfl;rw [e23] at hK |-;refine wN bF ?_;exact hK _ _ rfl bR
   ·have e23 : vs 23 = _ := he ⟨23, .guard⟩ (by simp) rfl;rw [e23] at hK |-;refine wN bF ?_;exact hK _ _ rfl bR
   ·have e32 : vs 32 = _ := he ⟨32, .data⟩ (by simp) rfl;rw [e32] at hK |-;have e23 : vs 23 = _ := he ⟨23, .guard⟩ (by simp) rfl;rw [e23] at hK |-;refine wN bF ?_;exact hK _ _ rfl bR
   ·have e33 : vs 33 = _ := he ⟨33, .data⟩ (by simp) rfl;rw [e33] at hK |-;have e23 : vs 23 = _ := he ⟨23, .guard⟩ (by simp) rfl;rw [e23] at hK |-;refine wN bF ?_;exact hK _ _ rfl bR
   ·have e34 : vs 34 = _ := he ⟨34, .data⟩ (by simp) rfl;rw [e34] at hK |-;have e23 : vs 23 = _ := he ⟨23, .guard⟩ (by simp) rfl;rw [e23] at hK |-;refine wN bF ?_;exact hK _ _ rfl bR
   ·have e23 : vs 23 = _ := he ⟨23, .guard⟩ (by simp) rfl;rw [e23] at hK |-;refine wN bF ?_;exact hK _ _ rfl bR
   ·have e35 : vs 35 = _ := he ⟨35, .data⟩ (by simp) rfl;rw [e35] at hK |-;have e36 : vs 36 = _ := he ⟨36, .data⟩ (by simp) rfl;rw [e36] at hK |-;have e23 : vs 23 = _ := he ⟨23, .guard⟩ (by simp) rfl;rw [e23] at hK |-;refine wN bF ?_;exact hK _ _ rfl bR
   ·have e37 : vs 37 = _ := he ⟨37, .data⟩ (by simp) rfl;rw [e37] at hK |-;have e23 : vs 23 = _ := he ⟨23, .guard⟩ (by simp) rfl;rw [e23] at hK |-;refine wN bF ?_;exact hK _ _ rfl bR
   ·have e38 : vs 38 = _ := he ⟨38, .data⟩ (by simp) rfl;rw [e38] at hK |-;have e23 : vs 23 = _ := he ⟨23, .guard⟩ (by simp) rfl;rw [e23] at hK |-;refine wN bF ?_;exact hK _ _ rfl bR
   ·have e31 : vs 31 = _ := he ⟨31, .data⟩ (by simp) rfl;rw [e31] at hK |-;have e39 : vs 39 = _ := he ⟨39, .data⟩ (by simp) rfl;rw [e39] at hK |-;have e23 : vs 23 = _ := he ⟨23, .guard⟩ (by simp) rfl;rw [e23] at hK |-;refine wN bF ?_;exact hK _ _ rfl bR
   ·have e23 : vs 23 = _ := he ⟨23, .data⟩ (by simp) rfl;rw [e23] at hK |-;have e40 : vs 40 = _ := he ⟨40, .data⟩ (by simp) rfl;rw [e40] at hK |-;rw [if_pos (by rfl)];simp only [gQ] at hK;have HK := hid hK;clear hK he hi hBW;go_simp;exact HK.out _ _ (by first | rfl | simp [pgB]) bR
   ·have e41 : vs 41 = _ := he ⟨41, .data⟩ (by simp) rfl;rw [e41] at hK |-;rw [if_pos (by rfl)];simp only [gQ] at hK;have HK := hid hK;clear hK he hi hBW;go_simp;exact HK.out _ _ (by first | rfl | simp [pgB]) bR
  ·intro vs W hall hBW;have e42 : vs 42 = .bool false := (hall 42 (by decide) : pgB P n c A i j 42 (vs 42) W);simp only [qA2, gQ];rw [e42];have BW := hid hBW;clear hall hBW;go_wp2_with fail
   go_ret;exact ⟨rfl, BW.out⟩
 by_cases q3 : i = j
 ·have F1 := hid (show decide (0 <= i /\ i < (n : Int)) = true from decide_eq_true q1);have F2 := hid (show decide (0 <= j /\ j < (n : Int)) = true from decide_eq_true q2);have ER := hid (show obsP L i j = false by unfold obsP; rw [<- HN.out, decide_eq_true q1, decide_eq_true q2, decide_eq_false (fun h => h q3)]; rfl);have F3 := hid q3;clear q1 q2 q3;rw [ER.out]
  go_enter Tryz.func133, Tryz.ntmps133
  go_wp2_with fail
  refine qC2 (PP := pgC P n c A i j) rfl (by kernel_rfl) (by decide) (qSL P n c A i j) (fun i => if i = 42 then .bool false else undef) (by simp [qA2, gQ]) ?_ ?_
  ·intro i o vs W hi ho he hBW K hK;simp only [qA2, gQ] at hK |-;have BW := hid hBW;have C0W := hid ((hBW.cell (p := ⟨P, 0, none⟩) HLT.out).trans C0.out);obtain rfl | rfl | rfl | rfl | rfl | rfl | rfl | rfl | rfl | rfl | rfl | rfl | rfl | rfl | rfl | rfl | rfl | rfl | rfl | rfl | rfl | rfl | rfl | rfl | rfl | rfl | rfl | rfl | rfl | rfl | rfl | rfl | rfl | rfl | rfl | rfl | rfl | rfl | rfl | rfl | rfl | rfl | rfl := c43_ hi <;> simp only [gE] at ho <;> subst ho
   ·rw [if_pos (by rfl)];simp only [gQ] at hK;have HK := hid hK;clear hK he hi hBW;go_simp;exact HK.out _ _ (by first | rfl | simp [pgC]) bR
   ·have e0 : vs 0 = _ := he ⟨0, .data⟩ (by simp) rfl;rw [e0] at hK |-;rw [if_pos (by rfl)];simp only [gQ] at hK;have HK := hid hK;clear hK he hi hBW;go_simp;exact HK.out _ _ rfl bR
   ·have e1 : vs 1 = _ := he ⟨1, .data⟩ (by simp) rfl;rw [e1] at hK |-;rw [if_pos (by rfl)];simp only [gQ] at hK;have HK := hid hK;clear hK he hi hBW;go_simp;exact HK.out _ _ (by first | rfl | simp [pgC]) bR
   ·have e2 : vs 2 = _ := he ⟨2, .guard⟩ (by simp) rfl;rw [e2] at hK |-;rw [if_pos (by rfl)];simp only [gQ] at hK;have HK := hid hK;clear hK he hi hBW;go_simp;exact HK.out _ _ (by first | rfl | simp [pgC]) bR
   ·have e3 : vs 3 = _ := he ⟨3, .data⟩ (by simp) rfl;rw [e3] at hK |-;have e2 : vs 2 = _ := he ⟨2, .guard⟩ (by simp) rfl;rw [e2] at hK |-;rw [if_pos (by rfl)];simp only [gQ] at hK;have HK := hid hK;clear hK he hi hBW;go_simp;exact HK.out _ _ (by first | rfl | simp [pgC]) bR
   ·have e4 : vs 4 = _ := he ⟨4, .data⟩ (by simp) rfl;rw [e4] at hK |-;have e2 : vs 2 = _ := he ⟨2, .guard⟩ (by simp) rfl;rw [e2] at hK |-;rw [if_pos (by rfl)];simp only [gQ] at hK;have HK := hid hK;clear hK he hi hBW;go_simp;exact HK.out _ _ (by first | rfl | simp [pgC]) bR
   ·have e5 : vs 5 = _ := he ⟨5, .data⟩ (by simp) rfl;rw [e5] at hK |-;have e2 : vs 2 = _ := he ⟨2, .guard⟩ (by simp) rfl;rw [e2] at hK |-;rw [if_pos (by rfl)];simp only [gQ] at hK;have HK := hid hK;clear hK he hi hBW;have c0 := C0W.out;go_simp;exact HK.out _ _ rfl bR
   ·have e2 : vs 2 = _ := he ⟨2, .guard⟩ (by simp) rfl;rw [e2] at hK |-;rw [if_pos (by rfl)];simp only [gQ] at hK;have HK := hid hK;clear hK he hi hBW;go_simp;exact HK.out _ _ (by first | rfl | simp [pgC]) bR
   ·have e6 : vs 6 = _ := he ⟨6, .data⟩ (by simp) rfl;rw [e6] at hK |-;have e7 : vs 7 = _ := he ⟨7, .data⟩ (by simp) rfl;rw [e7] at hK |-;have e2 : vs 2 = _ := he ⟨2, .guard⟩ (by simp) rfl;rw [e2] at hK |-;rw [if_pos (by rfl)];simp only [gQ] at hK;have HK := hid hK;clear hK he hi hBW;go_simp;go_at_call 102
    refine (IS.out i _ c W).mono ?_;rintro en w9 ⟨rfl, h⟩;rw [F1.out];go_simp;exact HK.out _ _ rfl h
   ·have e2 : vs 2 = _ := he ⟨2, .data⟩ (by simp) rfl;rw [e2] at hK |-;have e8 : vs 8 = _ := he ⟨8, .data⟩ (by simp) rfl;rw [e8] at hK |-;rw [if_pos (by rfl)];simp only [gQ] at hK;have HK := hid hK;clear hK he hi hBW;go_simp;exact HK.out _ _ (by first | rfl | simp [pgC]) bR
   ·have e9 : vs 9 = _ := he ⟨9, .data⟩ (by simp) rfl;rw [e9] at hK |-;rw [if_pos (by rfl)];simp only [gQ] at hK;have HK := hid hK;clear hK he hi hBW;go_simp;exact HK.out _ _ (by first | rfl | simp [pgC]) bR
   ·have e10 : vs 10 = _ := he ⟨10, .guard⟩ (by simp) rfl;rw [e10] at hK |-;rw [if_pos (by rfl)];simp only [gQ] at hK;have HK := hid hK;clear hK he hi hBW;go_simp;exact HK.out _ _ (by first | rfl | simp [pgC]) bR
   ·have e11 : vs 11 = _ := he ⟨11, .data⟩ (by simp) rfl;rw [e11] at hK |-;have e10 : vs 10 = _ := he ⟨10, .guard⟩ (by simp) rfl;rw [e10] at hK |-;rw [if_pos (by rfl)];simp only [gQ] at hK;have HK := hid hK;clear hK he hi hBW;go_simp;exact HK.out _ _ (by first | rfl | simp [pgC]) bR
   ·have e12 : vs 12 = _ := he ⟨12, .data⟩ (by simp) rfl;rw [e12] at hK |-;have e10 : vs 10 = _ := he ⟨10, .guard⟩ (by simp) rfl;rw [e10] at hK |-;rw [if_pos (by rfl)];simp only [gQ] at hK;have HK := hid hK;clear hK he hi hBW;go_simp;exact HK.out _ _ (by first | rfl | simp [pgC]) bR
   ·have e13 : vs 13 = _ := he ⟨13, .data⟩ (by simp) rfl;rw [e13] at hK |-;have e10 : vs 10 = _ := he ⟨10, .guard⟩ (by simp) rfl;rw [e10] at hK |-;rw [if_pos (by rfl)];simp only [gQ] at hK;have HK := hid hK;clear hK he hi hBW;have c0 := C0W.out;go_simp;exact HK.out _ _ rfl bR
   ·have e10 : vs 10 = _ := he ⟨10, .guard⟩ (by simp) rfl;rw [e10] at hK |-;rw [if_pos (by rfl)];simp only [gQ] at hK;have HK := hid hK;clear hK he hi hBW;go_simp;exact HK.out _ _ (by first | rfl | simp [pgC]) bR
   ·have e14 : vs 14 = _ := he ⟨14, .data⟩ (by simp) rfl;rw [e14] at hK |-;have e15 : vs 15 = _ := he ⟨15, .data⟩ (by simp) rfl;rw [e15] at hK |-;have e10 : vs 10 = _ := he ⟨10, .guard⟩ (by simp) rfl;rw [e10] at hK |-;rw [if_pos (by rfl)];simp only [gQ] at hK;have HK := hid hK;clear hK he hi hBW;go_simp;go_at_call 102
    refine (IS.out j _ c W).mono ?_;rintro en w9 ⟨rfl, h⟩;rw [F2.out];go_simp;exact HK.out _ _ rfl h
   ·have e10 : vs 10 = _ := he ⟨10, .data⟩ (by simp) rfl;rw [e10] at hK |-;have e16 : vs 16 = _ := he ⟨16, .data⟩ (by simp) rfl;rw [e16] at hK |-;rw [if_pos (by rfl)];simp only [gQ] at hK;have HK := hid hK;clear hK he hi hBW;go_simp;exact HK.out _ _ (by first | rfl | simp [pgC]) bR
   ·have e17 : vs 17 = _ := he ⟨17, .data⟩ (by simp) rfl;rw [e17] at hK |-;rw [if_pos (by rfl)];simp only [gQ] at hK;have HK := hid hK;clear hK he hi hBW;go_simp;exact HK.out _ _ (by first | rfl | simp [pgC]) bR
   iterate 2 ·have e18 : vs 18 = _ := he ⟨18, .guard⟩ (by simp) rfl;rw [e18] at hK |-;rw [if_pos (by rfl)];simp only [gQ] at hK;have HK := hid hK;clear hK he hi hBW;go_simp;exact HK.out _ _ (by first | rfl | simp [pgC]) bR
   ·have e19 : vs 19 = _ := he ⟨19, .data⟩ (by simp) rfl;rw [e19] at hK |-;have e20 : vs 20 = _ := he ⟨20, .data⟩ (by simp) rfl;rw [e20] at hK |-;have e18 : vs 18 = _ := he ⟨18, .guard⟩ (by simp) rfl;rw [e18] at hK |-;rw [if_pos (by rfl)];simp only [gQ] at hK;have HK := hid hK;clear hK he hi hBW;go_simp;have f3 := F3.out;exact HK.out _ _ (by simp [pgC, f3]) bR
   ·have e18 : vs 18 = _ := he ⟨18, .data⟩ (by simp) rfl;rw [e18] at hK |-;have e21 : vs 21 = _ := he ⟨21, .data⟩ (by simp) rfl;rw [e21] at hK |-;rw [if_pos (by rfl)];simp only [gQ] at hK;have HK := hid hK;clear hK he hi hBW;go_simp;exact HK.out _ _ (by first | rfl | simp [pgC]) bR
   ·have e22 : vs 22 = _ := he ⟨22, .data⟩ (by simp) rfl;rw [e22] at hK |-;rw [if_pos (by rfl)];simp only [gQ] at hK;have HK := hid hK;clear hK he hi hBW;go_simp;exact HK.out _ _ (by first | rfl | simp [pgC]) bR
   ·have e23 : vs 23 = _ := he ⟨23, .guard⟩ (by simp) rfl;rw [e23] at hK |-;refine wN bF ?_;exact hK _ _ rfl bR
   ·have e24 : vs 24 = _ := he ⟨24, .data⟩ (by simp) rfl;rw [e24] at hK |-;have e23 : vs 23 = _ := he ⟨23, .guard⟩ (by simp) rfl;rw [e23] at hK |-;refine wN bF ?_;exact hK _ _ rfl bR
   ·have e25 : vs 25 = _ := he ⟨25, .data⟩ (by simp) rfl;rw [e25] at hK |-;have e23 : vs 23 = _ := he ⟨23, .guard⟩ (by simp) rfl;rw [e23] at hK |-;refine wN bF ?_;exact hK _ _ rfl bR
   ·have e26 : vs 26 = _ := he ⟨26, .data⟩ (by simp) rfl;rw [e26] at hK |-;have e23 : vs 23 = _ := he ⟨23, .guard⟩ (by simp) rfl;rw [e23] at hK |-;refine wN bF ?_;exact hK _ _ rfl bR
   ·have e23 : vs 23 = _ := he ⟨23, .guard⟩ (by simp) rfl;rw [e23] at hK |-;refine wN bF ?_;exact hK _ _ rfl bR
   ·have e27 : vs 27 = _ := he ⟨27, .data⟩ (by simp) rfl;rw [e27] at hK |-;have e28 : vs 28 = _ := he ⟨28, .data⟩ (by simp) rfl;rw [e28] at hK |-;have e23 : vs 23 = _ := he ⟨23, .guard⟩ (by simp) rfl;rw [e23] at hK |-;refine wN bF ?_;exact hK _ _ rfl bR
   ·have e29 : vs 29 = _ := he ⟨29, .data⟩ (by simp) rfl;rw [e29] at hK |-;have e23 : vs 23 = _ := he ⟨23, .guard⟩ (by simp) rfl;rw [e23] at hK |-;refine wN bF ?_;exact hK _ _ rfl bR
   ·have e30 : vs 30 = _ := he ⟨30, .data⟩ (by simp) rfl;rw [e30] at hK |-;have e23 : vs 23 = _ := he ⟨23, .guard⟩ (by simp) rfl;rw [e23] at hK |-;refine wN bF ?_;exact hK _ _ rfl bR
   ·have e23 : vs 23 = _ := he ⟨23, .guard⟩ (by simp) rfl;rw [e23] at hK |-;refine wN bF ?_;exact hK _ _ rfl bR
   ·have e32 : vs 32 = _ := he ⟨32, .data⟩ (by simp) rfl;rw [e32] at hK |-;have e23 : vs 23 = _ := he ⟨23, .guard⟩ (by simp) rfl;rw [e23] at hK |-;refine wN bF ?_;exact hK _ _ rfl bR
   ·have e33 : vs 33 = _ := he ⟨33, .data⟩ (by simp) rfl;rw [e33] at hK |-;have e23 : vs 23 = _ := he ⟨23, .guard⟩ (by simp) rfl;rw [e23] at hK |-;refine wN bF ?_;exact hK _ _ rfl bR
   ·have e34 : vs 34 = _ := he ⟨34, .data⟩ (by simp) rfl;rw [e34] at hK |-;have e23 : vs 23 = _ := he ⟨23, .guard⟩ (by simp) rfl;rw [e23] at hK |-;refine wN bF ?_;exact hK _ _ rfl bR
   ·have e23 : vs 23 = _ := he ⟨23, .guard⟩ (by simp) rfl;rw [e23] at hK |-;refine wN bF ?_;exact hK _ _ rfl bR
   ·have e35 : vs 35 = _ := he ⟨35, .data⟩ (by simp) rfl;rw [e35] at hK |-;have e36 : vs 36 = _ := he ⟨36, .data⟩ (by simp) rfl;rw [e36] at hK |-;have e23 : vs 23 = _ := he ⟨23, .guard⟩ (by simp) rfl;rw [e23] at hK |-;refine wN bF ?_;exact hK _ _ rfl bR
   ·have e37 : vs 37 = _ := he ⟨37, .data⟩ (by simp) rfl;rw [e37] at hK |-;have e23 : vs 23 = _ := he ⟨23, .guard⟩ (by simp) rfl;rw [e23] at hK |-;refine wN bF ?_;exact hK _ _ rfl bR
   ·have e38 : vs 38 = _ := he ⟨38, .data⟩ (by simp) rfl;rw [e38] at hK |-;have e23 : vs 23 = _ := he ⟨23, .guard⟩ (by simp) rfl;rw [e23] at hK |-;refine wN bF ?_;exact hK _ _ rfl bR
   ·have e31 : vs 31 = _ := he ⟨31, .data⟩ (by simp) rfl;rw [e31] at hK |-;have e39 : vs 39 = _ := he ⟨39, .data⟩ (by simp) rfl;rw [e39] at hK |-;have e23 : vs 23 = _ := he ⟨23, .guard⟩ (by simp) rfl;rw [e23] at hK |-;refine wN bF ?_;exact hK _ _ rfl bR
   ·have e23 : vs 23 = _ := he ⟨23, .data⟩ (by simp) rfl;rw [e23] at hK |-;have e40 : vs 40 = _ := he ⟨40, .data⟩ (by simp) rfl;rw [e40] at hK |-;rw [if_pos (by rfl)];simp only [gQ] at hK;have HK := hid hK;clear hK he hi hBW;go_simp;exact HK.out _ _ (by first | rfl | simp [pgC]) bR
   ·have e41 : vs 41 = _ := he ⟨41, .data⟩ (by simp) rfl;rw [e41] at hK |-;rw [if_pos (by rfl)];simp only [gQ] at hK;have HK := hid hK;clear hK he hi hBW;go_simp;exact HK.out _ _ (by first | rfl | simp [pgC]) bR
  ·intro vs W hall hBW;have e42 : vs 42 = .bool false := (hall 42 (by decide) : pgC P n c A i j 42 (vs 42) W);simp only [qA2, gQ];rw [e42];have BW := hid hBW;clear hall hBW;go_wp2_with fail
   go_ret;exact ⟨rfl, BW.out⟩
 obtain ⟨i9, hi9⟩ : ∃ i9 : Nat, i = (i9 : Int) := ⟨i.toNat, by omega⟩;obtain ⟨j9, hj9⟩ : ∃ j9 : Nat, j = (j9 : Int) := ⟨j.toNat, by omega⟩;have F1 := hid (show decide (0 <= i /\ i < (n : Int)) = true from decide_eq_true q1);have F2 := hid (show decide (0 <= j /\ j < (n : Int)) = true from decide_eq_true q2);have F3 := hid q3;have KI := hid (show i9 < L.length by have := HN.out; omega);have KJ := hid (show j9 < L.length by have := HN.out; omega);have FI := hid (show 0 <= (i9 : Int) /\ (i9 : Int) < (n : Int) by omega);have FJ := hid (show 0 <= (j9 : Int) /\ (j9 : Int) < (n : Int) by omega);obtain ⟨b, o, hA, hrest⟩ := HRD.out.cells KI.out;clear hrest;obtain ⟨x, hx⟩ : ∃ x, L[i9].pk = x := ⟨_, rfl⟩;obtain ⟨y, hy⟩ : ∃ y, L[j9].pk = y := ⟨_, rfl⟩;have EX := hid hx;have EY := hid hy;have OBX := hid (fun W (hb : Below w.heap.size w W) => show Calls Tryz.prog 178 #[x.val, y.val] W fun r w' => r = .returned (.bool (x.obs.any fun d => qAP y.ownD d)) /\ Below W.heap.size W w' from hx ▸ hy ▸ OB.out i9 j9 KI.out KJ.out W hb);obtain ⟨ob, hob⟩ : ∃ ob, (x.obs.any fun d => qAP y.ownD d) = ob := ⟨_, rfl⟩;have EO := hid hob;have ER := hid (show obsP L i j = ob by unfold obsP; rw [<- HN.out, decide_eq_true q1, decide_eq_true q2, decide_eq_true (show i ≠ j from q3), hi9, hj9, <- hob, <- hx, <- hy]; simp [Int.toNat_natCast, List.getElem?_eq_getElem KI.out, List.getElem?_eq_getElem KJ.out]; try rfl);subst hA;subst hi9;subst hj9;clear q1 q2 q3 hx hy hob;rw [ER.out]
 go_enter Tryz.func133, Tryz.ntmps133
 go_wp2_with fail
 refine qC2 (PP := pgD P n c (some ⟨b, o, none⟩) (i9 : Int) (j9 : Int) b o i9 j9 x y ob) rfl (by kernel_rfl) (by decide) (qRN P n c (some ⟨b, o, none⟩) (i9 : Int) (j9 : Int) b o i9 j9 x y ob) (fun i => if i = 42 then .bool false else undef) (by simp [qA2, gQ]) ?_ ?_
 ·intro i o vs W hi ho he hBW K hK;simp only [qA2, gQ] at hK |-;have BW := hid hBW;have C0W := hid ((hBW.cell (p := ⟨P, 0, none⟩) HLT.out).trans C0.out);have XW := hid (qIG (HRD.out.below hBW) KI.out rfl EX.out);have YW := hid (qIG (HRD.out.below hBW) KJ.out rfl EY.out);obtain rfl | rfl | rfl | rfl | rfl | rfl | rfl | rfl | rfl | rfl | rfl | rfl | rfl | rfl | rfl | rfl | rfl | rfl | rfl | rfl | rfl | rfl | rfl | rfl | rfl | rfl | rfl | rfl | rfl | rfl | rfl | rfl | rfl | rfl | rfl | rfl | rfl | rfl | rfl | rfl | rfl | rfl | rfl := c43_ hi <;> simp only [gE] at ho <;> subst ho
  ·rw [if_pos (by rfl)];simp only [gQ] at hK;have HK := hid hK;clear hK he hi hBW;go_simp;exact HK.out _ _ (by first | rfl | simp [pgD]) bR
  ·have e0 : vs 0 = _ := he ⟨0, .data⟩ (by simp) rfl;rw [e0] at hK |-;rw [if_pos (by rfl)];simp only [gQ] at hK;have HK := hid hK;clear hK he hi hBW;go_simp;exact HK.out _ _ rfl bR
  ·have e1 : vs 1 = _ := he ⟨1, .data⟩ (by simp) rfl;rw [e1] at hK |-;rw [if_pos (by rfl)];simp only [gQ] at hK;have HK := hid hK;clear hK he hi hBW;go_simp;exact HK.out _ _ (by first | rfl | simp [pgD]) bR
  ·have e2 : vs 2 = _ := he ⟨2, .guard⟩ (by simp) rfl;rw [e2] at hK |-;rw [if_pos (by rfl)];simp only [gQ] at hK;have HK := hid hK;clear hK he hi hBW;go_simp;exact HK.out _ _ (by first | rfl | simp [pgD]) bR
  ·have e3 : vs 3 = _ := he ⟨3, .data⟩ (by simp) rfl;rw [e3] at hK |-;have e2 : vs 2 = _ := he ⟨2, .guard⟩ (by simp) rfl;rw [e2] at hK |-;rw [if_pos (by rfl)];simp only [gQ] at hK;have HK := hid hK;clear hK he hi hBW;go_simp;exact HK.out _ _ (by first | rfl | simp [pgD]) bR
  ·have e4 : vs 4 = _ := he ⟨4, .data⟩ (by simp) rfl;rw [e4] at hK |-;have e2 : vs 2 = _ := he ⟨2, .guard⟩ (by simp) rfl;rw [e2] at hK |-;rw [if_pos (by rfl)];simp only [gQ] at hK;have HK := hid hK;clear hK he hi hBW;go_simp;exact HK.out _ _ (by first | rfl | simp [pgD]) bR
  ·have e5 : vs 5 = _ := he ⟨5, .data⟩ (by simp) rfl;rw [e5] at hK |-;have e2 : vs 2 = _ := he ⟨2, .guard⟩ (by simp) rfl;rw [e2] at hK |-;rw [if_pos (by rfl)];simp only [gQ] at hK;have HK := hid hK;clear hK he hi hBW;have c0 := C0W.out;go_simp;exact HK.out _ _ rfl bR
  ·have e2 : vs 2 = _ := he ⟨2, .guard⟩ (by simp) rfl;rw [e2] at hK |-;rw [if_pos (by rfl)];simp only [gQ] at hK;have HK := hid hK;clear hK he hi hBW;go_simp;exact HK.out _ _ (by first | rfl | simp [pgD]) bR
  ·have e6 : vs 6 = _ := he ⟨6, .data⟩ (by simp) rfl;rw [e6] at hK |-;have e7 : vs 7 = _ := he ⟨7, .data⟩ (by simp) rfl;rw [e7] at hK |-;have e2 : vs 2 = _ := he ⟨2, .guard⟩ (by simp) rfl;rw [e2] at hK |-;rw [if_pos (by rfl)];simp only [gQ] at hK;have HK := hid hK;clear hK he hi hBW;go_simp;go_at_call 102
   refine (IS.out (i9 : Int) _ c W).mono ?_;rintro en w9 ⟨rfl, h⟩;rw [F1.out];go_simp;exact HK.out _ _ rfl h
  ·have e2 : vs 2 = _ := he ⟨2, .data⟩ (by simp) rfl;rw [e2] at hK |-;have e8 : vs 8 = _ := he ⟨8, .data⟩ (by simp) rfl;rw [e8] at hK |-;rw [if_pos (by rfl)];simp only [gQ] at hK;have HK := hid hK;clear hK he hi hBW;go_simp;exact HK.out _ _ (by first | rfl | simp [pgD]) bR
  ·have e9 : vs 9 = _ := he ⟨9, .data⟩ (by simp) rfl;rw [e9] at hK |-;rw [if_pos (by rfl)];simp only [gQ] at hK;have HK := hid hK;clear hK he hi hBW;go_simp;exact HK.out _ _ (by first | rfl | simp [pgD]) bR
  ·have e10 : vs 10 = _ := he ⟨10, .guard⟩ (by simp) rfl;rw [e10] at hK |-;rw [if_pos (by rfl)];simp only [gQ] at hK;have HK := hid hK;clear hK he hi hBW;go_simp;exact HK.out _ _ (by first | rfl | simp [pgD]) bR
  ·have e11 : vs 11 = _ := he ⟨11, .data⟩ (by simp) rfl;rw [e11] at hK |-;have e10 : vs 10 = _ := he ⟨10, .guard⟩ (by simp) rfl;rw [e10] at hK |-;rw [if_pos (by rfl)];simp only [gQ] at hK;have HK := hid hK;clear hK he hi hBW;go_simp;exact HK.out _ _ (by first | rfl | simp [pgD]) bR
  ·have e12 : vs 12 = _ := he ⟨12, .data⟩ (by simp) rfl;rw [e12] at hK |-;have e10 : vs 10 = _ := he ⟨10, .guard⟩ (by simp) rfl;rw [e10] at hK |-;rw [if_pos (by rfl)];simp only [gQ] at hK;have HK := hid hK;clear hK he hi hBW;go_simp;exact HK.out _ _ (by first | rfl | simp [pgD]) bR
  ·have e13 : vs 13 = _ := he ⟨13, .data⟩ (by simp) rfl;rw [e13] at hK |-;have e10 : vs 10 = _ := he ⟨10, .guard⟩ (by simp) rfl;rw [e10] at hK |-;rw [if_pos (by rfl)];simp only [gQ] at hK;have HK := hid hK;clear hK he hi hBW;have c0 := C0W.out;go_simp;exact HK.out _ _ rfl bR
  ·have e10 : vs 10 = _ := he ⟨10, .guard⟩ (by simp) rfl;rw [e10] at hK |-;rw [if_pos (by rfl)];simp only [gQ] at hK;have HK := hid hK;clear hK he hi hBW;go_simp;exact HK.out _ _ (by first | rfl | simp [pgD]) bR
  ·have e14 : vs 14 = _ := he ⟨14, .data⟩ (by simp) rfl;rw [e14] at hK |-;have e15 : vs 15 = _ := he ⟨15, .data⟩ (by simp) rfl;rw [e15] at hK |-;have e10 : vs 10 = _ := he ⟨10, .guard⟩ (by simp) rfl;rw [e10] at hK |-;rw [if_pos (by rfl)];simp only [gQ] at hK;have HK := hid hK;clear hK he hi hBW;go_simp;go_at_call 102
   refine (IS.out (j9 : Int) _ c W).mono ?_;rintro en w9 ⟨rfl, h⟩;rw [F2.out];go_simp;exact HK.out _ _ rfl h
  ·have e10 : vs 10 = _ := he ⟨10, .data⟩ (by simp) rfl;rw [e10] at hK |-;have e16 : vs 16 = _ := he ⟨16, .data⟩ (by simp) rfl;rw [e16] at hK |-;rw [if_pos (by rfl)];simp only [gQ] at hK;have HK := hid hK;clear hK he hi hBW;go_simp;exact HK.out _ _ (by first | rfl | simp [pgD]) bR
  ·have e17 : vs 17 = _ := he ⟨17, .data⟩ (by simp) rfl;rw [e17] at hK |-;rw [if_pos (by rfl)];simp only [gQ] at hK;have HK := hid hK;clear hK he hi hBW;go_simp;exact HK.out _ _ (by first | rfl | simp [pgD]) bR
  iterate 2 ·have e18 : vs 18 = _ := he ⟨18, .guard⟩ (by simp) rfl;rw [e18] at hK |-;rw [if_pos (by rfl)];simp only [gQ] at hK;have HK := hid hK;clear hK he hi hBW;go_simp;exact HK.out _ _ (by first | rfl | simp [pgD]) bR
  ·have e19 : vs 19 = _ := he ⟨19, .data⟩ (by simp) rfl;rw [e19] at hK |-;have e20 : vs 20 = _ := he ⟨20, .data⟩ (by simp) rfl;rw [e20] at hK |-;have e18 : vs 18 = _ := he ⟨18, .guard⟩ (by simp) rfl;rw [e18] at hK |-;rw [if_pos (by rfl)];simp only [gQ] at hK;have HK := hid hK;clear hK he hi hBW;go_simp;have f3 := F3.out;exact HK.out _ _ (by simp [pgD, f3]) bR
  ·have e18 : vs 18 = _ := he ⟨18, .data⟩ (by simp) rfl;rw [e18] at hK |-;have e21 : vs 21 = _ := he ⟨21, .data⟩ (by simp) rfl;rw [e21] at hK |-;rw [if_pos (by rfl)];simp only [gQ] at hK;have HK := hid hK;clear hK he hi hBW;go_simp;exact HK.out _ _ (by first | rfl | simp [pgD]) bR
  ·have e22 : vs 22 = _ := he ⟨22, .data⟩ (by simp) rfl;rw [e22] at hK |-;rw [if_pos (by rfl)];simp only [gQ] at hK;have HK := hid hK;clear hK he hi hBW;go_simp;exact HK.out _ _ (by first | rfl | simp [pgD]) bR
  ·have e23 : vs 23 = _ := he ⟨23, .guard⟩ (by simp) rfl;rw [e23] at hK |-;rw [if_pos (by rfl)];simp only [gQ] at hK;have HK := hid hK;clear hK he hi hBW;go_simp;exact HK.out _ _ (by first | rfl | simp [pgD]) bR
  ·have e24 : vs 24 = _ := he ⟨24, .data⟩ (by simp) rfl;rw [e24] at hK |-;have e23 : vs 23 = _ := he ⟨23, .guard⟩ (by simp) rfl;rw [e23] at hK |-;rw [if_pos (by rfl)];simp only [gQ] at hK;have HK := hid hK;clear hK he hi hBW;go_simp;exact HK.out _ _ (by first | rfl | simp [pgD]) bR
  ·have e25 : vs 25 = _ := he ⟨25, .data⟩ (by simp) rfl;rw [e25] at hK |-;have e23 : vs 23 = _ := he ⟨23, .guard⟩ (by simp) rfl;rw [e23] at hK |-;rw [if_pos (by rfl)];simp only [gQ] at hK;have HK := hid hK;clear hK he hi hBW;go_simp;exact HK.out _ _ (by first | rfl | simp [pgD]) bR
  ·have e26 : vs 26 = _ := he ⟨26, .data⟩ (by simp) rfl;rw [e26] at hK |-;have e23 : vs 23 = _ := he ⟨23, .guard⟩ (by simp) rfl;rw [e23] at hK |-;rw [if_pos (by rfl)];simp only [gQ] at hK;have HK := hid hK;clear hK he hi hBW;have c0 := C0W.out;go_simp;exact HK.out _ _ rfl bR
  ·have e23 : vs 23 = _ := he ⟨23, .guard⟩ (by simp) rfl;rw [e23] at hK |-;rw [if_pos (by rfl)];simp only [gQ] at hK;have HK := hid hK;clear hK he hi hBW;go_simp;exact HK.out _ _ (by first | rfl | simp [pgD]) bR
  ·have e27 : vs 27 = _ := he ⟨27, .data⟩ (by simp) rfl;rw [e27] at hK |-;have e28 : vs 28 = _ := he ⟨28, .data⟩ (by simp) rfl;rw [e28] at hK |-;have e23 : vs 23 = _ := he ⟨23, .guard⟩ (by simp) rfl;rw [e23] at hK |-;rw [if_pos (by rfl)];simp only [gQ] at hK;have HK := hid hK;clear hK he hi hBW;have fi := FI.out.1;have fi2 := FI.out.2;go_simp;exact HK.out _ _ (by simp [pgD]) bR
  ·have e29 : vs 29 = _ := he ⟨29, .data⟩ (by simp) rfl;rw [e29] at hK |-;have e23 : vs 23 = _ := he ⟨23, .guard⟩ (by simp) rfl;rw [e23] at hK |-;rw [if_pos (by rfl)];simp only [gQ] at hK;have HK := hid hK;clear hK he hi hBW;go_simp;exact HK.out _ _ (by first | rfl | simp [pgD]) bR
  ·have e30 : vs 30 = _ := he ⟨30, .data⟩ (by simp) rfl;rw [e30] at hK |-;have e23 : vs 23 = _ := he ⟨23, .guard⟩ (by simp) rfl;rw [e23] at hK |-;rw [if_pos (by rfl)];simp only [gQ] at hK;have HK := hid hK;clear hK he hi hBW;obtain ⟨d0, d1, d2, d3, d4, d5, d6, d7, d8, d9, d10, d11, d12, d13, d14⟩ := XW.out;go_simp;exact HK.out _ _ rfl bR
  ·have e23 : vs 23 = _ := he ⟨23, .guard⟩ (by simp) rfl;rw [e23] at hK |-;rw [if_pos (by rfl)];simp only [gQ] at hK;have HK := hid hK;clear hK he hi hBW;go_simp;exact HK.out _ _ (by first | rfl | simp [pgD]) bR
  ·have e32 : vs 32 = _ := he ⟨32, .data⟩ (by simp) rfl;rw [e32] at hK |-;have e23 : vs 23 = _ := he ⟨23, .guard⟩ (by simp) rfl;rw [e23] at hK |-;rw [if_pos (by rfl)];simp only [gQ] at hK;have HK := hid hK;clear hK he hi hBW;go_simp;exact HK.out _ _ (by first | rfl | simp [pgD]) bR
  ·have e33 : vs 33 = _ := he ⟨33, .data⟩ (by simp) rfl;rw [e33] at hK |-;have e23 : vs 23 = _ := he ⟨23, .guard⟩ (by simp) rfl;rw [e23] at hK |-;rw [if_pos (by rfl)];simp only [gQ] at hK;have HK := hid hK;clear hK he hi hBW;go_simp;exact HK.out _ _ (by first | rfl | simp [pgD]) bR
  ·have e34 : vs 34 = _ := he ⟨34, .data⟩ (by simp) rfl;rw [e34] at hK |-;have e23 : vs 23 = _ := he ⟨23, .guard⟩ (by simp) rfl;rw [e23] at hK |-;rw [if_pos (by rfl)];simp only [gQ] at hK;have HK := hid hK;clear hK he hi hBW;have c0 := C0W.out;go_simp;exact HK.out _ _ rfl bR
  ·have e23 : vs 23 = _ := he ⟨23, .guard⟩ (by simp) rfl;rw [e23] at hK |-;rw [if_pos (by rfl)];simp only [gQ] at hK;have HK := hid hK;clear hK he hi hBW;go_simp;exact HK.out _ _ (by first | rfl | simp [pgD]) bR
  ·have e35 : vs 35 = _ := he ⟨35, .data⟩ (by simp) rfl;rw [e35] at hK |-;have e36 : vs 36 = _ := he ⟨36, .data⟩ (by simp) rfl;rw [e36] at hK |-;have e23 : vs 23 = _ := he ⟨23, .guard⟩ (by simp) rfl;rw [e23] at hK |-;rw [if_pos (by rfl)];simp only [gQ] at hK;have HK := hid hK;clear hK he hi hBW;have fj := FJ.out.1;have fj2 := FJ.out.2;go_simp;exact HK.out _ _ (by simp [pgD]) bR
  ·have e37 : vs 37 = _ := he ⟨37, .data⟩ (by simp) rfl;rw [e37] at hK |-;have e23 : vs 23 = _ := he ⟨23, .guard⟩ (by simp) rfl;rw [e23] at hK |-;rw [if_pos (by rfl)];simp only [gQ] at hK;have HK := hid hK;clear hK he hi hBW;go_simp;exact HK.out _ _ (by first | rfl | simp [pgD]) bR
  ·have e38 : vs 38 = _ := he ⟨38, .data⟩ (by simp) rfl;rw [e38] at hK |-;have e23 : vs 23 = _ := he ⟨23, .guard⟩ (by simp) rfl;rw [e23] at hK |-;rw [if_pos (by rfl)];simp only [gQ] at hK;have HK := hid hK;clear hK he hi hBW;obtain ⟨d0, d1, d2, d3, d4, d5, d6, d7, d8, d9, d10, d11, d12, d13, d14⟩ := YW.out;go_simp;exact HK.out _ _ rfl bR
  ·have e31 : vs 31 = _ := he ⟨31, .data⟩ (by simp) rfl;rw [e31] at hK |-;have e39 : vs 39 = _ := he ⟨39, .data⟩ (by simp) rfl;rw [e39] at hK |-;have e23 : vs 23 = _ := he ⟨23, .guard⟩ (by simp) rfl;rw [e23] at hK |-;rw [if_pos (by rfl)];simp only [gQ] at hK;have HK := hid hK;clear hK he hi hBW;have OBW := OBX.out W BW.out;rw [EO.out] at OBW;unfold Pk.val at OBW;go_simp;go_at_call 178
   refine OBW.mono ?_;rintro en w9 ⟨rfl, h⟩;go_simp;exact HK.out _ _ rfl h
  ·have e23 : vs 23 = _ := he ⟨23, .data⟩ (by simp) rfl;rw [e23] at hK |-;have e40 : vs 40 = _ := he ⟨40, .data⟩ (by simp) rfl;rw [e40] at hK |-;rw [if_pos (by rfl)];simp only [gQ] at hK;have HK := hid hK;clear hK he hi hBW;go_simp;exact HK.out _ _ (by first | rfl | simp [pgD]) bR
  ·have e41 : vs 41 = _ := he ⟨41, .data⟩ (by simp) rfl;rw [e41] at hK |-;rw [if_pos (by rfl)];simp only [gQ] at hK;have HK := hid hK;clear hK he hi hBW;go_simp;exact HK.out _ _ (by first | rfl | simp [pgD]) bR
 ·intro vs W hall hBW;have e42 : vs 42 = .bool ob := (hall 42 (by decide) : pgD P n c (some ⟨b, o, none⟩) (i9 : Int) (j9 : Int) b o i9 j9 x y ob 42 (vs 42) W);simp only [qA2, gQ];rw [e42];have BW := hid hBW;clear hall hBW;go_wp2_with fail
  go_ret;exact ⟨rfl, BW.out⟩
