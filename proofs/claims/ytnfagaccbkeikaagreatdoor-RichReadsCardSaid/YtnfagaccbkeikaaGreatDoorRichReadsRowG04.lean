/- EvPlain -/
import Derived.Test.YtnfagaccbkeikaaGreatDoorRichReadsRowG02
import Derived.Lib.ItoaNum
import Derived.Lib.AtoiAll
import Derived.Lib.IndexMore
/- EVRs as texts, in plain terms: words, digits, what stands ahead of a byte and behind it; the EVR of a text. -/




namespace Go.Proofs.YtnfagaccbkeikaaGreatDoor
open Go.RowKit

def okI (n : Int) : Bool := decide ((97 ≤ n ∧ n ≤ 122) ∨ (65 ≤ n ∧ n ≤ 90) ∨ (48 ≤ n ∧ n ≤ 57) ∨ n = 46 ∨ n = 95 ∨ n = 43 ∨ n = 126 ∨ n = 94)
def okc (c : UInt8) : Bool := okI (c.toNat : Int)
def wordB (l : Bytes) : Bool := decide (1 ≤ l.length) && (decide (l.length ≤ 64) && l.all okc)
def mayB (e : Evr) (dep : Bool) : Bool := decide (0 ≤ e.epoch) && (decide (e.epoch ≤ 2147483647) && (wordB e.ver && (wordB e.rel || (dep && e.rel.isEmpty))))
def relL (r : Bytes) : Bytes := if r = [] then [] else 45 :: r
def showL (e : Evr) : Bytes := (if 0 < e.epoch then Lib.itoa e.epoch ++ [58] else []) ++ (e.ver ++ relL e.rel)
def IsEvr (s : Bytes) (e : Evr) : Prop := mayB e true = true ∧ showL e = s

theorem word_iff {l : Bytes} : wordB l = true ↔ 1 ≤ l.length ∧ l.length ≤ 64 ∧ ∀ c ∈ l, okc c = true := by
  unfold wordB; simp [List.all_eq_true]
theorem may_iff {e : Evr} : mayB e true = true ↔ 0 ≤ e.epoch ∧ e.epoch ≤ 2147483647 ∧ wordB e.ver = true ∧ (wordB e.rel = true ∨ e.rel = []) := by
  unfold mayB; simp [List.isEmpty_iff]
theorem word_no {l : Bytes} (h : wordB l = true) {d : UInt8} (hd : okc d = false) : d ∉ l := fun hm => by
  have := (word_iff.1 h).2.2 d hm
  rw [hd] at this
  cases this

/- digits -/
def dgt (c : UInt8) : Bool := decide (48 ≤ c.toNat ∧ c.toNat ≤ 57)
def vstep (a : Nat) (c : UInt8) : Nat := a * 10 + (c.toNat - 48)
def vfrom (a : Nat) (l : Bytes) : Nat := l.foldl vstep a
theorem vfrom_nil (a : Nat) : vfrom a [] = a := rfl
theorem vstep_def (a : Nat) (c : UInt8) : vstep a c = a * 10 + (c.toNat - 48) := by unfold vstep; rfl
theorem vfrom_cons (a : Nat) (c : UInt8) (l : Bytes) : vfrom a (c :: l) = vfrom (a * 10 + (c.toNat - 48)) l := by
  rw [← vstep_def]; unfold vfrom; rw [List.foldl_cons]
theorem vfrom_app (a : Nat) (l m : Bytes) : vfrom a (l ++ m) = vfrom (vfrom a l) m := by unfold vfrom; exact List.foldl_append
theorem vfrom_ge (l : Bytes) : ∀ a : Nat, a ≤ vfrom a l := by
  induction l with
  | nil => intro a; exact Nat.le_refl _
  | cons c l ih =>
    intro a
    rw [vfrom_cons]
    have := ih (a * 10 + (c.toNat - 48))
    omega
theorem dig_toNat {u : Nat} (h : u < 10) : (UInt8.ofNat (48 + u)).toNat = 48 + u := by rw [UInt8.toNat_ofNat']; omega
theorem dec_dgt (u : Nat) : ∀ c ∈ Lib.decDigits u, dgt c = true := by
  induction u using Nat.strongRecOn with
  | ind u ih =>
    rw [Lib.decDigits]
    split
    · rename_i h
      intro c hc
      rw [List.mem_singleton] at hc
      subst hc
      unfold dgt
      rw [dig_toNat h]
      exact decide_eq_true (by omega)
    · rename_i h
      intro c hc
      rcases List.mem_append.1 hc with hc | hc
      · exact ih (u / 10) (by omega) c hc
      · rw [List.mem_singleton] at hc
        subst hc
        unfold dgt
        rw [dig_toNat (by omega)]
        exact decide_eq_true (by omega)
theorem dec_val (u : Nat) : vfrom 0 (Lib.decDigits u) = u := by
  induction u using Nat.strongRecOn with
  | ind u ih =>
    rw [Lib.decDigits]
    split
    · rename_i h
      rw [vfrom_cons, vfrom_nil, dig_toNat h]; omega
    · rename_i h
      rw [vfrom_app, ih (u / 10) (by omega)]
      rw [vfrom_cons, vfrom_nil, dig_toNat (by omega)]; omega
theorem dec_head (u : Nat) : 0 < u → ∃ c r, Lib.decDigits u = c :: r ∧ c.toNat ≠ 48 := by
  induction u using Nat.strongRecOn with
  | ind u ih =>
    intro hu
    rw [Lib.decDigits]
    split
    · rename_i h
      exact ⟨_, [], rfl, by rw [dig_toNat h]; omega⟩
    · rename_i h
      obtain ⟨c, r, e, hc⟩ := ih (u / 10) (by omega) (by omega)
      exact ⟨c, _, by rw [e]; rfl, hc⟩
theorem dec_len : ∀ (k u : Nat), u < 10 ^ (k + 1) → (Lib.decDigits u).length ≤ k + 1
  | 0, u, h => by rw [Lib.decDigits, dif_pos (by simpa using h)]; simp
  | k + 1, u, h => by
    rw [Lib.decDigits]
    split
    · simp
    · have h2 : u / 10 < 10 ^ (k + 1) := by rw [Nat.pow_succ] at h; omega
      have := dec_len k (u / 10) h2
      simp; omega
theorem dec_back : ∀ (n : Nat) (l : Bytes), l.length = n → l ≠ [] → (∀ c ∈ l, dgt c = true) → l.head?.map (·.toNat) ≠ some 48 → Lib.decDigits (vfrom 0 l) = l := by
  intro n
  induction n with
  | zero => intro l hl hne; exact absurd (List.eq_nil_of_length_eq_zero hl) hne
  | succ n ih =>
    intro l hl hne hd hh
    obtain ⟨r, c, rfl⟩ : ∃ r c, l = r ++ [c] := ⟨_, _, (List.dropLast_concat_getLast hne).symm⟩
    have hc := hd c (by simp)
    unfold dgt at hc
    have hc := of_decide_eq_true hc
    have e48 : UInt8.ofNat (48 + (c.toNat - 48)) = c := by
      apply UInt8.toNat_inj.1
      rw [dig_toNat (by omega)]; omega
    rw [vfrom_app, vfrom_cons, vfrom_nil]
    by_cases hr : r = []
    · subst hr
      rw [vfrom_nil, Lib.decDigits, dif_pos (by omega)]
      rw [show 48 + (0 * 10 + (c.toNat - 48)) = 48 + (c.toNat - 48) by omega, e48]; rfl
    · have hge : 1 ≤ vfrom 0 r := by
        cases r with
        | nil => exact absurd rfl hr
        | cons x r =>
          have := vfrom_ge r (0 * 10 + (x.toNat - 48))
          have hx := hd x (by simp)
          unfold dgt at hx
          have hx := of_decide_eq_true hx
          have hx2 : x.toNat ≠ 48 := by simpa using hh
          rw [vfrom_cons]; omega
      have hi := ih r (by simpa using hl) hr (fun x hx => hd x (by simp [hx])) (by
        cases r with
        | nil => exact absurd rfl hr
        | cons x r => simpa using hh)
      rw [Lib.decDigits, dif_neg (by omega)]
      rw [show (vfrom 0 r * 10 + (c.toNat - 48)) / 10 = vfrom 0 r by omega, hi, show (vfrom 0 r * 10 + (c.toNat - 48)) % 10 = c.toNat - 48 by omega, e48]
theorem parse_ok : ∀ (l : Bytes) (a : Nat), (∀ c ∈ l, dgt c = true) → vfrom a l < 1000000000000000000 → Lib.parseUint10 a l = .ok (vfrom a l)
  | [], a, _, _ => rfl
  | c :: l, a, hd, hv => by
    have hc := hd c (by simp)
    unfold dgt at hc
    have hc := of_decide_eq_true hc
    rw [vfrom_cons] at hv ⊢
    have hge := vfrom_ge l (a * 10 + (c.toNat - 48))
    simp only [Lib.parseUint10]
    rw [if_pos hc, if_neg (by omega), if_neg (by omega)]
    exact parse_ok l _ (fun x hx => hd x (by simp [hx])) hv
theorem atoi_dec (u : Nat) (h0 : 0 < u) (h : u ≤ 2147483647) : Lib.atoiAll (Lib.decDigits u) = .ok (u : Int) := by
  obtain ⟨c, r, e, hc⟩ := dec_head u h0
  have hd := dec_dgt u
  have hv := dec_val u
  have hp := parse_ok (Lib.decDigits u) 0 hd (by omega)
  rw [hv] at hp
  rw [e] at hd hp ⊢
  have hc := hd c (by simp)
  unfold dgt at hc
  have hc := of_decide_eq_true hc
  unfold Lib.atoiAll
  dsimp only
  rw [if_neg (by omega)]
  unfold Lib.parseMag
  rw [if_neg (by simp), hp]
  dsimp only
  rw [if_neg (by omega), if_neg (by omega), if_neg (by omega)]

/- what stands ahead of a byte, and behind it -/
theorem index_here (d : UInt8) (b : Bytes) : ∀ a : Bytes, d ∉ a → Lib.index (a ++ d :: b) [d] = (a.length : Int)
  | [], _ => by simp [Lib.index]
  | c :: a, h => by
    have hc : ¬ d = c := fun e => h (by simp [e])
    have ih := index_here d b a (fun hm => h (by simp [hm]))
    simp only [List.cons_append, Lib.index]
    rw [if_neg (by simp [hc]), ih, if_neg (by simp)]
    simp
theorem index_no (d : UInt8) : ∀ a : Bytes, d ∉ a → Lib.index a [d] = -1
  | [], _ => by simp [Lib.index]
  | c :: a, h => by
    have hc : ¬ d = c := fun e => h (by simp [e])
    have ih := index_no d a (fun hm => h (by simp [hm]))
    simp only [Lib.index]
    rw [if_neg (by simp [hc]), ih]; rfl
theorem cut_here {d : UInt8} {a b : Bytes} (h : d ∉ a) : Lib.cut (a ++ d :: b) [d] = (a, b, true) := by
  unfold Lib.cut
  rw [index_here d b a h, if_pos (by omega)]
  simp
theorem cut_no {d : UInt8} {a : Bytes} (h : d ∉ a) : Lib.cut a [d] = (a, [], false) := by
  unfold Lib.cut
  rw [index_no d a h, if_neg (by omega)]
theorem cut_cases (d : UInt8) : ∀ s : Bytes, (∃ a b, s = a ++ d :: b ∧ d ∉ a) ∨ d ∉ s
  | [] => .inr (by simp)
  | c :: s => by
    by_cases hc : d = c
    · exact .inl ⟨[], s, by rw [hc]; rfl, by simp⟩
    · rcases cut_cases d s with ⟨a, b, e, h⟩ | h
      · exact .inl ⟨c :: a, b, by rw [e]; rfl, by simp [hc, h]⟩
      · exact .inr (by simp [hc, h])

/- the EVR of a text: as the program looks for it -/
def behind (n : Int) (t : Bytes) : Evr := ⟨n, (Lib.cut t [45]).1, (Lib.cut t [45]).2.1⟩
def pcand (s : Bytes) : Option Evr :=
  if (Lib.cut s [58]).2.2 = true then (match Lib.atoiAll (Lib.cut s [58]).1 with | .ok n => some (behind n (Lib.cut s [58]).2.1) | _ => none) else some (behind 0 s)
def evOf (s : Bytes) : Option Evr :=
  match pcand s with
  | some e => if mayB e true = true ∧ showL e = s then some e else none
  | none => none
theorem behind_of {n : Int} {v r : Bytes} (hv : (45 : UInt8) ∉ v) : behind n (v ++ relL r) = ⟨n, v, r⟩ := by
  unfold behind relL
  split
  · rename_i h; subst h; rw [List.append_nil, cut_no hv]
  · rw [cut_here hv]
theorem pcand_of {s : Bytes} {e : Evr} (h : IsEvr s e) : pcand s = some e := by
  obtain ⟨hm, hs⟩ := h
  obtain ⟨h0, h1, hv, hr⟩ := may_iff.1 hm
  have v58 : (58 : UInt8) ∉ e.ver := word_no hv (by decide)
  have v45 : (45 : UInt8) ∉ e.ver := word_no hv (by decide)
  have r58 : (58 : UInt8) ∉ relL e.rel := by
    unfold relL
    split
    · simp
    · rcases hr with hr | hr
      · simp; exact word_no hr (by decide)
      · rename_i h; exact absurd hr h
  unfold pcand
  by_cases hp : 0 < e.epoch
  · obtain ⟨u, hu⟩ := Int.eq_ofNat_of_zero_le h0
    have d58 : (58 : UInt8) ∉ Lib.decDigits u := fun hm => by
      have := dec_dgt u _ hm
      exact absurd this (by decide)
    have hs2 : s = Lib.decDigits u ++ 58 :: (e.ver ++ relL e.rel) := by
      rw [← hs]
      unfold showL
      rw [if_pos hp, hu]
      unfold Lib.itoa
      rw [if_neg (by omega)]
      simp
    rw [hs2, cut_here d58]
    dsimp only
    rw [if_pos rfl, atoi_dec u (by omega) (by omega)]
    dsimp only
    rw [behind_of v45, ← hu]
  · have hs2 : s = e.ver ++ relL e.rel := by rw [← hs]; unfold showL; rw [if_neg hp]; rfl
    have he : e.epoch = 0 := by omega
    rw [hs2, cut_no (by simp [v58, r58])]
    dsimp only
    rw [if_neg (by simp), behind_of v45, ← he]
theorem evOf_iff {s : Bytes} {e : Evr} : evOf s = some e ↔ IsEvr s e := by
  constructor
  · intro h
    unfold evOf at h
    split at h
    · split at h
      · rename_i h2; cases h; exact h2
      · cases h
    · cases h
  · intro h
    unfold evOf
    rw [pcand_of h]
    dsimp only
    rw [if_pos ⟨h.1, h.2⟩]
theorem showL_len {e : Evr} (h : mayB e true = true) : (showL e).length ≤ 140 := by
  obtain ⟨h0, h1, hv, hr⟩ := may_iff.1 h
  have h2 := (word_iff.1 hv).2.1
  have h3 : e.rel.length ≤ 64 := by
    rcases hr with hr | hr
    · exact (word_iff.1 hr).2.1
    · rw [hr]; simp
  have h4 : (relL e.rel).length ≤ 65 := by
    unfold relL
    split
    · simp
    · simp; omega
  unfold showL
  split
  · obtain ⟨u, hu⟩ := Int.eq_ofNat_of_zero_le h0
    have h5 : (Lib.itoa e.epoch).length ≤ 10 := by
      rw [hu]
      unfold Lib.itoa
      rw [if_neg (by omega)]
      exact dec_len 9 _ (by simp; omega)
    simp; omega
  · simp; omega
/- the EVR of a text: as the document looks for it -/
def rnum (a : Bytes) : Bool := decide (1 ≤ a.length) && (decide (a.length ≤ 10) && (!(a.head?.map (·.toNat) == some 48) && a.all dgt))
def rfin (n : Int) (t : Bytes) : Option Evr := if ((Lib.cut t [45]).2.2 = true ∧ (Lib.cut t [45]).2.1 = []) ∨ mayB (behind n t) true = false then none else some (behind n t)
def rOf (s : Bytes) : Option Evr :=
  if 200 < s.length then none else
  if (Lib.cut s [58]).2.2 = true then (if rnum (Lib.cut s [58]).1 = true then rfin (vfrom 0 (Lib.cut s [58]).1 : Nat) (Lib.cut s [58]).2.1 else none) else rfin 0 s
theorem rfin_of {n : Int} {v r : Bytes} (hv : (45 : UInt8) ∉ v) (hm : mayB ⟨n, v, r⟩ true = true) : rfin n (v ++ relL r) = some ⟨n, v, r⟩ := by
  unfold rfin
  rw [behind_of hv, hm]
  rw [if_neg]
  unfold relL
  split
  · rw [List.append_nil, cut_no hv]; simp
  · rename_i h; rw [cut_here hv]; simp [h]
theorem rfin_some {n : Int} {t : Bytes} {e : Evr} (h : rfin n t = some e) : mayB e true = true ∧ e.epoch = n ∧ t = e.ver ++ relL e.rel := by
  unfold rfin at h
  split at h
  · cases h
  · rename_i h2
    cases h
    refine ⟨by cases hb : mayB (behind n t) true with | true => rfl | false => exact absurd (.inr hb) h2, rfl, ?_⟩
    rcases cut_cases 45 t with ⟨a, b, rfl, ha⟩ | ha
    · have hb : b ≠ [] := fun hb => h2 (.inl (by rw [cut_here ha]; exact ⟨rfl, hb⟩))
      unfold behind
      rw [cut_here ha]
      dsimp only
      unfold relL
      rw [if_neg hb]
    · unfold behind
      rw [cut_no ha]
      dsimp only
      unfold relL
      rw [if_pos rfl, List.append_nil]
theorem rOf_iff {s : Bytes} {e : Evr} : rOf s = some e ↔ IsEvr s e := by
  constructor
  · intro h
    unfold rOf at h
    split at h
    · cases h
    · split at h
      · rename_i hcut
        split at h
        · rename_i hnum
          rcases cut_cases 58 s with ⟨a, b, rfl, ha⟩ | ha
          · rw [cut_here ha] at hnum h
            dsimp only at hnum h
            obtain ⟨hm, he, ht⟩ := rfin_some h
            refine ⟨hm, ?_⟩
            unfold rnum at hnum
            simp only [Bool.and_eq_true, decide_eq_true_eq, Bool.not_eq_true', List.all_eq_true, beq_eq_false_iff_ne, ne_eq] at hnum
            obtain ⟨n1, _, n3, n4⟩ := hnum
            have hne : a ≠ [] := by rintro rfl; simp at n1
            have hb := dec_back _ a rfl hne n4 n3
            have hpos : 0 < vfrom 0 a := by
              cases a with
              | nil => exact absurd rfl hne
              | cons x r =>
                have := vfrom_ge r (0 * 10 + (x.toNat - 48))
                have hx := n4 x (by simp)
                unfold dgt at hx
                have hx := of_decide_eq_true hx
                have hx2 : x.toNat ≠ 48 := by simpa using n3
                rw [vfrom_cons]; omega
            unfold showL
            rw [he, if_pos (by omega), ← ht]
            unfold Lib.itoa
            rw [if_neg (by omega), Int.toNat_natCast, hb]
            simp
          · rw [cut_no ha] at hcut; cases hcut
        · cases h
      · obtain ⟨hm, he, ht⟩ := rfin_some h
        refine ⟨hm, ?_⟩
        unfold showL
        rw [he, if_neg (by omega), ← ht]; rfl
  · intro h
    have hlen := showL_len h.1
    rw [h.2] at hlen
    obtain ⟨hm, hs⟩ := h
    obtain ⟨h0, h1, hv, hr⟩ := may_iff.1 hm
    have v58 : (58 : UInt8) ∉ e.ver := word_no hv (by decide)
    have v45 : (45 : UInt8) ∉ e.ver := word_no hv (by decide)
    have r58 : (58 : UInt8) ∉ relL e.rel := by
      unfold relL
      split
      · simp
      · rcases hr with hr | hr
        · simp; exact word_no hr (by decide)
        · rename_i h; exact absurd hr h
    unfold rOf
    rw [if_neg (by omega)]
    by_cases hp : 0 < e.epoch
    · obtain ⟨u, hu⟩ := Int.eq_ofNat_of_zero_le h0
      have d58 : (58 : UInt8) ∉ Lib.decDigits u := fun hm => by
        have := dec_dgt u _ hm
        exact absurd this (by decide)
      have hs2 : s = Lib.decDigits u ++ 58 :: (e.ver ++ relL e.rel) := by
        rw [← hs]
        unfold showL
        rw [if_pos hp, hu]
        unfold Lib.itoa
        rw [if_neg (by omega)]
        simp
      rw [hs2, cut_here d58]
      dsimp only
      have hnum : rnum (Lib.decDigits u) = true := by
        obtain ⟨c, r, ec, hc⟩ := dec_head u (by omega)
        have hl := dec_len 9 u (by simp; omega)
        have hd := dec_dgt u
        unfold rnum
        simp only [Bool.and_eq_true, decide_eq_true_eq, Bool.not_eq_true', List.all_eq_true, beq_eq_false_iff_ne, ne_eq]
        refine ⟨by rw [ec]; simp, hl, by rw [ec]; simpa using hc, hd⟩
      rw [if_pos rfl, if_pos hnum, dec_val, ← hu]
      exact rfin_of v45 hm
    · have hs2 : s = e.ver ++ relL e.rel := by rw [← hs]; unfold showL; rw [if_neg hp]; rfl
      have he : (0 : Int) = e.epoch := by omega
      rw [hs2, cut_no (by simp [v58, r58])]
      dsimp only
      rw [if_neg (by simp), he]
      exact rfin_of v45 hm
theorem rOf_eq (s : Bytes) : rOf s = evOf s := by
  cases h : evOf s with
  | some e => exact rOf_iff.2 (evOf_iff.1 h)
  | none =>
    cases h2 : rOf s with
    | none => rfl
    | some e => rw [evOf_iff.2 (rOf_iff.1 h2)] at h; cases h
end Go.Proofs.YtnfagaccbkeikaaGreatDoor
