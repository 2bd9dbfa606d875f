/- Plain dependencies as texts, in plain terms: names, words, what stands between spaces; the dependency of words, of a text. -/
import Derived.Test.YtpnnhhgojijlbaaDoorEvParse
import Derived.Test.YtpnnhhgojijlbaaDoorSpOps
import Derived.Lib.Split
import Derived.Lib.SplitLaws
import Derived.Lib.Join
namespace Go.Proofs.YtpnnhhgojijlbaaDoor
open Go.RowKit

def sgnI (n : Int) : Bool := decide ((97 ≤ n ∧ n ≤ 122) ∨ (65 ≤ n ∧ n ≤ 90) ∨ (48 ≤ n ∧ n ≤ 57) ∨ n = 46 ∨ n = 95 ∨ n = 43 ∨ n = 45 ∨ n = 47 ∨ n = 58 ∨ n = 64 ∨ n = 126 ∨ n = 94)
def sgn (c : UInt8) : Bool := sgnI (c.toNat : Int)
def noNames : List Bytes := [[97, 110, 100], [111, 114], [105, 102], [101, 108, 115, 101], [117, 110, 108, 101, 115, 115], [119, 105, 116, 104], [119, 105, 116, 104, 111, 117, 116]]
def nameB (l : Bytes) : Bool := decide (1 ≤ l.length) && (decide (l.length ≤ 64) && (l.all sgn && !noNames.contains l))
def fileB (l : Bytes) : Bool := nameB l && (l.head? == some 47)
def isZero (e : Evr) : Bool := e.epoch == 0 && (e.ver.isEmpty && e.rel.isEmpty)
def dmayB (d : Dp) : Bool := nameB d.name && (opMay d.op && (if d.op = 0 then isZero d.evr else !fileB d.name && mayB d.evr true))
def dwords (d : Dp) : List Bytes := if d.op = 0 then [d.name] else [d.name, opText d.op, showL d.evr]
def joinSp : List Bytes → Bytes
  | [] => []
  | [a] => a
  | a :: b :: l => a ++ 32 :: joinSp (b :: l)
def splitSp : Bytes → List Bytes
  | [] => [[]]
  | c :: l => if c = 32 then [] :: splitSp l else match splitSp l with | [] => [[c]] | a :: r => (c :: a) :: r
def dpOf (l : List Bytes) : Option Dp :=
  match l with
  | [n] => if dmayB ⟨n, 0, zeroE⟩ = true then some ⟨n, 0, zeroE⟩ else none
  | [n, o, v] => match evOf v with
    | some e => if (opOf o).2 = true ∧ (opOf o).1 ≠ 0 ∧ dmayB ⟨n, (opOf o).1, e⟩ = true then some ⟨n, (opOf o).1, e⟩ else none
    | none => none
  | _ => none

theorem name_iff {l : Bytes} : nameB l = true ↔ 1 ≤ l.length ∧ l.length ≤ 64 ∧ (∀ c ∈ l, sgn c = true) ∧ l ∉ noNames := by
  unfold nameB; simp [List.all_eq_true]
theorem zero_iff {e : Evr} : isZero e = true ↔ e = zeroE := by
  obtain ⟨p, v, l⟩ := e
  unfold isZero zeroE
  simp [List.isEmpty_iff]
theorem dmay_iff {d : Dp} : dmayB d = true ↔ nameB d.name = true ∧ opMay d.op = true ∧ ((d.op = 0 ∧ d.evr = zeroE) ∨ (d.op ≠ 0 ∧ fileB d.name = false ∧ mayB d.evr true = true)) := by
  unfold dmayB
  by_cases h : d.op = 0
  · simp [h, zero_iff]
  · simp [h]
theorem opMay_cases {n : Int} (h : opMay n = true) : n = 0 ∨ n = 1 ∨ n = 2 ∨ n = 3 ∨ n = 4 ∨ n = 6 := by
  unfold opMay at h; simpa [or_assoc] using h
theorem opOf_text {n : Int} (h : opMay n = true) (h0 : n ≠ 0) : opOf (opText n) = (n, true) := by
  rcases opMay_cases h with rfl | rfl | rfl | rfl | rfl | rfl
  · exact absurd rfl h0
  all_goals decide
theorem opText_of {s : Bytes} (h : (opOf s).2 = true) (h0 : (opOf s).1 ≠ 0) : opText (opOf s).1 = s ∧ opMay (opOf s).1 = true := by
  unfold opOf at h h0 ⊢
  split at h
  · rename_i e; rw [if_pos e] at h0; exact absurd rfl h0
  · rename_i e0
    rw [if_neg e0] at h0 ⊢
    split at h
    · rename_i e; rw [if_pos e]; subst e; exact ⟨rfl, rfl⟩
    · rename_i e1
      rw [if_neg e1] at h0 ⊢
      split at h
      · rename_i e; rw [if_pos e]; subst e; exact ⟨rfl, rfl⟩
      · rename_i e2
        rw [if_neg e2] at h0 ⊢
        split at h
        · rename_i e; rw [if_pos e]; subst e; exact ⟨rfl, rfl⟩
        · rename_i e3
          rw [if_neg e3] at h0 ⊢
          split at h
          · rename_i e; rw [if_pos e]; subst e; exact ⟨rfl, rfl⟩
          · rename_i e4
            rw [if_neg e4] at h0 ⊢
            split at h
            · rename_i e; rw [if_pos e]; subst e; exact ⟨rfl, rfl⟩
            · cases h
/-- the dependency of a dependency's words -/
theorem dpOf_words {d : Dp} (h : dmayB d = true) : dpOf (dwords d) = some d := by
  obtain ⟨h1, h2, h3⟩ := dmay_iff.1 h
  obtain ⟨n, o, e⟩ := d
  dsimp only at h1 h2 h3
  rcases h3 with ⟨rfl, rfl⟩ | ⟨h0, hf, hm⟩
  · unfold dwords
    rw [if_pos rfl]
    unfold dpOf
    dsimp only
    rw [if_pos h]
  · unfold dwords
    dsimp only
    rw [if_neg h0]
    unfold dpOf
    dsimp only
    rw [evOf_iff.2 ⟨hm, rfl⟩]
    dsimp only
    rw [opOf_text h2 h0, if_pos ⟨rfl, h0, h⟩]
theorem words_dpOf {l : List Bytes} {d : Dp} (h : dpOf l = some d) : dmayB d = true ∧ dwords d = l := by
  unfold dpOf at h
  split at h
  · split at h
    · rename_i hm
      cases h
      exact ⟨hm, by unfold dwords; rw [if_pos rfl]⟩
    · cases h
  · split at h
    · rename_i e he
      split at h
      · rename_i hm
        cases h
        refine ⟨hm.2.2, ?_⟩
        unfold dwords
        dsimp only
        rw [if_neg hm.2.1, (opText_of hm.1 hm.2.1).1, (evOf_iff.1 he).2]
      · cases h
    · cases h
  · cases h

/- what stands between spaces -/
theorem split_ne (s : Bytes) : splitSp s ≠ [] := by
  cases s with
  | nil => simp [splitSp]
  | cons c l =>
    unfold splitSp
    split
    · simp
    · split <;> simp
theorem join_split (s : Bytes) : joinSp (splitSp s) = s := by
  induction s with
  | nil => rfl
  | cons c l ih =>
    unfold splitSp
    have hne := split_ne l
    split
    · rename_i h
      subst h
      cases hl : splitSp l with
      | nil => exact absurd hl hne
      | cons a r => rw [hl] at ih; simp only [joinSp, List.nil_append]; rw [ih]
    · cases hl : splitSp l with
      | nil => exact absurd hl hne
      | cons a r =>
        rw [hl] at ih
        dsimp only
        cases r with
        | nil => simp only [joinSp] at ih ⊢; rw [ih]
        | cons b r => simp only [joinSp] at ih ⊢; rw [← ih]; rfl
theorem split_app : ∀ (a l : Bytes), (32 : UInt8) ∉ a → splitSp (a ++ 32 :: l) = a :: splitSp l
  | [], l, _ => by simp [splitSp]
  | c :: a, l, h => by
    have hc : ¬ c = 32 := fun e => h (by simp [e])
    have ih := split_app a l (fun hm => h (by simp [hm]))
    simp only [List.cons_append, splitSp]
    rw [if_neg hc, ih]
theorem split_one : ∀ (a : Bytes), (32 : UInt8) ∉ a → splitSp a = [a]
  | [], _ => rfl
  | c :: a, h => by
    have hc : ¬ c = 32 := fun e => h (by simp [e])
    have ih := split_one a (fun hm => h (by simp [hm]))
    simp only [splitSp]
    rw [if_neg hc, ih]
theorem split_join : ∀ (l : List Bytes), l ≠ [] → (∀ w ∈ l, (32 : UInt8) ∉ w) → splitSp (joinSp l) = l
  | [], h, _ => absurd rfl h
  | [a], _, h => split_one a (h a (by simp))
  | a :: b :: l, _, h => by
    simp only [joinSp]
    rw [split_app a _ (h a (by simp)), split_join (b :: l) (by simp) (fun w hw => h w (by simp [List.mem_cons.1 hw]))]
theorem split_len (s : Bytes) : (splitSp s).length = s.count 32 + 1 := by
  induction s with
  | nil => rfl
  | cons c l ih =>
    unfold splitSp
    split
    · rename_i h; subst h; simp [ih]
    · rename_i h
      have hne := split_ne l
      cases hl : splitSp l with
      | nil => exact absurd hl hne
      | cons a r =>
        rw [hl] at ih
        rw [List.count_cons_of_ne (fun e => h e), ← ih]
        rfl
/- bytes that stand in words -/
theorem sgn_no {l : Bytes} (h : nameB l = true) {c : UInt8} (hc : sgn c = false) : c ∉ l := fun hm => by
  have := (name_iff.1 h).2.2.1 c hm
  rw [hc] at this; cases this
def opc (c : UInt8) : Bool := c == 60 || c == 61 || c == 62
theorem opText_opc (n : Int) : ∀ c ∈ opText n, opc c = true := by
  unfold opText
  repeat' split
  all_goals decide
theorem okc_sgn {c : UInt8} (h : okc c = true) : sgn c = true := by
  unfold okc okI at h
  unfold sgn sgnI
  have h := of_decide_eq_true h
  exact decide_eq_true (by omega)
theorem dgt_sgn {c : UInt8} (h : dgt c = true) : sgn c = true := by
  unfold dgt at h
  unfold sgn sgnI
  have h := of_decide_eq_true h
  exact decide_eq_true (by omega)
theorem showL_sgn {e : Evr} (h : mayB e true = true) : ∀ c ∈ showL e, sgn c = true := by
  obtain ⟨h0, h1, hv, hr⟩ := may_iff.1 h
  intro c hc
  unfold showL at hc
  rcases List.mem_append.1 hc with hc | hc
  · split at hc
    · rcases List.mem_append.1 hc with hc | hc
      · obtain ⟨u, hu⟩ := Int.eq_ofNat_of_zero_le h0
        rw [hu] at hc
        unfold Lib.itoa at hc
        rw [if_neg (by omega)] at hc
        exact dgt_sgn (dec_dgt _ c hc)
      · rw [List.mem_singleton] at hc; subst hc; decide
    · cases hc
  · rcases List.mem_append.1 hc with hc | hc
    · exact okc_sgn ((word_iff.1 hv).2.2 c hc)
    · unfold relL at hc
      split at hc
      · cases hc
      · rename_i hne
        rcases List.mem_cons.1 hc with rfl | hc
        · decide
        · rcases hr with hr | hr
          · exact okc_sgn ((word_iff.1 hr).2.2 c hc)
          · exact absurd hr hne
theorem dwords_no {d : Dp} (h : dmayB d = true) {c : UInt8} (h1 : sgn c = false) (h2 : opc c = false) : ∀ w ∈ dwords d, c ∉ w := by
  obtain ⟨hn, ho, h3⟩ := dmay_iff.1 h
  intro w hw
  unfold dwords at hw
  split at hw
  · rw [List.mem_singleton] at hw; subst hw; exact sgn_no hn h1
  · rename_i h0
    rcases h3 with ⟨h3, _⟩ | ⟨_, _, hm⟩
    · exact absurd h3 h0
    · simp only [List.mem_cons, List.not_mem_nil, or_false] at hw
      rcases hw with rfl | rfl | rfl
      · exact sgn_no hn h1
      · intro hm; have := opText_opc _ c hm; rw [h2] at this; cases this
      · intro hc; have := showL_sgn hm c hc; rw [h1] at this; cases this
theorem dwords_ne (d : Dp) : dwords d ≠ [] := by unfold dwords; split <;> simp
theorem dwords_len (d : Dp) : (dwords d).length = 1 ∨ (dwords d).length = 3 := by unfold dwords; split <;> simp
theorem split_dwords {d : Dp} (h : dmayB d = true) : splitSp (joinSp (dwords d)) = dwords d := split_join _ (dwords_ne d) (dwords_no h (by decide) (by decide))
/-- the text's dependency -/
def dpText (d : Dp) : Bytes := joinSp (dwords d)
theorem dp_back {d : Dp} (h : dmayB d = true) : dpOf (splitSp (dpText d)) = some d := by unfold dpText; rw [split_dwords h, dpOf_words h]
theorem dp_there {s : Bytes} {d : Dp} (h : dpOf (splitSp s) = some d) : dmayB d = true ∧ dpText d = s := by
  obtain ⟨h1, h2⟩ := words_dpOf h
  exact ⟨h1, by unfold dpText; rw [h2, join_split]⟩
theorem joinSp_mem {c : UInt8} : ∀ (l : List Bytes), c ∈ joinSp l → c = 32 ∨ ∃ w ∈ l, c ∈ w
  | [], h => by cases h
  | [a], h => .inr ⟨a, by simp, h⟩
  | a :: b :: l, h => by
    simp only [joinSp] at h
    rcases List.mem_append.1 h with h | h
    · exact .inr ⟨a, by simp, h⟩
    · rcases List.mem_cons.1 h with h | h
      · exact .inl h
      · rcases joinSp_mem (b :: l) h with h | ⟨w, hw, h⟩
        · exact .inl h
        · exact .inr ⟨w, by simp [List.mem_cons.1 hw], h⟩
theorem count_32 {d : Dp} (h : dmayB d = true) : (dpText d).count 32 = 0 ∨ (dpText d).count 32 = 2 := by
  have h1 := split_len (dpText d)
  have h2 : splitSp (dpText d) = dwords d := split_dwords h
  rw [h2] at h1
  rcases dwords_len d with h3 | h3 <;> omega
/-- a space, or a sign that is none, put in: no text -/
theorem dp_put {d : Dp} (h : dmayB d = true) (k : Nat) (c : UInt8) (hc : sgn c = false) (hc2 : opc c = false) : dpOf (splitSp ((dpText d).take k ++ c :: (dpText d).drop k)) = none := by
  cases hx : dpOf (splitSp ((dpText d).take k ++ c :: (dpText d).drop k)) with
  | none => rfl
  | some x =>
    exfalso
    obtain ⟨h1, h2⟩ := dp_there hx
    have hm : c ∈ dpText x := by rw [h2]; simp
    rcases joinSp_mem _ hm with rfl | ⟨w, hw, hcw⟩
    · have c1 := count_32 h
      have c2 := count_32 h1
      rw [h2] at c2
      have e : (dpText d).count 32 = ((dpText d).take k).count 32 + ((dpText d).drop k).count 32 := by rw [← List.count_append, List.take_append_drop]
      rw [List.count_append, List.count_cons_self] at c2
      omega
    · exact dwords_no h1 hc hc2 w hw hcw
theorem dpText_len {d : Dp} (h : dmayB d = true) : 1 ≤ (dpText d).length ∧ (dpText d).length ≤ 210 := by
  obtain ⟨hn, ho, h3⟩ := dmay_iff.1 h
  obtain ⟨n1, n2, _⟩ := name_iff.1 hn
  unfold dpText dwords
  split
  · simp only [joinSp]; omega
  · rename_i h0
    rcases h3 with ⟨h3, _⟩ | ⟨_, _, hm⟩
    · exact absurd h3 h0
    · have := showL_len hm
      have ht : (opText d.op).length ≤ 2 := by unfold opText; repeat' split
                                               all_goals decide
      simp only [joinSp, List.length_append, List.length_cons]
      omega
/-- by parts -/
theorem dmay_parts (d : Dp) : dmayB d = (nameB d.name && (opMay d.op && ((d.op == 0 && isZero d.evr) || (!(d.op == 0) && (mayB d.evr true && !fileB d.name))))) := by
  unfold dmayB
  by_cases h : d.op = 0
  · simp [h]
  · have h2 : (d.op == 0) = false := by simpa using h
    rw [h2, if_neg h]
    cases fileB d.name <;> cases mayB d.evr true <;> cases isZero d.evr <;> rfl
/- the library's words for it -/
theorem lib_count : ∀ (n : Nat) (s : Bytes), s.length ≤ n → Lib.count s [32] = s.count 32 := by
  intro n
  induction n with
  | zero =>
    intro s hs
    obtain rfl : s = [] := List.eq_nil_of_length_eq_zero (by omega)
    rfl
  | succ n ih =>
    intro s hs
    rcases cut_cases 32 s with ⟨a, b, rfl, ha⟩ | ha
    · rw [Lib.count_hit (i := a.length) (by simp) (index_here 32 b a ha)]
      have e : (a ++ 32 :: b).drop (a.length + [(32 : UInt8)].length) = b := by simp
      rw [e, ih b (by simp at hs; omega), List.count_append, List.count_cons_self, List.count_eq_zero.2 ha]
      omega
    · rw [Lib.count_miss (index_no 32 s ha), List.count_eq_zero.2 ha]
theorem lib_split : ∀ (k : Nat) (s : Bytes), s.count 32 = k → Lib.splitK [32] 0 k s = splitSp s := by
  intro k
  induction k with
  | zero =>
    intro s hs
    unfold Lib.splitK
    rw [split_one s (List.count_eq_zero.1 hs)]
  | succ k ih =>
    intro s hs
    rcases cut_cases 32 s with ⟨a, b, rfl, ha⟩ | ha
    · unfold Lib.splitK
      rw [index_here 32 b a ha, if_neg (by rw [beq_iff_eq]; omega), split_app a b ha]
      rw [List.count_append, List.count_cons_self, List.count_eq_zero.2 ha] at hs
      have e1 : (a ++ 32 :: b).take ((a.length : Int).toNat + 0) = a := by simp
      have e2 : (a ++ 32 :: b).drop ((a.length : Int).toNat + [(32 : UInt8)].length) = b := by simp
      rw [e1, e2, ih b (by omega)]
    · rw [List.count_eq_zero.2 ha] at hs; omega
theorem lib_join : ∀ l : List Bytes, Lib.join l [32] = joinSp l := by
  intro l
  cases l with
  | nil => rfl
  | cons a l =>
    rw [Lib.join_cons]
    induction l generalizing a with
    | nil => simp [Lib.joinTail, joinSp]
    | cons b l ih =>
      have h := ih b
      simp only [Lib.joinTail, List.map_cons, List.flatten_cons, joinSp] at h ⊢
      rw [← h]
      simp
/-- strings.Split's pieces -/
theorem split_pieces (s : ByteArray) : (Lib.splitB ⟨#[32]⟩ 0 (Lib.countB s ⟨#[32]⟩) s).map (·.toList) = splitSp s.toList := by
  have h := Lib.splitB_data ⟨#[32]⟩ 0 (Lib.countB s ⟨#[32]⟩) s
  have e : (fun x : ByteArray => x.toList) = fun x => x.data.toList := by funext x; exact Lib.toList_data x
  rw [e, h, Lib.toList_data]
  exact lib_split _ _ (lib_count _ _ (Nat.le_refl _)).symm
theorem pieces_len (s : ByteArray) : (Lib.splitB ⟨#[32]⟩ 0 (Lib.countB s ⟨#[32]⟩) s).length = Lib.countB s ⟨#[32]⟩ + 1 := Lib.splitB_all _ (by decide) _ _ _ rfl
end Go.Proofs.YtpnnhhgojijlbaaDoor
