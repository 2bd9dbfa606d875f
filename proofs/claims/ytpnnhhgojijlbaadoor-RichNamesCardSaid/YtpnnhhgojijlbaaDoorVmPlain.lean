/- The parts of a version, in plain terms. Nothing of the program here. -/
import Derived.Test.YtpnnhhgojijlbaaDoorBase
namespace Go.Proofs.YtpnnhhgojijlbaaDoor
open Go.RowKit

abbrev Bytes := List UInt8
def bs (l : Bytes) : ByteArray := ⟨l.toArray⟩
theorem bs_toList (l : Bytes) : (bs l).toList = l := by rw [Lib.toList_data]; rfl
theorem bs_of (s : ByteArray) : bs s.toList = s := by rw [Lib.toList_data]; rfl
theorem bs_size (l : Bytes) : (bs l).size = l.length := by rw [← size_toList, bs_toList]
theorem bs_inj {a b : Bytes} (h : bs a = bs b) : a = b := by rw [← bs_toList a, h, bs_toList]
theorem bs_extract (s : ByteArray) (a b : Nat) : s.extract a b = bs ((s.toList.drop a).take (b - a)) := toList_inj (by rw [bs_toList, toList_extract])

/-- of which kind a byte is -/
def kd (n : Int) : Int := if n = 126 then 1 else if n = 94 then 3 else if (97 ≤ n ∧ n ≤ 122) ∨ (65 ≤ n ∧ n ≤ 90) then 4 else if 48 ≤ n ∧ n ≤ 57 then 5 else 0
def kk (c : UInt8) : Int := kd c.toNat
theorem kd_cases (n : Int) : kd n = 0 ∨ kd n = 1 ∨ kd n = 3 ∨ kd n = 4 ∨ kd n = 5 := by
  unfold kd; split; · simp
  split; · simp
  split; · simp
  split <;> simp
abbrev Prt := Int × Bytes

def glue (k : Int) (c : UInt8) : Bytes → List Prt → List Prt
  | d :: _, (j, t) :: r => if kk d = k then (j, c :: t) :: r else (k, [c]) :: (j, t) :: r
  | _, r => (k, [c]) :: r
def raw : Bytes → List Prt
  | [] => []
  | c :: l => if kk c = 0 then raw l else if kk c < 4 then (kk c, []) :: raw l else glue (kk c) c l (raw l)
def strip (p : Prt) : Prt := (p.1, if p.1 = 5 then p.2.dropWhile (· == 48) else p.2)
/-- THE PARTS -/
def pts (l : Bytes) : List Prt := (raw l).map strip
def like (c d : UInt8) : Bool := kk d == kk c

theorem raw_run (l : Bytes) : ∀ c, 4 ≤ kk c → raw (c :: l) = (kk c, c :: l.takeWhile (like c)) :: raw (l.dropWhile (like c)) := by
  induction l with
  | nil => intro c h; simp only [raw, List.takeWhile_nil, List.dropWhile_nil]; rw [if_neg (by omega), if_neg (by omega)]; rfl
  | cons d l ih =>
    intro c h
    rw [raw, if_neg (by omega), if_neg (by omega)]
    by_cases hd : kk d = kk c
    · rw [ih d (by omega)]
      have hl : like c d = true := by simp [like, hd]
      have e : like d = like c := by funext x; simp [like, hd]
      simp only [glue, hd, if_true, List.takeWhile_cons, List.dropWhile_cons, hl, e]
    · have hl : like c d = false := by simp [like, hd]
      simp only [List.takeWhile_cons, List.dropWhile_cons, hl, Bool.false_eq_true, if_false]
      generalize raw (d :: l) = r
      cases r with
      | nil => rfl
      | cons p r => obtain ⟨j, t⟩ := p; simp [glue, hd]
theorem pts_nil : pts [] = [] := rfl
theorem pts_zero {c : UInt8} (l : Bytes) (h : kk c = 0) : pts (c :: l) = pts l := by simp [pts, raw, h]
theorem pts_one {c : UInt8} (l : Bytes) (h : kk c ≠ 0) (h4 : kk c < 4) : pts (c :: l) = (kk c, []) :: pts l := by
  simp [pts, raw, h, h4, strip]
theorem pts_run {c : UInt8} (l : Bytes) (h : 4 ≤ kk c) : pts (c :: l) = strip (kk c, c :: l.takeWhile (like c)) :: pts (l.dropWhile (like c)) := by
  simp only [pts, raw_run l c h, List.map_cons]
theorem pts_word {c : UInt8} (l : Bytes) (h : kk c = 4) : pts (c :: l) = (4, c :: l.takeWhile (like c)) :: pts (l.dropWhile (like c)) := by
  rw [pts_run l (by omega)]; simp [strip, h]
theorem pts_num {c : UInt8} (l : Bytes) (h : kk c = 5) : pts (c :: l) = (5, (c :: l.takeWhile (like c)).dropWhile (· == 48)) :: pts (l.dropWhile (like c)) := by
  rw [pts_run l (by omega)]; simp only [strip, h, if_true]

theorem raw_len (l : Bytes) : (raw l).length ≤ l.length := by
  induction l with
  | nil => simp [raw]
  | cons c l ih =>
    rw [raw]
    split
    · simp; omega
    split
    · simp; omega
    · generalize raw l = r at ih
      cases l <;> cases r <;> simp [glue] at * <;> try omega
      split <;> simp <;> omega
theorem pts_len (l : Bytes) : (pts l).length ≤ l.length := by simp only [pts, List.length_map]; exact raw_len l

/-- a byte that is not of the kind at hand breaks a text in two -/
theorem takeWhile_stop {p : UInt8 → Bool} (x y : Bytes) (d : UInt8) (h : p d = false) : (x ++ d :: y).takeWhile p = x.takeWhile p ∧ (x ++ d :: y).dropWhile p = x.dropWhile p ++ d :: y := by
  induction x with
  | nil => simp [h]
  | cons a x ih =>
    simp only [List.cons_append, List.takeWhile_cons, List.dropWhile_cons]
    cases p a <;> simp [ih.1, ih.2]
theorem pts_append (d : UInt8) (hd : kk d < 4) (y : Bytes) : ∀ (n : Nat) (x : Bytes), x.length ≤ n → pts (x ++ d :: y) = pts x ++ pts (d :: y) := by
  intro n
  induction n with
  | zero => intro x hx; obtain rfl := List.eq_nil_of_length_eq_zero (Nat.le_zero.1 hx); rfl
  | succ n ih =>
    intro x hx
    cases x with
    | nil => rfl
    | cons c x =>
      simp only [List.length_cons] at hx
      rw [List.cons_append]
      by_cases h0 : kk c = 0
      · rw [pts_zero _ h0, pts_zero _ h0]; exact ih x (by omega)
      by_cases h4 : kk c < 4
      · rw [pts_one _ h0 h4, pts_one _ h0 h4, ih x (by omega)]; rfl
      · have hl : like c d = false := by simp [like]; omega
        rw [pts_run _ (by omega), pts_run _ (by omega), (takeWhile_stop x y d hl).1, (takeWhile_stop x y d hl).2, ih _ (by have := (List.dropWhile_suffix (l := x) (like c)).length_le; omega)]
        rfl
theorem pts_at (x y : Bytes) (d : UInt8) (hd : kk d < 4) : pts (x ++ d :: y) = pts x ++ pts (d :: y) := pts_append d hd y x.length x (Nat.le_refl _)
end Go.Proofs.YtpnnhhgojijlbaaDoor
