/- Base, VmPlain -/
import Derived.Test.YtcpjignlhlcnpaaDoorRows
import Derived.WalkKit
import Derived.WalkSpells
import Derived.WalkLawsBesides
import Derived.Deep.AppendLies
import Derived.Deep.Draws
import Derived.Lib.Hide
import Derived.Lib.Strings
import Derived.Maps.AppendAt
set_option linter.unusedSimpArgs false
set_option linter.unusedVariables false
namespace Go.Proofs.YtcpjignlhlcnpaaDoor
section
/- Small words for memory that all walks of this seat share: a slice that reads as a list of data ('Rd'), rows that the call owns, frames. -/










open Go.RowKit

/-- The slice value '.slice A l.length cap' reads as the list l, each element by its cells, in blocks below B. -/
def Rd {α : Type} (enc : α → List Value) (size B : Nat) (A : Option Addr) (cap : Nat) (l : List α) (w : World) : Prop :=
  l.length ≤ cap ∧ cap ≤ maxLen ∧ ∀ (k : Nat) (hk : k < l.length), ∃ b off, A = some ⟨b, off, none⟩ ∧ b < B ∧
    ∀ j u, (enc l[k])[j]? = some u → w.cell? ⟨b, off + k * size + j, none⟩ = some u

section
variable {α : Type} {enc : α → List Value} {size B B' cap : Nat} {A : Option Addr} {l : List α} {w w' : World}
theorem Rd.len (h : Rd enc size B A cap l w) : l.length ≤ 9223372036854775807 := by
  have h1 := h.1
  have h2 := h.2.1
  unfold maxLen at h2
  omega
theorem Rd.keep (h : Rd enc size B A cap l w) (hk : ∀ p : Addr, p.block < B → w'.cell? p = w.cell? p) : Rd enc size B A cap l w' :=
  ⟨h.1, h.2.1, fun k hl => by
    obtain ⟨b, off, e, hb, hc⟩ := h.2.2 k hl
    exact ⟨b, off, e, hb, fun j u hu => (hk _ hb).trans (hc j u hu)⟩⟩
theorem Rd.more (h : Rd enc size B A cap l w) (hB : B ≤ B') : Rd enc size B' A cap l w :=
  ⟨h.1, h.2.1, fun k hl => by
    obtain ⟨b, off, e, hb, hc⟩ := h.2.2 k hl
    exact ⟨b, off, e, by omega, hc⟩⟩
theorem Rd.below (h : Rd enc size B A cap l w) (hb : Below B w w') : Rd enc size B A cap l w' := h.keep fun _ hp => hb.cell hp
theorem Rd.withB (h : Rd enc size w.heap.size A cap l w) (hb : Below w.heap.size w w') : Rd enc size w'.heap.size A cap l w' := (h.below hb).more hb.size
theorem Rd.nil_ (hc : cap ≤ maxLen) : Rd enc size B A cap [] w := ⟨Nat.zero_le _, hc, fun k hk => absurd hk (by simp)⟩
/-- one cell an element -/
theorem Rd.at1 {f : α → Value} (h : Rd enc 1 B A cap l w) (hf : ∀ x, enc x = [f x]) {k : Nat} (hk : k < l.length) :
    ∃ b off, A = some ⟨b, off, none⟩ ∧ b < B ∧ w.cell? ⟨b, off + k, none⟩ = some (f l[k]) := by
  obtain ⟨b, off, e, hb, hc⟩ := h.2.2 k hk
  exact ⟨b, off, e, hb, by simpa using hc 0 (f l[k]) (by rw [hf]; rfl)⟩
/-- two cells an element -/
theorem Rd.at2 {f g : α → Value} (h : Rd enc 2 B A cap l w) (hf : ∀ x, enc x = [f x, g x]) {k : Nat} (hk : k < l.length) :
    ∃ b off, A = some ⟨b, off, none⟩ ∧ b < B ∧ w.cell? ⟨b, off + k * 2, none⟩ = some (f l[k]) ∧ w.cell? ⟨b, off + k * 2 + 1, none⟩ = some (g l[k]) := by
  obtain ⟨b, off, e, hb, hc⟩ := h.2.2 k hk
  exact ⟨b, off, e, hb, by simpa using hc 0 (f l[k]) (by rw [hf]; rfl), by simpa using hc 1 (g l[k]) (by rw [hf]; rfl)⟩
end

theorem flatMap_at {α β : Type} (enc : α → List β) (size : Nat) (he : ∀ x, (enc x).length = size) : ∀ (l : List α) (k : Nat) (hk : k < l.length) (j : Nat), j < size → (l.flatMap enc)[k * size + j]? = (enc l[k])[j]?
  | x :: l, 0, _, j, hj => by
    simp only [List.flatMap_cons, Nat.zero_mul, Nat.zero_add, List.getElem_cons_zero]
    rw [List.getElem?_append_left (by rw [he]; exact hj)]
  | x :: l, k + 1, hk, j, hj => by
    simp only [List.flatMap_cons, List.getElem_cons_succ]
    rw [List.getElem?_append_right (by rw [he, Nat.add_mul]; omega), he]
    have e : (k + 1) * size + j - size = k * size + j := by rw [Nat.add_mul]; omega
    rw [e]
    exact flatMap_at enc size he l k (by simpa using hk) j hj
/-- A row of the call's own holds the list l. -/
def Own {α : Type} (enc : α → List Value) (size base : Nat) (e : TypeId) (v : Value) (l : List α) (w : World) : Prop := w.ownsRow base e size v l.length (l.flatMap enc)

section
variable {α : Type} {enc : α → List Value} {size base base' : Nat} {e : TypeId} {v : Value} {l : List α} {w w' : World}
theorem Own.rd (h : Own enc size base e v l w) (he : ∀ x, (enc x).length = size) : ∃ A cap, v = .slice A l.length cap ∧ Rd enc size w.heap.size A cap l w := by
  unfold Own at h
  rcases h.2 with ⟨hv, hn⟩ | ⟨g, cap, cur, hv, hb, hh, hnc, hcm, hcs, ht⟩
  · have hl : l = [] := List.eq_nil_of_length_eq_zero hn
    subst hl
    exact ⟨none, 0, hv, Rd.nil_ (Nat.zero_le _)⟩
  · refine ⟨some ⟨g, 0, none⟩, cap, hv, hnc, hcm, fun k hk => ⟨g, 0, rfl, (Array.getElem?_eq_some_iff.1 hh).1, fun j u hu => ?_⟩⟩
    have hj : j < size := by
      have := (List.getElem?_eq_some_iff.1 hu).1
      rw [he] at this
      exact this
    have h2 := h.cells (g := g) (by rw [hv]; rfl) (k * size + j) u (by rw [flatMap_at enc size he l k hk j hj]; exact hu)
    rw [Addr.add_lit] at h2
    simpa [Nat.add_assoc] using h2
theorem Own.snoc {x : α} (h : w.ownsRow base e size v (l.length + 1) (l.flatMap enc ++ enc x)) : Own enc size base e v (l ++ [x]) w := by
  unfold Own
  simpa using h
theorem Own.shape (h : Own enc size base e v l w) : ∃ A c, v = .slice A l.length c := by
  rcases h.2 with ⟨rfl, h0⟩ | ⟨g, cap, cur, rfl, _⟩
  · exact ⟨none, 0, by rw [h0]⟩
  · exact ⟨_, cap, rfl⟩
theorem Own.nil_ (w : World) (base : Nat) (e : TypeId) : Own enc size base e (.slice none 0 0) [] w := World.ownsRow_nil w base e size
theorem Own.below {B : Nat} (h : Own enc size base e v l w) (hb : Below B w w') (hB : w.heap.size ≤ B) : Own enc size base e v l w' := by
  refine World.ownsRow.kept (row := none) h ⟨hb.os, hb.tape, hb.output, hb.size, fun k hk _ => hb.block k (by omega)⟩ ?_
  cases v.ownBlock <;> simp
theorem Own.more (h : Own enc size base e v l w) (hB : base' ≤ base) : Own enc size base' e v l w := by
  refine ⟨h.1, ?_⟩
  rcases h.2 with h2 | ⟨g, cap, cur, hv, hb, r⟩
  · exact .inl h2
  · exact .inr ⟨g, cap, cur, hv, by omega, r⟩
end
theorem own_shape {w : World} {base : Nat} {e : TypeId} {size : Nat} {v : Value} {n : Nat} {xs : List Value} (h : w.ownsRow base e size v n xs) : ∃ A c, v = .slice A n c := by
  rcases h.2 with ⟨rfl, rfl⟩ | ⟨g, cap, cur, rfl, _⟩
  · exact ⟨none, 0, rfl⟩
  · exact ⟨_, cap, rfl⟩
theorem ret_int {k : IntKind} {a b : Int} (h : a = b) : Ending.returned (.int k a) = .returned (.int k b) := by rw [h]
theorem ret_bool {a b : Bool} (h : a = b) : Ending.returned (.bool a) = .returned (.bool b) := by rw [h]
theorem ret_str {a b : ByteArray} (h : a = b) : Ending.returned (.string a) = .returned (.string b) := by rw [h]
theorem val_int {k : IntKind} {a b : Int} (h : a = b) : Value.int k a = .int k b := by rw [h]
/-- the bytes of a text -/
theorem take_snoc {α : Type} (l : List α) (k : Nat) (h : k < l.length) : l.take (k + 1) = l.take k ++ [l[k]] := by
  rw [List.take_succ_eq_append_getElem h]
theorem size_toList (s : ByteArray) : s.toList.length = s.size := by rw [Lib.toList_data]; rfl
theorem toList_get (s : ByteArray) (k : Nat) (h : k < s.size) : s.toList[k]'(by rw [size_toList]; exact h) = s[k] := by
  simp only [Lib.toList_data]; rfl
theorem toList_take_succ (s : ByteArray) (k : Nat) (h : k < s.size) : s.toList.take (k + 1) = s.toList.take k ++ [s[k]] := by
  rw [take_snoc _ _ (by rw [size_toList]; exact h), toList_get s k h]
theorem toList_drop (s : ByteArray) (k : Nat) (h : k < s.size) : s.toList.drop k = s[k] :: s.toList.drop (k + 1) := by
  rw [List.drop_eq_getElem_cons (by rw [size_toList]; exact h), toList_get s k h]
theorem toList_inj {a b : ByteArray} (h : a.toList = b.toList) : a = b := by
  rw [Lib.toList_data, Lib.toList_data] at h
  cases a with | mk x => cases b with | mk y => cases x; cases y; simp_all
theorem toList_extract (s : ByteArray) (a b : Nat) : (s.extract a b).toList = (s.toList.drop a).take (b - a) := by
  rw [Lib.extract_toList, Lib.toList_data]
theorem byte_lt (b : UInt8) : (b.toNat : Int) < 256 := by have := UInt8.toNat_lt b; omega
theorem beq_toNat (b : UInt8) (n : Nat) (h : n < 256) : ((b.toNat : Int) == (n : Int)) = (b == UInt8.ofNat n) := by
  rw [Bool.eq_iff_iff]
  simp only [beq_iff_eq]
  constructor
  · intro e
    apply UInt8.toNat_inj.1
    rw [UInt8.toNat_ofNat']
    omega
  · rintro rfl
    rw [UInt8.toNat_ofNat']
    omega
end
section
/- The parts of a version, in plain terms. Nothing of the program here. -/


open Go.RowKit

abbrev Bytes := List UInt8
def bs (l : Bytes) : ByteArray := ⟨l.toArray⟩
theorem bs_toList (l : Bytes) : (bs l).toList = l := by rw [Lib.toList_data]; rfl
theorem bs_of (s : ByteArray) : bs s.toList = s := by rw [Lib.toList_data]; rfl
theorem bs_size (l : Bytes) : (bs l).size = l.length := by rw [← size_toList, bs_toList]
theorem bs_inj {a b : Bytes} (h : bs a = bs b) : a = b := by rw [← bs_toList a, h, bs_toList]
theorem bs_extract (s : ByteArray) (a b : Nat) : s.extract a b = bs ((s.toList.drop a).take (b - a)) := toList_inj (by rw [bs_toList, toList_extract])

/-- of which kind a byte is -/
def kd (n : Int) : Int := if n = 126 then 1 else if n = 94 then 3 else if (97 ≤ n ∧ n ≤ 122) ∨ (65 ≤ n ∧ n ≤ 90) then 4 else if 48 ≤ n ∧ n ≤ 57 then 5 else 0
def kk (c : UInt8) : Int := kd c.toNat
theorem kd_cases (n : Int) : kd n = 0 ∨ kd n = 1 ∨ kd n = 3 ∨ kd n = 4 ∨ kd n = 5 := by
  unfold kd; split; · simp
  split; · simp
  split; · simp
  split <;> simp
abbrev Prt := Int × Bytes

def glue (k : Int) (c : UInt8) : Bytes → List Prt → List Prt
  | d :: _, (j, t) :: r => if kk d = k then (j, c :: t) :: r else (k, [c]) :: (j, t) :: r
  | _, r => (k, [c]) :: r
def raw : Bytes → List Prt
  | [] => []
  | c :: l => if kk c = 0 then raw l else if kk c < 4 then (kk c, []) :: raw l else glue (kk c) c l (raw l)
def strip (p : Prt) : Prt := (p.1, if p.1 = 5 then p.2.dropWhile (· == 48) else p.2)
/-- THE PARTS -/
def pts (l : Bytes) : List Prt := (raw l).map strip
def like (c d : UInt8) : Bool := kk d == kk c

theorem raw_run (l : Bytes) : ∀ c, 4 ≤ kk c → raw (c :: l) = (kk c, c :: l.takeWhile (like c)) :: raw (l.dropWhile (like c)) := by
  induction l with
  | nil => intro c h; simp only [raw, List.takeWhile_nil, List.dropWhile_nil]; rw [if_neg (by omega), if_neg (by omega)]; rfl
  | cons d l ih =>
    intro c h
    rw [raw, if_neg (by omega), if_neg (by omega)]
    by_cases hd : kk d = kk c
    · rw [ih d (by omega)]
      have hl : like c d = true := by simp [like, hd]
      have e : like d = like c := by funext x; simp [like, hd]
      simp only [glue, hd, if_true, List.takeWhile_cons, List.dropWhile_cons, hl, e]
    · have hl : like c d = false := by simp [like, hd]
      simp only [List.takeWhile_cons, List.dropWhile_cons, hl, Bool.false_eq_true, if_false]
      generalize raw (d :: l) = r
      cases r with
      | nil => rfl
      | cons p r => obtain ⟨j, t⟩ := p; simp [glue, hd]
theorem pts_nil : pts [] = [] := rfl
theorem pts_zero {c : UInt8} (l : Bytes) (h : kk c = 0) : pts (c :: l) = pts l := by simp [pts, raw, h]
theorem pts_one {c : UInt8} (l : Bytes) (h : kk c ≠ 0) (h4 : kk c < 4) : pts (c :: l) = (kk c, []) :: pts l := by
  simp [pts, raw, h, h4, strip]
theorem pts_run {c : UInt8} (l : Bytes) (h : 4 ≤ kk c) : pts (c :: l) = strip (kk c, c :: l.takeWhile (like c)) :: pts (l.dropWhile (like c)) := by
  simp only [pts, raw_run l c h, List.map_cons]
theorem pts_word {c : UInt8} (l : Bytes) (h : kk c = 4) : pts (c :: l) = (4, c :: l.takeWhile (like c)) :: pts (l.dropWhile (like c)) := by
  rw [pts_run l (by omega)]; simp [strip, h]
theorem pts_num {c : UInt8} (l : Bytes) (h : kk c = 5) : pts (c :: l) = (5, (c :: l.takeWhile (like c)).dropWhile (· == 48)) :: pts (l.dropWhile (like c)) := by
  rw [pts_run l (by omega)]; simp only [strip, h, if_true]

theorem raw_len (l : Bytes) : (raw l).length ≤ l.length := by
  induction l with
  | nil => simp [raw]
  | cons c l ih =>
    rw [raw]
    split
    · simp; omega
    split
    · simp; omega
    · generalize raw l = r at ih
      cases l <;> cases r <;> simp [glue] at * <;> try omega
      split <;> simp <;> omega
theorem pts_len (l : Bytes) : (pts l).length ≤ l.length := by simp only [pts, List.length_map]; exact raw_len l
end
end Go.Proofs.YtcpjignlhlcnpaaDoor
