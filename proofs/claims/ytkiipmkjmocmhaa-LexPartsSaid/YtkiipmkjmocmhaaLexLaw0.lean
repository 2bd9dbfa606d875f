/- Walks: what the statements of lex ask first: are these a text's words; are the examples as they are told; is it too long. -/
import Derived.Test.YtkiipmkjmocmhaaLexRef
import Derived.Deep.QuietTactic
import Derived.BigQuiet
namespace Go.Proofs.Ytkiipmkjmocmhaa
open Go.RowKit Go.Shelf

theorem Rd.of_block {α : Type} {enc : α → List Value} {size cap g : Nat} {l : List α} {w : World} {cs : Array Value} {t : TypeId} {fz : Nat × Nat} (he : ∀ x, (enc x).length = size)
    (h : w.heap[g]? = some (.cells cs t fz)) (hcs : cs.toList = l.flatMap enc) (hc : l.length ≤ cap) (hm : cap ≤ maxLen) : Rd enc size w.heap.size (some ⟨g, 0, none⟩) cap l w := by
  refine ⟨hc, hm, fun k hk => ⟨g, 0, rfl, (Array.getElem?_eq_some_iff.1 h).1, fun j u hu => ?_⟩⟩
  have hj : j < size := by have := (List.getElem?_eq_some_iff.1 hu).1; rw [he] at this; exact this
  rw [cell_of_row w g _ cs t fz h, ← Array.getElem?_toList, hcs, Nat.zero_add, flatMap_at enc size he l k hk j hj]
  exact hu

def longB (l : List ByteArray) : Bool := decide (3000 ≤ weigh (texts l))
theorem weigh_succ (l : List ByteArray) (k : Nat) (h : k < l.length) : weigh ((texts l).take (k + 1)) = weigh ((texts l).take k) + 1 + l[k].size := by
  rw [take_snoc _ _ (by simpa [texts] using h), texts_get l k h]
  simp only [weigh, List.map_append, List.sum_append, List.map_cons, List.map_nil, List.sum_cons, List.sum_nil, size_toList]
  omega
set_option maxRecDepth 100000 in
set_option maxHeartbeats 400000 in
theorem long_any (l : List ByteArray) (A : Option Addr) (cap : Nat) (w : World) (R : Nat) (hR : R ≤ 9223372036854770000) (h : Rd encStr 1 w.heap.size A cap l w) (hz : ∀ s ∈ l, s.size ≤ R) :
    Calls Try.prog 14 #[.slice A l.length cap] w fun e w' => e = .returned (.bool (longB l)) ∧ w = w' := by
  have hlen := h.len
  have HZ := Lib.hid hz
  clear hz
  go_enter Try.func14, Try.ntmps14
  go_wp2
  go_loop [3, 4] (fun n i => ∃ k : Nat, k ≤ l.length ∧ i = .int .i64 k ∧ n = .int .i64 (weigh ((texts l).take k) : Nat) ∧ weigh ((texts l).take k) ≤ R + 3000) (fun _ i => l.length - (intOf i).toNat)
  case atStart => exact ⟨0, Nat.zero_le _, rfl, rfl, by simp [weigh]⟩
  case round =>
    obtain ⟨k, hk, rfl, rfl, hn⟩ := hrel
    by_cases hlt : k < l.length
    · obtain ⟨b, off, rfl, hb, hc⟩ := h.at1 (f := fun s => .string s) (fun _ => rfl) hlt
      have hzk := HZ.out l[k] (List.getElem_mem _)
      have hs := Lib.hid (weigh_succ l k hlt)
      by_cases hlt2 : weigh ((texts l).take k) < 3000
      · go_wp2
        go_round
        case rel => exact ⟨k + 1, by omega, by go_num, by rw [hs.out]; exact val_int (by omega), by rw [hs.out]; omega⟩
        case measure => simp [intOf]; omega
      · go_wp2
        go_ret
        exact ⟨ret_bool (by unfold longB; have := weigh_take (texts l) k; simp; omega), rfl⟩
    · have hall : weigh ((texts l).take k) = weigh (texts l) := by rw [List.take_of_length_le (by simp [texts]; omega)]
      have hall2 := Lib.hid hall
      clear hall
      go_wp2
      go_ret
      exact ⟨ret_bool (by unfold longB; rw [hall2.out]; simp; omega), rfl⟩

def plainB (l : Bytes) : Bool := (l == [40] || l == [41]) || (l.all inn && l != [])
def AllInn (s : ByteArray) (k : Nat) : Prop := (s.toList.take k).all inn = true
theorem AllInn.next {s : ByteArray} {k : Nat} (h : AllInn s k) (hlt : k < s.size) : (inn s[k] = true → AllInn s (k + 1)) ∧ (inn s[k] = false → s.toList.all inn = false) := by
  constructor
  · intro g
    unfold AllInn at *
    rw [toList_take_succ s k hlt, List.all_append, h]
    simp [g]
  · intro g
    rw [List.all_eq_false]
    exact ⟨s[k], by rw [← toList_get s k hlt]; exact List.getElem_mem _, by simp [g]⟩
theorem innB_iff {c : UInt8} : inn c = true ↔ (33 ≤ (c.toNat : Int) ∧ (c.toNat : Int) ≤ 126 ∧ ((c.toNat : Int) == 40) = false ∧ ((c.toNat : Int) == 41) = false) := by
  unfold inn innB brB
  simp only [Bool.and_eq_true, decide_eq_true_eq, Bool.not_eq_true', Bool.or_eq_false_iff]
  constructor
  · rintro ⟨a, b, c, d⟩; exact ⟨by omega, b, c, d⟩
  · rintro ⟨a, b, c, d⟩; exact ⟨by omega, b, c, d⟩
set_option maxHeartbeats 400000 in
theorem plain_any (s : ByteArray) (w : World) (hs : s.size ≤ maxLen) :
    Calls Try.prog 17 #[.string s] w fun e w' => e = .returned (.bool (plainB s.toList)) ∧ w = w' := by
  unfold maxLen at hs
  go_enter Try.func17, Try.ntmps17
  go_wp2
  · go_ret
    exact ⟨by simp [plainB, *], rfl⟩
  · go_ret
    refine ⟨?_, rfl⟩
    simp [plainB]
    simp_all
  · go_loop [3] (fun i => ∃ k : Nat, k ≤ s.size ∧ i = .int .i64 k ∧ AllInn s k) (fun i => s.size - (intOf i).toNat)
    case atStart => exact ⟨0, Nat.zero_le _, rfl, by unfold AllInn; simp⟩
    case round =>
      obtain ⟨k, hk, rfl, hr⟩ := hrel
      by_cases hlt : k < s.size
      · have hnx := hr.next hlt
        cases hi : inn s[k] with
        | true =>
          have H := Lib.hid (hnx.1 hi)
          have hi2 := innB_iff.1 hi
          clear hnx hr hi
          obtain ⟨h1, h2, h3, h4⟩ := hi2
          go_wp2
          go_round
          case rel => exact ⟨k + 1, by omega, by go_num, H.out⟩
          case measure => simp [intOf]; omega
        | false =>
          have H := Lib.hid (hnx.2 hi)
          clear hnx hr
          have hi2 := Lib.hid hi
          clear hi
          go_wp2
          all_goals first
            | (go_ret; exact ⟨ret_bool (by simp_all [plainB, H.out]), rfl⟩)
            | (exfalso; have h3 := innB_iff (c := s[k]); rw [hi2.out] at h3; simp_all)
      · have hr2 := Lib.hid hr
        clear hr
        go_wp2
        go_ret
        refine ⟨ret_bool ?_, rfl⟩
        have h3 : s.toList.all inn = true := by
          have := hr2.out
          unfold AllInn at this
          rwa [List.take_of_length_le (by rw [size_toList]; omega)] at this
        unfold plainB
        rw [h3]
        cases hh : s.toList <;> simp_all
end Go.Proofs.Ytkiipmkjmocmhaa
