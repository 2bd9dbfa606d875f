/- Walks: chandlerylaw02.long: are texts more than a statement goes over? -/
import Derived.Test.YtinidiiachedbaaDoorVmAwake
import Derived.Test.YtinidiiachedbaaDoorRowOpen
namespace Go.Proofs.YtinidiiachedbaaDoor
open Go.RowKit Go.Shelf

/-- more than a hundred texts, or one of more than 300 bytes -/
def longL (l : List ByteArray) : Bool := decide (100 < l.length) || l.any fun s => decide (300 < s.size)
theorem longL_many {l : List ByteArray} (h : 100 < l.length) : longL l = true := by unfold longL; rw [decide_eq_true h]; rfl
theorem longL_at {l : List ByteArray} {k : Nat} (hk : k < l.length) (h : 300 < l[k].size) : longL l = true := by
  unfold longL
  rw [Bool.or_eq_true]
  exact .inr (List.any_eq_true.2 ⟨l[k], List.getElem_mem _, decide_eq_true h⟩)
theorem longL_no {l : List ByteArray} (h : ¬ 100 < l.length) (hs : ∀ k (hk : k < l.length), ¬ 300 < l[k].size) : longL l = false := by
  unfold longL
  rw [decide_eq_false h, Bool.false_or, List.any_eq_false]
  intro s hm
  obtain ⟨k, hk, rfl⟩ := List.getElem_of_mem hm
  simpa using hs k hk
theorem longL_small {l : List ByteArray} (h : longL l = false) : l.length ≤ 100 ∧ ∀ s ∈ l, s.size ≤ 300 := by
  unfold longL at h
  rw [Bool.or_eq_false_iff, List.any_eq_false] at h
  exact ⟨by have := of_decide_eq_false h.1; omega, fun s hs => by have := h.2 s hs; simp only [decide_eq_true_eq] at this; omega⟩
set_option maxRecDepth 100000 in
set_option maxHeartbeats 4000000 in
theorem long02_any (l : List ByteArray) (A : Option Addr) (cap : Nat) (w : World) (hr : Rd (fun s => [Value.string s]) 1 w.heap.size A cap l w) (hz : ∀ s ∈ l, s.size ≤ reachBytes) :
    Calls Tryd.prog 10 #[.slice A l.length cap] w fun e w' => e = .returned (.bool (longL l)) ∧ w = w' := by
  obtain ⟨r, hr1⟩ : ∃ r, r = longL l := ⟨_, rfl⟩
  rw [← hr1]
  have HL := Lib.hid hr1
  have hm := hr.len
  have HRd := Lib.hid hr
  have HZ := Lib.hid hz
  clear hr hr1 hz
  by_cases h0 : 100 < l.length
  · obtain rfl : r = true := HL.out.trans (longL_many h0)
    have h1 : (100 : Int) < (l.length : Int) := by omega
    clear HL HRd HZ h0
    generalize l.length = n at *
    go_enter Tryd.func10, Tryd.ntmps10
    go_wp2_with fail
    go_ret
    exact ⟨rfl, rfl⟩
  · have h1 : ¬ (100 : Int) < (l.length : Int) := by omega
    obtain ⟨n, hn⟩ : ∃ n, n = l.length := ⟨_, rfl⟩
    rw [← hn] at hm h1 ⊢
    have HN := Lib.hid hn
    have H0 := Lib.hid h0
    clear hn h0
    go_enter Tryd.func10, Tryd.ntmps10
    go_wp2_with fail
    go_loop [3] (fun i => ∃ k : Nat, k ≤ n ∧ i = .int .i64 (k : Int) ∧ Hid (∀ j (hj : j < l.length), j < k → ¬ 300 < l[j].size)) (fun i => n - (intOf i).toNat)
    case atStart => exact ⟨0, by omega, rfl, Lib.hid (by intro j hj h; omega)⟩
    case round =>
      obtain ⟨k, hk, rfl, hS⟩ := hrel
      by_cases hlt : k < n
      · have hkl : k < l.length := by have := HN.out; omega
        obtain ⟨b, o, hA, _, x0⟩ := HRd.out.at1 (f := fun s => Value.string s) (fun _ => rfl) hkl
        subst hA
        have hsz : l[k].size ≤ 140737488351232 := by have := HZ.out l[k] (List.getElem_mem _); have h : reachBytes = 140737488351232 := rfl; omega
        have HT := Lib.hid (fun (h : 300 < l[k].size) => longL_at hkl h)
        have HF := Lib.hid (show ¬ 300 < l[k].size → ∀ j (hj : j < l.length), j < k + 1 → ¬ 300 < l[j].size from fun h j hj hjk => by
          by_cases e : j = k
          · subst e; exact h
          · exact hS.out j hj (by omega))
        generalize l[k] = s at *
        have i0 : (0 : Int) ≤ (k : Int) := by omega
        have i1 : (k : Int) < (n : Int) := by omega
        by_cases h3 : 300 < s.size
        · obtain rfl : r = true := HL.out.trans (HT.out h3)
          have h4 : (300 : Int) < (s.size : Int) := by omega
          clear HL HT HF hS
          go_wp2_with fail
          go_ret
          exact ⟨rfl, rfl⟩
        · have h4 : ¬ (300 : Int) < (s.size : Int) := by omega
          have HX := Lib.hid (HF.out h3)
          clear HT HF hS
          go_wp2_with fail
          go_round
          case rel => exact ⟨k + 1, by omega, by go_num, HX⟩
          case measure => simp [intOf]; omega
      · have i1 : ¬ (k : Int) < (n : Int) := by omega
        obtain rfl : r = false := HL.out.trans (longL_no H0.out (fun j hj => hS.out j hj (by have := HN.out; omega)))
        clear HL hS
        go_wp2_with fail
        go_ret
        exact ⟨rfl, rfl⟩
end Go.Proofs.YtinidiiachedbaaDoor
