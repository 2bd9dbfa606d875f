/- Walks: the examples that each statement of lex asks first. -/
import Derived.Test.YtkiipmkjmocmhaaLexLaw0
namespace Go.Proofs.Ytkiipmkjmocmhaa
open Go.RowKit Go.Shelf

def encT (x : Tok) : List Value := [.string (bs x.2)]
def encP (x : Tok) : List Value := [.int .i64 (x.1 : Int)]

set_option maxHeartbeats 1000000 in
set_option maxRecDepth 100000 in
theorem are_ok (s : ByteArray) (hs : s.size ≤ maxLen) (l : List Tok) (hw : wordsS s.toList = (l, 0, 0)) (A B : Option Addr) (ca cb : Nat) (w : World)
    (hA : Rd encT 1 w.heap.size A ca l w) (hB : Rd encP 1 w.heap.size B cb l w) :
    Calls Try.prog 10 #[.string s, .slice A l.length ca, .slice B l.length cb] w fun e w' => e = .returned (.bool true) ∧ Below w.heap.size w w' := by
  have hlen := hA.len
  have HW := Lib.hid (words_is s w hs l 0 0 hw)
  clear hw
  go_enter Try.func10, Try.ntmps10
  go_wp2_with (go_at_call 12; refine HW.out.mono ?_; rintro e w1 ⟨C, cc, rfl, hC, hb⟩)
  have hne : ((l.length : Int) == (l.length : Int)) = true := by simp
  go_wp2
  go_loopw [10] (fun i wr => ∃ k : Nat, k ≤ l.length ∧ i = .int .i64 k ∧ ∃ n, wr = w1.drewN n) (fun i _ => l.length - (intOf i).toNat)
  case atStart => exact ⟨0, Nat.zero_le _, rfl, 0, rfl⟩
  case round =>
    obtain ⟨k, hk, rfl, n, rfl⟩ := hrel
    by_cases hlt : k < l.length
    · obtain ⟨a1, o1, rfl, hl1, c1⟩ := (hA.below hb).at1 (f := fun x => .string (bs x.2)) (fun _ => rfl) hlt
      obtain ⟨a2, o2, rfl, hl2, c2⟩ := (hB.below hb).at1 (f := fun x => .int .i64 (x.1 : Int)) (fun _ => rfl) hlt
      obtain ⟨a3, o3, rfl, hl3, c3, c4⟩ := hC.at2 (f := fun x => .string (bs x.2)) (g := fun x => .int .i64 (x.1 : Int)) (fun _ => rfl) hlt
      have hx0 : (0 : Int) ≤ (k : Int) := by omega
      have hx1 : (k : Int) < (l.length : Int) := by omega
      go_wp2
      go_quiet (fail)
      go_wp2
      go_roundw
      case rel => exact ⟨k + 1, by omega, by go_num, _, rfl⟩
      case measure => simp [intOf]; omega
    · go_wp2
      go_ret
      exact ⟨rfl, below_drewN hb _⟩

def exWords : List Tok := [(0, [40]), (1, [97]), (3, [97, 110, 100]), (7, [98, 62, 49]), (10, [41])]
def exWords2 : List Tok := [(0, [97]), (1, [40]), (2, [98])]
theorem ex1 : wordsS (ByteArray.mk #[40, 97, 32, 97, 110, 100, 32, 98, 62, 49, 41]).toList = (exWords, 0, 0) := by rw [Lib.toList_data]; decide +kernel
theorem ex2 : wordsS (ByteArray.mk #[97, 40, 98]).toList = (exWords2, 0, 0) := by rw [Lib.toList_data]; decide +kernel
theorem ex3 : wordsS (ByteArray.mk #[97, 32, 9, 98]).toList = ([], 2, 4) := by rw [Lib.toList_data]; decide +kernel

theorem are_new (W : World) (s : ByteArray) (hs : s.size ≤ maxLen) (l : List Tok) (hw : wordsS s.toList = (l, 0, 0)) (n : Nat) (hn : l.length = n) (hm : n ≤ maxLen) (cA cB : Array Value) (eA : cA.toList = l.flatMap encT) (eB : cB.toList = l.flatMap encP) :
    Calls Try.prog 10 #[.string s, .slice (some ⟨W.heap.size, 0, none⟩) n n, .slice (some ⟨W.heap.size + 1, 0, none⟩) n n] ((W.alloc (.cells cA 9)).alloc (.cells cB 3)) fun e w' => e = .returned (.bool true) ∧ Below W.heap.size W w' := by
  subst hn
  have h1 : ((W.alloc (.cells cA 9)).alloc (.cells cB 3)).heap[W.heap.size]? = some (.cells cA 9 (0, 0)) := (Below.heap_alloc _ _ _ (by simp)).trans (heap_alloc_new W _)
  have h2 : ((W.alloc (.cells cA 9)).alloc (.cells cB 3)).heap[W.heap.size + 1]? = some (.cells cB 3 (0, 0)) := by
    have := heap_alloc_new (W.alloc (.cells cA 9)) (.cells cB 3)
    rwa [World.size_alloc] at this
  refine (are_ok s hs l hw _ _ _ _ _ (Rd.of_block (fun _ => rfl) h1 eA (Nat.le_refl _) hm) (Rd.of_block (fun _ => rfl) h2 eB (Nat.le_refl _) hm)).mono fun e w' ⟨h, hb⟩ => ⟨h, ?_⟩
  exact (((Below.refl _ W).alloc (Nat.le_refl _) _).alloc (by simp) _).trans (hb.mono (by simp; omega))
theorem join_new (W : World) (l : List ByteArray) (r : ByteArray) (hr : bs (joinS none (texts l)) = r) (hw : weigh (texts l) ≤ 140737488355328) (n : Nat) (hn : l.length = n) (hm : n ≤ maxLen) (cA : Array Value) (eA : cA.toList = l.flatMap encStr) :
    Calls Try.prog 11 #[.slice (some ⟨W.heap.size, 0, none⟩) n n] (W.alloc (.cells cA 9)) fun e w' => e = .returned (.string r) ∧ Below W.heap.size W w' := by
  subst hn
  subst hr
  have h1 : (W.alloc (.cells cA 9)).heap[W.heap.size]? = some (.cells cA 9 (0, 0)) := heap_alloc_new W _
  refine (join_any l _ _ _ (Rd.of_block (fun _ => rfl) h1 eA (Nat.le_refl _) hm) hw).mono fun e w' ⟨h, hb⟩ => ⟨h, ?_⟩
  exact ((Below.refl _ W).alloc (Nat.le_refl _) _).trans (hb.mono (by simp))
def exJoin : List ByteArray := [bs [40], bs [97], bs [98], bs [41]]
theorem ex4 : bs (joinS none (texts exJoin)) = ByteArray.mk #[40, 97, 32, 98, 41] := by
  apply toList_inj
  rw [bs_toList]
  simp only [texts, exJoin, List.map_cons, List.map_nil, bs_toList]
  exact (bs_toList [40, 97, 32, 98, 41]).symm
theorem ex4w : weigh (texts exJoin) ≤ 140737488355328 := by
  simp only [texts, exJoin, List.map_cons, List.map_nil, bs_toList]
  decide

set_option maxHeartbeats 1000000 in
set_option maxRecDepth 100000 in
theorem works_ok (w : World) : Calls Try.prog 9 #[] w fun e w' => e = .returned (.bool true) ∧ Below w.heap.size w w' := by
  go_enter Try.func9, Try.ntmps9
  go_wp2_with (go_at_call 12; refine (words_is _ _ (by decide) [] 2 4 ex3).mono ?_; rintro e w1 ⟨C, cc, rfl, hC, hb⟩)
  clear hC
  refine (are_new w1 _ (by decide) exWords ex1 5 rfl (by decide) _ _ rfl rfl).mono ?_
  rintro e w2 ⟨rfl, hb2⟩
  go_wp2_with fail
  refine (are_new w2 _ (by decide) exWords2 ex2 3 rfl (by decide) _ _ rfl rfl).mono ?_
  rintro e w3 ⟨rfl, hb3⟩
  go_wp2_with fail
  refine (join_new w3 exJoin _ ex4 ex4w 4 rfl (by decide) _ rfl).mono ?_
  rintro e w4 ⟨rfl, hb4⟩
  go_wp2
  go_ret
  exact ⟨rfl, hb.trans ((hb2.mono hb.size).trans ((hb3.mono (Nat.le_trans hb.size hb2.size)).trans (hb4.mono (Nat.le_trans (Nat.le_trans hb.size hb2.size) hb3.size))))⟩
end Go.Proofs.Ytkiipmkjmocmhaa
