/- RlRef -/
import Derived.Test.YtnfagaccbkeikaaGreatDoorRichReadsRowG18
import Derived.Test.YtnfagaccbkeikaaGreatDoorRichReadsRowG14
import Derived.RegionTactic
import Derived.ChangeAlike
import Derived.Deep.RegionHeld3
/- Walks: the document's answer for lex: its words, and words put together. -/





namespace Go.Proofs.YtnfagaccbkeikaaGreatDoor
open Go.RowKit Go.Shelf
set_option linter.unusedVariables false

def kindI (n : Int) : Int := if n = 32 then 0 else if brB n then 1 else if 33 ≤ n ∧ n ≤ 126 then 2 else 3
set_option maxHeartbeats 400000 in
theorem kind_anyX (n : Int) (w : World) :
    Calls Tryz.prog 89 #[.int .u8 n] w fun e w' => e = .returned (.int .i64 (kindI n)) ∧ w = w' := by
  go_enter Tryz.func89, Tryz.ntmps89
  go_wp2
  all_goals (go_ret; refine ⟨ret_int ?_, rfl⟩; unfold kindI brB; (repeat' split) <;> first | rfl | omega | (simp_all; done) | (simp_all; omega))

theorem kind_of (c : UInt8) : (wrong c = true → kindI c.toNat = 3) ∧ (spc c = true → kindI c.toNat = 0) ∧ (brk c = true → kindI c.toNat = 1) ∧ (inn c = true → kindI c.toNat = 2) := by
  have h32 := beq_toNat c 32 (by omega)
  unfold wrong spc brk inn innB kindI
  rw [show (c == 32) = ((c.toNat : Int) == 32) from h32.symm]
  generalize (c.toNat : Int) = n
  by_cases a : n = 32
  · subst a; decide
  · cases hb : brB n with
    | true =>
      have : n = 40 ∨ n = 41 := by simpa [brB] using hb
      simp [a]
    | false =>
      by_cases h1 : 32 < n <;> by_cases h2 : n ≤ 126 <;> simp [a, h1, h2] <;> omega

/-- How far the document's loop has come: k bytes are read, the words ys are whole, cur is begun. -/
def Far (L : Bytes) (k : Nat) (ys : List Tok) (cur : Option Tok) : Prop :=
  toks 0 none L = ys ++ toks k cur (L.drop k) ∧ (cur = none ↔ k = 0 ∨ ∃ c, L[k - 1]? = some c ∧ inn c = false)
theorem conv1 (W : World) (c : UInt8) : (convert 157 9 (.slice (some ⟨W.heap.size, 0, none⟩) 1 1)).run Tryz.prog (W.alloc (.cells #[.int .u8 (c.toNat : Int)] 5)) = .ok (.string (bs [c])) (W.alloc (.cells #[.int .u8 (c.toNat : Int)] 5)) :=
  run_convert_bytes_back _ _ _ 5 _ _ [c] Tryz.underlying157 Tryz.underlying5 Tryz.underlying9 (fun j hj => by
    match j, hj with
    | 0, _ => simp [Addr.add])
theorem conv1d (W : World) (c : UInt8) : (convert 157 9 (.slice (some ⟨W.heap.size, 0, none⟩) 1 1)).run Tryz.prog (W.alloc (.cells #[.int .u8 (c.toNat : Int)] 5)).drew = .ok (.string (bs [c])) (W.alloc (.cells #[.int .u8 (c.toNat : Int)] 5)).drew :=
  run_convert_bytes_back _ _ _ 5 _ _ [c] Tryz.underlying157 Tryz.underlying5 Tryz.underlying9 (fun j hj => by
    match j, hj with
    | 0, _ => simp [Addr.add])
theorem Far.room {L : Bytes} {k : Nat} {ys : List Tok} {cur : Option Tok} (h : Far L k ys cur) : (ys ++ flushT cur).length ≤ L.length := by
  have h1 := toks_len L 0 none
  rw [h.1] at h1
  have h2 : (flushT cur).length ≤ (toks k cur (L.drop k)).length := by
    cases cur with
    | none => simp [flushT]
    | some t => obtain ⟨q, t⟩ := t; rw [toks_some]; simp [flushT]
  simp only [List.length_append, flushT, List.length_nil, Nat.add_zero] at *
  omega
theorem Far.last {L : Bytes} {k : Nat} {c : UInt8} {r : Bytes} (hd : L.drop k = c :: r) : L[k + 1 - 1]? = some c := by
  have : L[k]? = (L.drop k)[0]? := by rw [List.getElem?_drop]; rfl
  rw [Nat.add_sub_cancel, this, hd]; rfl
theorem Far.spc {L : Bytes} {k : Nat} {ys : List Tok} {cur : Option Tok} {c : UInt8} (h : Far L k ys cur) (hd : L.drop k = c :: L.drop (k + 1)) (g : spc c = true) : Far L (k + 1) (ys ++ flushT cur) none := by
  have hi : inn c = false := by cases hc : inn c with | false => rfl | true => rw [spc_inn hc] at g; cases g
  refine ⟨?_, by simp only [true_iff]; exact .inr ⟨c, Far.last hd, hi⟩⟩
  rw [h.1, hd]
  cases cur with
  | none => rw [toks_spc g]; simp [flushT]
  | some t => obtain ⟨q, t⟩ := t; rw [toks, if_neg (by simp [hi]), if_pos g]; simp [flushT]
theorem Far.brk {L : Bytes} {k : Nat} {ys : List Tok} {cur : Option Tok} {c : UInt8} (h : Far L k ys cur) (hd : L.drop k = c :: L.drop (k + 1)) (g : brk c = true) : Far L (k + 1) (ys ++ flushT cur ++ [(k, [c])]) none := by
  have hi : inn c = false := by cases hc : inn c with | false => rfl | true => rw [brk_inn hc] at g; cases g
  refine ⟨?_, by simp only [true_iff]; exact .inr ⟨c, Far.last hd, hi⟩⟩
  rw [h.1, hd]
  cases cur with
  | none => rw [toks_brk g]; simp [flushT]
  | some t => obtain ⟨q, t⟩ := t; rw [toks, if_neg (by simp [hi]), if_neg (by simp [spc_brk g]), if_pos g]; simp [flushT]
theorem Far.more0 {L : Bytes} {k : Nat} {ys : List Tok} {c : UInt8} (h : Far L k ys none) (hd : L.drop k = c :: L.drop (k + 1)) (g : inn c = true) : Far L (k + 1) ys (some (k, [c])) := by
  refine ⟨?_, by rw [Far.last hd]; simp [g]⟩
  rw [h.1, hd, toks, if_pos g]
theorem Far.more {L : Bytes} {k q : Nat} {t : Bytes} {ys : List Tok} {c : UInt8} (h : Far L k ys (some (q, t))) (hd : L.drop k = c :: L.drop (k + 1)) (g : inn c = true) : Far L (k + 1) ys (some (q, t ++ [c])) := by
  refine ⟨?_, by rw [Far.last hd]; simp [g]⟩
  rw [h.1, hd, toks, if_pos g]
theorem kind_two {c : UInt8} (h : inn c = false) : (kindI c.toNat == 2) = false := by
  have k := kind_of c
  rcases wrong_cases c with g | g | g | g
  · rw [k.1 g]; rfl
  · rw [k.2.1 g]; rfl
  · rw [k.2.2.1 g]; rfl
  · rw [g] at h; cases h
theorem Far.prev0 {s : ByteArray} {k : Nat} {ys : List Tok} (h : Far s.toList k ys none) (hk : k < s.size) :
    k ≤ 0 ∨ (0 < k ∧ ∀ h : k - 1 < s.size, (kindI s[k - 1].toNat == 2) = false) := by
  have h2 := h.2
  simp only [true_iff] at h2
  rcases h2 with h2 | ⟨c, h2, h3⟩
  · exact .inl (by omega)
  · by_cases h0 : k = 0
    · exact .inl (by omega)
    · refine .inr ⟨by omega, fun hlt => ?_⟩
      rw [List.getElem?_eq_getElem (by rw [size_toList]; omega), toList_get s (k - 1) hlt] at h2
      have : s[k - 1] = c := by simpa using h2
      rw [this]; exact kind_two h3
theorem Far.prev1 {s : ByteArray} {k : Nat} {ys : List Tok} {t : Tok} (h : Far s.toList k ys (some t)) (hk : k < s.size) :
    0 < k ∧ ∀ h : k - 1 < s.size, kindI s[k - 1].toNat = 2 := by
  have h2 := h.2
  simp only [reduceCtorEq, false_iff, not_or, not_exists, not_and] at h2
  refine ⟨by omega, fun hlt => ?_⟩
  have h3 := h2.2 s[k - 1] (by rw [List.getElem?_eq_getElem (by rw [size_toList]; omega), toList_get s (k - 1) hlt])
  exact (kind_of _).2.2.2 (by simpa using h3)
theorem Far.textLen {L : Bytes} {k q : Nat} {t : Bytes} {ys : List Tok} (h : Far L k ys (some (q, t))) : t.length ≤ L.length := by
  have h1 := toks_text L 0 none (q, t ++ (L.drop k).takeWhile inn) (by rw [h.1, toks_some]; simp)
  simp [curLen] at h1
  omega
theorem noWrong {L : Bytes} (h : badAt L = none) (c : UInt8) (hc : c ∈ L) : wrong c = false := by
  have := List.findIdx?_eq_none_iff.1 h c hc
  simpa using this
def WordsPostR (s : ByteArray) (w : World) (e : Ending) (w' : World) : Prop :=
  ∃ v, e = .returned (.tuple #[v, .int .i64 ((wordsS s.toList).2.1 : Int), .int .i64 (wordsS s.toList).2.2]) ∧ Own encTok 2 w.heap.size 108 v (wordsS s.toList).1 w' ∧ Below w.heap.size w w'
theorem infoWordR : (Tryz.prog.info? 108).map (fun i => (i.zero, i.size, i.bytes)) = some (some (.agg #[.string ByteArray.empty, .int .i64 0]), 2, 24) := by kernel_rfl
/-- none of the first k bytes is wrong -/
def Clean (s : ByteArray) (k : Nat) : Prop := ∀ c ∈ s.toList.take k, wrong c = false
theorem Clean.next {s : ByteArray} {k : Nat} (h : Clean s k) (hlt : k < s.size) : (wrong s[k] = false → Clean s (k + 1)) ∧ (wrong s[k] = true → badAt s.toList = some k) := by
  constructor
  · intro g c hc
    rw [toList_take_succ s k hlt] at hc
    rcases List.mem_append.1 hc with hc | hc
    · exact h c hc
    · simp at hc; subst hc; exact g
  · intro g
    unfold badAt
    rw [List.findIdx?_eq_some_iff_getElem]
    refine ⟨by rw [size_toList]; exact hlt, by rw [toList_get s k hlt]; exact g, fun j hj => ?_⟩
    have hm : s.toList[j]'(by rw [size_toList]; omega) ∈ s.toList.take k := by
      rw [List.mem_take_iff_getElem]
      exact ⟨j, by rw [size_toList]; omega, rfl⟩
    simpa using h _ hm
theorem Clean.all {s : ByteArray} {k : Nat} (h : Clean s k) (hk : s.size ≤ k) : badAt s.toList = none := by
  unfold badAt
  rw [List.findIdx?_eq_none_iff]
  intro c hc
  have := h c (by rw [List.take_of_length_le (by rw [size_toList]; exact hk)]; exact hc)
  simpa using this
theorem kind_ne {c : UInt8} (h : wrong c = false) : (kindI c.toNat == 3) = false := by
  have k := kind_of c
  rcases wrong_cases c with g | g | g | g
  · rw [g] at h; cases h
  · rw [k.2.1 g]; rfl
  · rw [k.2.2.1 g]; rfl
  · rw [k.2.2.2 g]; rfl

set_option maxRecDepth 100000 in
set_option maxHeartbeats 1000000 in
theorem refWords_any (s : ByteArray) (w : World) (hs : s.size ≤ maxLen) : Calls Tryz.prog 50 #[.string s] w (WordsPostR s w) := by
  unfold maxLen at hs
  obtain ⟨i0, hi, hz0, hz1, hz2⟩ := info_parts infoWordR
  by_cases hl : 4096 < s.size
  · go_enter Tryz.func50, Tryz.ntmps50
    go_wp2
    have hw : wordsS s.toList = ([], 0, 40) := by unfold wordsS; rw [if_pos (by rw [size_toList]; exact hl)]
    go_ret3
    exact ⟨.slice none 0 0, by rw [hw]; rfl, by rw [hw]; exact Own.nil_ _ _ _, Below.refl _ _⟩
  · have hl2 : s.size ≤ 4096 := by omega
    go_enter Tryz.func50, Tryz.ntmps50
    have hcv := conv1
    go_wp2
    go_loop [5] (fun i => ∃ k : Nat, k ≤ s.size ∧ i = .int .i64 k ∧ Clean s k) (fun i => s.size - (intOf i).toNat)
    case atStart => exact ⟨0, Nat.zero_le _, rfl, by unfold Clean; simp⟩
    case round =>
      obtain ⟨k, hk, rfl, hcl⟩ := hrel
      by_cases hlt : k < s.size
      · have hnx := Clean.next hcl hlt
        cases hw : wrong s[k] with
        | true =>
          have hk3 : kindI s[k].toNat = 3 := (kind_of _).1 hw
          have H := Lib.hid (hnx.2 hw)
          clear hnx hcl hw
          go_wp2_with (go_at_call 89; refine (kind_anyX _ _).mono ?_; rintro e w' ⟨rfl, rfl⟩)
          go_ret3
          have hw : wordsS s.toList = ([], k, 4) := by unfold wordsS; rw [if_neg (by rw [size_toList]; omega), H.out]
          exact ⟨.slice none 0 0, by rw [hw]; rfl, by rw [hw]; exact Own.nil_ _ _ _, Below.refl _ _⟩
        | false =>
          have hk3 : (kindI s[k].toNat == 3) = false := kind_ne hw
          have H := Lib.hid (hnx.1 hw)
          clear hnx hcl hw
          go_wp2_with (go_at_call 89; refine (kind_anyX _ _).mono ?_; rintro e w' ⟨rfl, rfl⟩)
          go_round
          case rel => exact ⟨k + 1, by omega, by go_num, H.out⟩
          case measure => simp [intOf]; omega
      · have hcl2 := Lib.hid (Clean.all hcl (by omega))
        clear hcl
        go_wp2
        go_loopw [6, 7] (fun v i wr => ∃ (k : Nat) (ys : List Tok) (cur : Option Tok), k ≤ s.size ∧ i = .int .i64 k ∧ Far s.toList k ys cur ∧ Own encTok 2 w.heap.size 108 v (ys ++ flushT cur) wr ∧ Below w.heap.size w wr)
          (fun _ i _ => s.size - (intOf i).toNat)
        case atStart => exact ⟨0, [], none, Nat.zero_le _, rfl, ⟨by simp, by simp⟩, Own.nil_ _ _ _, Below.refl _ _⟩
        case round =>
          obtain ⟨j, ys, cur, hj, rfl, hfar, hrow, hB⟩ := hrel
          have hBs := hB.size
          by_cases hlt : j < s.size
          · have hroom := hfar.room
            rw [size_toList] at hroom
            have hget := toList_drop s j hlt
            have hw := noWrong hcl2.out s[j] (by rw [← toList_get s j hlt]; exact List.getElem_mem _)
            have hkd := kind_of s[j]
            rcases wrong_cases s[j] with g | g | g | g
            · rw [g] at hw; cases hw
            · have hk0 : kindI s[j].toNat = 0 := hkd.2.1 g
              have H := Lib.hid (hfar.spc hget g)
              clear hfar hget hkd
              go_wp2_with (go_at_call 89; refine (kind_anyX _ _).mono ?_; rintro e w' ⟨rfl, rfl⟩)
              go_roundw
              case rel => exact ⟨j + 1, ys ++ flushT cur, none, by omega, by go_num, H.out, by rw [show ys ++ flushT cur ++ flushT none = ys ++ flushT cur from List.append_nil _]; exact hrow, hB⟩
              case measure => simp [intOf]; omega
            · have hk0 : kindI s[j].toNat = 1 := hkd.2.2.1 g
              have H := Lib.hid (hfar.brk hget g)
              generalize ys ++ flushT cur = zs at *
              clear hfar hget hkd
              go_wp2_with (first | (go_at_call 89; refine (kind_anyX _ _).mono ?_; rintro e w' ⟨rfl, rfl⟩) | (at_builtin; refine wpList_append_own _ rfl _ _ 101 rfl w.heap.size 108 i0 (.agg #[.string ByteArray.empty, .int .i64 0]) 2 24 Tryz.underlying101 hi hz0 hz1 hz2 rfl (by decide) _ _ _ rfl ((World.ownsRow.alloc hrow _).alloc _) ⟨wr.heap.size + 1, 0, none⟩ 1 1 [.string (bs [s[j]]), .int .i64 (j : Int)] rfl rfl ?c1 ?c2 ?c3 ?c4 ?c5 ?_))
              case c1 =>
                have := cell_two_new (wr.alloc (.cells #[.int .u8 (s[j].toNat : Int)] 5)) (.string (bs [s[j]])) (.int .i64 (j : Int)) 108
                simpa using this
              case c2 => simp [Value.oneCell']
              case c3 => simp only [maxLen]; omega
              case c4 => omega
              case c5 => simp; omega
              intro v' w1 hown' hgrow _
              have hB1 : Below w.heap.size w w1 := ((hB.alloc hBs _).alloc (by simp; omega) _).grown hgrow (by simp; omega) (fun k e => (World.ownsRow.lt hrow k e).1)
              go_wp2
              go_roundw
              case rel => exact ⟨j + 1, zs ++ [(j, [s[j]])], none, by omega, by go_num, H.out, by rw [show zs ++ [(j, [s[j]])] ++ flushT none = zs ++ [(j, [s[j]])] from List.append_nil _]; exact Own.snoc hown', hB1⟩
              case measure => simp [intOf]; omega
            · have hk0 : kindI s[j].toNat = 2 := hkd.2.2.2 g
              cases cur with
              | none =>
                rw [show ys ++ flushT none = ys from List.append_nil _] at hrow hroom
                have H := Lib.hid (hfar.more0 hget g)
                have hp := hfar.prev0 hlt
                clear hfar hget hkd
                rcases hp with hp | ⟨hp, hp2⟩
                · go_wp2_with (first | (go_at_call 89; refine (kind_anyX _ _).mono ?_; rintro e w' ⟨rfl, rfl⟩) | (at_builtin; refine wpList_append_own _ rfl _ _ 101 rfl w.heap.size 108 i0 (.agg #[.string ByteArray.empty, .int .i64 0]) 2 24 Tryz.underlying101 hi hz0 hz1 hz2 rfl (by decide) _ _ _ rfl ((World.ownsRow.alloc hrow _).alloc _) ⟨wr.heap.size + 1, 0, none⟩ 1 1 [.string (bs [s[j]]), .int .i64 (j : Int)] rfl rfl ?c1 ?c2 ?c3 ?c4 ?c5 ?_))
                  case c1 =>
                    have := cell_two_new (wr.alloc (.cells #[.int .u8 (s[j].toNat : Int)] 5)) (.string (bs [s[j]])) (.int .i64 (j : Int)) 108
                    simpa using this
                  case c2 => simp [Value.oneCell']
                  case c3 => simp only [maxLen]; omega
                  case c4 => omega
                  case c5 => simp; omega
                  intro v' w1 hown' hgrow _
                  have hB1 : Below w.heap.size w w1 := ((hB.alloc hBs _).alloc (by simp; omega) _).grown hgrow (by simp; omega) (fun k e => (World.ownsRow.lt hrow k e).1)
                  go_wp2
                  go_roundw
                  case rel => exact ⟨j + 1, ys, some (j, [s[j]]), by omega, by go_num, H.out, Own.snoc (x := (j, [s[j]])) hown', hB1⟩
                  case measure => simp [intOf]; omega
                · have hp1 : ((j : Int) - 1).toNat = j - 1 := by omega
                  have hp3 := hp2 (by omega)
                  clear hp2
                  go_wp2_with (first | (go_at_call 89; refine (kind_anyX _ _).mono ?_; rintro e w' ⟨rfl, rfl⟩) | (at_builtin; refine wpList_append_own _ rfl _ _ 101 rfl w.heap.size 108 i0 (.agg #[.string ByteArray.empty, .int .i64 0]) 2 24 Tryz.underlying101 hi hz0 hz1 hz2 rfl (by decide) _ _ _ rfl ((World.ownsRow.alloc hrow _).alloc _) ⟨wr.heap.size + 1, 0, none⟩ 1 1 [.string (bs [s[j]]), .int .i64 (j : Int)] rfl rfl ?c1 ?c2 ?c3 ?c4 ?c5 ?_))
                  case c1 =>
                    have := cell_two_new (wr.alloc (.cells #[.int .u8 (s[j].toNat : Int)] 5)) (.string (bs [s[j]])) (.int .i64 (j : Int)) 108
                    simpa using this
                  case c2 => simp [Value.oneCell']
                  case c3 => simp only [maxLen]; omega
                  case c4 => omega
                  case c5 => simp; omega
                  intro v' w1 hown' hgrow _
                  have hB1 : Below w.heap.size w w1 := ((hB.alloc hBs _).alloc (by simp; omega) _).grown hgrow (by simp; omega) (fun k e => (World.ownsRow.lt hrow k e).1)
                  go_wp2
                  go_roundw
                  case rel => exact ⟨j + 1, ys, some (j, [s[j]]), by omega, by go_num, H.out, Own.snoc (x := (j, [s[j]])) hown', hB1⟩
                  case measure => simp [intOf]; omega
              | some t =>
                obtain ⟨q, t⟩ := t
                have H := Lib.hid (hfar.more hget g)
                have hp := hfar.prev1 hlt
                have htl := hfar.textLen
                rw [size_toList] at htl
                clear hfar hget hkd
                obtain ⟨hp, hp2⟩ := hp
                have hp3 := hp2 (by omega)
                clear hp2
                have hp1 : ((j : Int) - 1).toNat = j - 1 := by omega
                go_wp2_with (first | (go_at_call 89; refine (kind_anyX _ _).mono ?_; rintro e w' ⟨rfl, rfl⟩))
                clear hp hp3 hw g hk0
                obtain ⟨gg, cp, rfl⟩ : ∃ gg cp, u6 = .slice (some ⟨gg, 0, none⟩) (ys.length + 1) cp := by
                  have h3 : 0 < (ys ++ flushT (some (q, t))).length := by simp [flushT]
                  obtain ⟨gg, cp, h4, _⟩ := World.ownsRow.form hrow h3
                  exact ⟨gg, cp, by simpa [flushT] using h4⟩
                have hrow2 : wr.ownsRow w.heap.size 108 2 (.slice (some ⟨gg, 0, none⟩) (ys.length + 1) cp) (ys.length + 1) (ys.flatMap encTok ++ [.string (bs t), .int .i64 (q : Int)]) := by simpa [Own, flushT, encTok] using hrow
                have hyl := flatMap_len encTok 2 (fun _ => rfl) ys
                have hc0 : wr.cell? ⟨gg, ys.length * 2, none⟩ = some (.string (bs t)) := by
                  rw [hrow2.cellAt _ (by omega), ← hyl]; simp
                have hfz := hrow2.frozenAt (ys.length * 2)
                have hix : (0 : Int) ≤ (j : Int) := by omega
                have hix2 : (j : Int) < (s.size : Int) := by omega
                have hlim : ys.length ≤ 4096 := by simp [flushT] at hroom; omega
                have e1 : IntKind.i64.wrap ((ys.length : Int) + 1 - 1) = (ys.length : Int) := (IntWalk.i64_in ((ys.length : Int) + 1 - 1) (by omega)).trans (by omega)
                have e2 : IntKind.i64.wrap (ys.length : Int) = (ys.length : Int) := IntWalk.i64_in _ (by omega)
                have e3 : (0 : Int) ≤ (ys.length : Int) := by omega
                have e4 : (ys.length : Int) < (ys.length : Int) + 1 := by omega
                have hcd := conv1d
                have e5 : (bs t).size = t.length := by rw [← size_toList, bs_toList]
                have e6 : (bs [s[j]]).size = 1 := rfl
                have e7 : (bs t).size + (bs [s[j]]).size ≤ 9223372036854775807 := by rw [e5, e6]; omega
                clear e5 e6
                have hH := Lib.hid hrow2
                have hyl' := Lib.hid hyl
                clear hrow hrow2 hyl
                have hgl := World.block_lt_of_cell? wr _ hc0
                have hc1 : (wr.alloc (.cells #[.int .u8 (s[j].toNat : Int)] 5)).cell? ⟨gg, ys.length * 2, none⟩ = some (.string (bs t)) := (World.cell?_alloc_lt wr _ _ hgl).trans hc0
                have hf1 : (wr.alloc (.cells #[.int .u8 (s[j].toNat : Int)] 5)).frozen? ⟨gg, ys.length * 2, none⟩ = false := by
                  rw [World.frozen?_of_block (w := wr) (Below.heap_alloc wr _ _ hgl)]; exact hfz
                have e8 : ¬ 9223372036854775807 < (bs t).size + (bs [s[j]]).size := by omega
                clear e7
                go_region
                go_wp2
                go_roundw
                case rel =>
                  have hst := World.ownsRow.alloc (World.ownsRow.stored hH.out (ys.length * 2) (.string (bs t ++ bs [s[j]]))).1 (.cells #[.int .u8 (s[j].toNat : Int)] 5)
                  refine ⟨j + 1, ys, some (q, t ++ [s[j]]), by omega, by go_num, H.out, ?_, ((hB.setCell (p := ⟨gg, ys.length * 2, none⟩) (World.ownsRow.lt hH.out gg rfl).1 _).alloc (by simpa using hBs) _).drew⟩
                  have e9 : (ys.flatMap encTok ++ [Value.string (bs t), Value.int .i64 (q : Int)]).set (ys.length * 2) (Value.string (bs t ++ bs [s[j]])) = (ys ++ flushT (some (q, t ++ [s[j]]))).flatMap encTok := by
                    rw [← hyl'.out, List.set_append_right _ _ (Nat.le_refl _), Nat.sub_self]
                    have e10 : bs t ++ bs [s[j]] = bs (t ++ [s[j]]) := toList_inj (by rw [toList_append, bs_toList, bs_toList, bs_toList])
                    simp [flushT, encTok, e10]
                  rw [e9] at hst
                  have e11 : ys.length + 1 = (ys ++ flushT (some (q, t ++ [s[j]]))).length := by simp [flushT]
                  unfold Own
                  rw [← e11]
                  exact hst
                case measure => simp [intOf]; omega
          · have hw : wordsS s.toList = (ys ++ flushT cur, 0, 0) := by
              unfold wordsS
              rw [if_neg (by rw [size_toList]; omega), hcl2.out, hfar.1, List.drop_of_length_le (by rw [size_toList]; omega)]
              cases cur <;> rfl
            obtain ⟨A, c, rfl⟩ := Own.shape hrow
            go_wp2
            go_ret3
            exact ⟨_, by rw [hw]; rfl, by rw [hw]; exact hrow, hB⟩
end Go.Proofs.YtnfagaccbkeikaaGreatDoor
