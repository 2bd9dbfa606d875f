/- RlLaw0, RichPlain3, DepShow, AppendTR -/
import Derived.Test.YtnfagaccbkeikaaGreatDoorRichReadsRowG32
import Derived.Test.YtnfagaccbkeikaaGreatDoorRichReadsRowG30
import Derived.Test.YtnfagaccbkeikaaGreatDoorRichReadsRowG25
import Derived.Test.YtnfagaccbkeikaaGreatDoorRichReadsRowG03
import Derived.Deep.QuietTactic
import Derived.BigQuiet
import Derived.Maps.AppendAt
namespace Go.Proofs.YtnfagaccbkeikaaGreatDoor
section
/- Walks: what the statements of lex ask first: are these a text's words; are the examples as they are told; is it too long. -/




open Go.RowKit Go.Shelf

theorem Rd.of_block {α : Type} {enc : α → List Value} {size cap g : Nat} {l : List α} {w : World} {cs : Array Value} {t : TypeId} {fz : Nat × Nat} (he : ∀ x, (enc x).length = size)
    (h : w.heap[g]? = some (.cells cs t fz)) (hcs : cs.toList = l.flatMap enc) (hc : l.length ≤ cap) (hm : cap ≤ maxLen) : Rd enc size w.heap.size (some ⟨g, 0, none⟩) cap l w := by
  refine ⟨hc, hm, fun k hk => ⟨g, 0, rfl, (Array.getElem?_eq_some_iff.1 h).1, fun j u hu => ?_⟩⟩
  have hj : j < size := by have := (List.getElem?_eq_some_iff.1 hu).1; rw [he] at this; exact this
  rw [cell_of_row w g _ cs t fz h, ← Array.getElem?_toList, hcs, Nat.zero_add, flatMap_at enc size he l k hk j hj]
  exact hu

def AllInn (s : ByteArray) (k : Nat) : Prop := (s.toList.take k).all inn = true
theorem AllInn.next {s : ByteArray} {k : Nat} (h : AllInn s k) (hlt : k < s.size) : (inn s[k] = true → AllInn s (k + 1)) ∧ (inn s[k] = false → s.toList.all inn = false) := by
  constructor
  · intro g
    unfold AllInn at *
    rw [toList_take_succ s k hlt, List.all_append, h]
    simp [g]
  · intro g
    rw [List.all_eq_false]
    exact ⟨s[k], by rw [← toList_get s k hlt]; exact List.getElem_mem _, by simp [g]⟩
end
section
/- Rich dependencies in plain terms: their text; unlike ones have unlike texts. -/



open Go.RowKit

def showR (t : RT) : Bytes × Int := if t.whole = true then (if 4096 < (joinS none t.words).length then ([], 40) else (joinS none t.words, 0)) else ([], 4)
theorem dwords_short {d : Dp} (h : dmayB d = true) : ∀ w ∈ dwords d, w.length ≤ 150 := by
  intro w hw
  have hn := name_iff.1 (dmay_iff.1 h).1
  unfold dwords at hw
  split at hw
  · simp at hw; subst hw; omega
  · rename_i h0
    simp only [List.mem_cons, List.not_mem_nil, or_false] at hw
    have hm : mayB d.evr true = true := by
      rcases (dmay_iff.1 h).2.2 with ⟨e, _⟩ | ⟨_, _, e⟩
      · exact absurd e h0
      · exact e
    rcases hw with rfl | rfl | rfl
    · omega
    · rcases opMay_cases (dmay_iff.1 h).2.1 with e | e | e | e | e | e
      all_goals rw [e]; decide
    · have := showL_len hm; omega
theorem between_short (k : Int) (i : Nat) : (betweenK k i).length ≤ 150 := by
  unfold betweenK kwd; repeat' split
  all_goals decide
theorem sepW_mem {k : Int} {i : Nat} {w : Bytes} (h : w ∈ sepW k i) : w = betweenK k i := by
  unfold sepW at h; split at h <;> simp at h; exact h
/-- whatever a word of a plain dependency and the words of brackets have, all words have -/
theorem words_each (P : Bytes → Prop) (hd : ∀ d, dmayB d = true → ∀ w ∈ dwords d, P w) (hb : ∀ k i, P (betweenK k i)) (h40 : P [40]) (h41 : P [41]) : (∀ t : RT, t.okB = true → ∀ w ∈ t.words, P w) :=
  go
where
  go : ∀ t : RT, t.okB = true → ∀ w ∈ t.words, P w
  | .mk k d l, h, w, hw => by
    by_cases hk : k = 1
    · simp only [RT.okB, if_pos hk, Bool.and_eq_true] at h
      simp only [RT.words, if_pos hk] at hw
      exact hd d h.2 w hw
    · simp only [RT.okB, if_neg hk, Bool.and_eq_true] at h
      simp only [RT.words, if_neg hk, List.mem_cons, List.mem_append, List.not_mem_nil, or_false] at hw
      rcases hw with rfl | hw | rfl
      · exact h40
      · exact goL k l h.2.2.2 0 w hw
      · exact h41
  goL (k : Int) : ∀ l : List RT, okL l = true → ∀ (i : Nat), ∀ w ∈ wordsR k i l, P w
  | [], _, i, w, hw => by simp [wordsR] at hw
  | a :: l, h, i, w, hw => by
    simp only [okL, Bool.and_eq_true] at h
    simp only [wordsR, List.mem_append] at hw
    rcases hw with hw | hw | hw
    · rw [sepW_mem hw]; exact hb k i
    · exact go a h.1 w hw
    · exact goL k l h.2 (i + 1) w hw
theorem words_short' {t : RT} (h : t.okB = true) : ∀ w ∈ t.words, w.length ≤ 150 := words_each _ (fun _ h => dwords_short h) between_short (by decide) (by decide) t h
mutual
theorem words_many : ∀ t : RT, t.words.length ≤ 5 * t.parts - 1
  | .mk k d l => by
    have hp := parts_pos (.mk k d l)
    simp only [RT.words, RT.parts] at *
    split
    · rcases dwords_len d with e | e <;> omega
    · have := wordsR_many k 0 l
      simp only [List.length_cons, List.length_append, List.length_nil]
      omega
theorem wordsR_many (k : Int) : ∀ (i : Nat) (l : List RT), (wordsR k i l).length ≤ 5 * partsL l
  | i, [] => by simp [wordsR]
  | i, a :: l => by
    have h1 := words_many a
    have h2 := wordsR_many k (i + 1) l
    have h3 := parts_pos a
    have h4 : (sepW k i).length ≤ 1 := by unfold sepW; split <;> simp
    simp only [wordsR, partsL, List.length_append]
    omega
end
theorem weigh_le {n : Nat} : ∀ l : List Bytes, (∀ w ∈ l, w.length ≤ n) → weigh l ≤ l.length * (n + 1)
  | [], _ => by simp [weigh]
  | a :: l, h => by
    have h1 := weigh_le l fun w hw => h w (by simp [hw])
    have h2 := h a (by simp)
    simp only [weigh, List.map_cons, List.sum_cons, List.length_cons, Nat.add_mul] at *
    omega
theorem weigh_words {t : RT} (h : t.okB = true) (hp : t.parts ≤ 1000000) : weigh t.words ≤ 1000000000 := by
  have h1 := weigh_le t.words (words_short' h)
  have h2 := words_many t
  have := Nat.mul_le_mul_right 151 (show t.words.length ≤ 5000000 by omega)
  omega
end
section
/- Walks: texts of dependencies; the dependency of a text. -/


open Go.RowKit Go.Shelf

theorem wordsL_yes {d : Dp} (h : dmayB d = true) : wordsL d = (dwords d).map bs ∧ codeD d = 0 := by unfold wordsL codeD; rw [h, if_pos rfl]; exact ⟨rfl, rfl⟩
end
section
/- append of a slice of texts that came in, wherever it lies, nil too, onto a row of the call's own. -/



open Go.RowKit

section
variable {P : Program} (w : World)
theorem run_append_none (base : Nat) (t ty e : TypeId) (i : TypeInfo) (size : Nat) (ht : P.underlying t = some (.slice e)) (hi : P.info? e = some i)
    (v : Value) (n : Nat) (xs : List Value) (hown : w.ownsRow base e size v n xs) (c : Nat) : (Builtin.append_ #[t, t] ty #[v, .slice none 0 c]).run P w = .ok v w := by
  rcases hown.2 with ⟨rfl, rfl⟩ | ⟨g, cap, cur, rfl, _, _, hnc, _⟩
  · simp [Builtin.append_, run_underlying ht, sizeOf, typeInfo, hi, Builtin.lenOf, Builtin.firstCells]
  · simp [Builtin.append_, run_underlying ht, sizeOf, typeInfo, hi, Builtin.lenOf, Builtin.firstCells, hnc, storeCells]
theorem run_append_tr (base : Nat) (t ty e : TypeId) (i : TypeInfo) (ht : P.underlying t = some (.slice e)) (hi : P.info? e = some i) (hz : i.zero = some (.string { data := #[] })) (hsize : i.size = 1) (hby : i.bytes = 16)
    (v : Value) (n : Nat) (xs : List Value) (hown : w.ownsRow base e 1 v n xs) (A : Option Addr) (c : Nat) (D : List ByteArray) (hT : TR w A D) (h63 : n + D.length ≤ maxLen) (hbytes : (n + D.length) * 16 ≤ 140737488355328) (hbase : base ≤ w.heap.size) :
    ∃ v' w', (Builtin.append_ #[t, t] ty #[v, .slice A D.length c]).run P w = .ok v' w' ∧ w'.ownsRow base e 1 v' (n + D.length) (xs ++ D.map Value.string) ∧ w.grownBy w' v.ownBlock ∧ (v'.ownBlock = v.ownBlock ∨ v'.ownBlock = some w.heap.size) := by
  cases A with
  | none =>
    have hD : D = [] := by
      cases D with
      | nil => rfl
      | cons x D => obtain ⟨b, o, e, _⟩ := hT 0 (by simp); cases e
    subst hD
    exact ⟨v, w, run_append_none w base t ty e i 1 ht hi v n xs hown c, by simpa using hown, World.grownBy.refl w _, .inl rfl⟩
  | some ad =>
    obtain ⟨v', w', hrun, r1, r2, _, r4⟩ := run_append_own_at (P := P) w base t ty e i (.string { data := #[] }) 1 16 ht hi hz hsize hby rfl (by decide) v n xs hown ad D.length c (D.map Value.string) (by simp) (fun j u hu => by
      obtain ⟨hj, rfl⟩ := List.getElem?_eq_some_iff.1 hu
      obtain ⟨b, o, e2, _, hc⟩ := hT j (by simpa using hj)
      cases e2
      rw [Addr.add_lit]
      simpa using hc) (fun u hu => by obtain ⟨x, _, rfl⟩ := List.mem_map.1 hu; rfl) h63 hbytes hbase
    exact ⟨v', w', hrun, r1, r2, r4⟩
theorem wpList_append_tr {ops : Array Oper} {rest : List Oper} {o : Oper} {a : Act} {Q : Exit → Act → World → Prop} (hgd : o.guard = none) (s x : Operand) (t : TypeId)
    (ho : o.op = .call { callee := .builtin .append, args := #[s, x], argTypes := #[t, t] })
    (base : Nat) (e : TypeId) (i : TypeInfo) (ht : P.underlying t = some (.slice e)) (hi : P.info? e = some i) (hz : i.zero = some (.string { data := #[] })) (hsize : i.size = 1) (hby : i.bytes = 16)
    (v : Value) (n : Nat) (xs : List Value) (hs : a.eval s = v) (hown : w.ownsRow base e 1 v n xs) (A : Option Addr) (c : Nat) (D : List ByteArray) (m : Nat) (hm : m = D.length) (hx : a.eval x = .slice A m c) (hT : TR w A D) (h63 : n + D.length ≤ maxLen) (hbytes : (n + D.length) * 16 ≤ 140737488355328) (hbase : base ≤ w.heap.size)
    (h : ∀ v' w', w'.ownsRow base e 1 v' (n + D.length) (xs ++ D.map Value.string) → w.grownBy w' v.ownBlock → (v'.ownBlock = v.ownBlock ∨ v'.ownBlock = some w.heap.size) → wpList P ops Q rest (a.put o.dst v') w') :
    wpList P ops Q (o :: rest) a w := by
  subst hm
  refine wpList_plain hgd fun _ hK => ?_
  obtain ⟨v', w', hrun, r1, r2, r3⟩ := run_append_tr (P := P) w base t o.type e i ht hi hz hsize hby v n xs hown A c D hT h63 hbytes hbase
  unfold Oper.wp
  simp [execOp, ho, resolve, invoke, builtin, hs, hx, hrun, Result.andThen]
  exact hK _ _ (h v' w' r1 r2 r3)
end
end
end Go.Proofs.YtnfagaccbkeikaaGreatDoor
