/- joined: RichBracket, RichBrk, RichCatch, RichClone, RichParse -/
import Derived.Test.YtpnnhhgojijlbaaDoorRcA
import Derived.Test.YtpnnhhgojijlbaaDoorAppendRd
import Derived.Deep.RegionLaw
import Derived.Test.YtpnnhhgojijlbaaDoorHeld
import Derived.Defers
import Derived.Recover
import Derived.Deep.QuietTactic
import Derived.BigQuiet
import Derived.Test.YtpnnhhgojijlbaaDoorRichMem
import Derived.Test.YtpnnhhgojijlbaaDoorRichPlain2
namespace Go.Proofs.YtpnnhhgojijlbaaDoor
open Go.RowKit Go.Shelf
set_option linter.unusedVariables false
/- Walks: all that is no plain dependency is read (rich.reader's bracket). -/

theorem encR_len (t : RV) : (encR t).length = 7 := rfl
theorem encR_one (t : RV) : ∀ u ∈ encR t, u.oneCell' = true := by
  intro u hu
  simp only [encR, List.mem_cons, List.not_mem_nil, or_false] at hu
  rcases hu with rfl | rfl | rfl | rfl | rfl | rfl | rfl <;> rfl
def zBox (m : Nat) (W : World) : Prop := Box7 m (.int .u8 0) (.string ⟨#[]⟩) (.int .u8 0) (.int .i64 0) (.string ⟨#[]⟩) (.string ⟨#[]⟩) (.slice none 0 0) W
/-- where bracket stands: what is open, what was gathered -/
structure Br (w0 : World) (R e o m m2 : Nat) (W : World) (k : Int) (l : List RV) (v : Value) (ws : List Tok) (n : Nat) (wr : World) : Prop where
  but : ButR R W wr
  res : zBox m wr
  out : Box7 m2 (.int .u8 k) (.string ⟨#[]⟩) (.int .u8 0) (.int .i64 0) (.string ⟨#[]⟩) (.string ⟨#[]⟩) v wr
  own : Own encR 7 (m + 1) 29 v l wr
  away : v.ownBlock ≠ some m2
  tr : ∀ t ∈ l, TQ (fun b => m + 1 ≤ b ∧ b < wr.heap.size ∧ v.ownBlock ≠ some b ∧ b ≠ m2) wr t
  st : ∃ A c, St w0 R e ws n (o + 1) A c wr
  lt : R < m ∧ m < m2 ∧ m = W.heap.size
section
variable {w0 W wr w' : World} {R e o m m2 n n' : Nat} {k k' : Int} {l : List RV} {v : Value} {ws ws' : List Tok}
theorem Br.call (h : Br w0 R e o m m2 W k l v ws n wr) (hb : ButR R wr w') (hS : ∃ A c, St w0 R e ws' n' (o + 1) A c w') : Br w0 R e o m m2 W k l v ws' n' w' where
  but := h.but.trans hb
  res := h.res.butR hb (by have := h.lt; omega)
  out := h.out.butR hb (by have := h.lt; omega)
  own := h.own.butR hb (by have := h.lt; omega)
  away := h.away
  tr := fun t ht => (h.tr t ht).keep (fun b hq => ⟨hq.1, Nat.lt_of_lt_of_le hq.2.1 hb.size, hq.2.2⟩) fun b hq => hb.block b hq.2.1 (by have := h.lt; have := hq.1; omega)
  st := hS
  lt := h.lt
theorem box7_set0 {a0 a1 a2 a3 a4 a5 a6 : Value} (h : Box7 m a0 a1 a2 a3 a4 a5 a6 W) (u : Value) : Box7 m u a1 a2 a3 a4 a5 a6 (W.setCell ⟨m, 0, none⟩ u) := by
  obtain ⟨⟨h0, h1, h2, h3, h4, h5, h6⟩, ⟨f0, f1, f2, f3, f4, f5, f6⟩, hl⟩ := h
  unfold Box7
  refine ⟨⟨?_, ?_, ?_, ?_, ?_, ?_, ?_⟩, ⟨?_, ?_, ?_, ?_, ?_, ?_, ?_⟩, by simpa [World.setCell] using hl⟩
  all_goals simp [go_sem, h0, h1, h2, h3, h4, h5, h6, f0, f1, f2, f3, f4, f5, f6]
theorem box7_set6 {a0 a1 a2 a3 a4 a5 a6 : Value} (h : Box7 m a0 a1 a2 a3 a4 a5 a6 W) (u : Value) : Box7 m a0 a1 a2 a3 a4 a5 u (W.setCell ⟨m, 6, none⟩ u) := by
  obtain ⟨⟨h0, h1, h2, h3, h4, h5, h6⟩, ⟨f0, f1, f2, f3, f4, f5, f6⟩, hl⟩ := h
  unfold Box7
  refine ⟨⟨?_, ?_, ?_, ?_, ?_, ?_, ?_⟩, ⟨?_, ?_, ?_, ?_, ?_, ?_, ?_⟩, by simpa [World.setCell] using hl⟩
  all_goals simp [go_sem, h0, h1, h2, h3, h4, h5, h6, f0, f1, f2, f3, f4, f5, f6]
/-- what a store into the block m2 leaves -/
theorem Br.setOut (h : Br w0 R e o m m2 W k l v ws n wr) (i : Nat) (u : Value) : ButR R W (wr.setCell ⟨m2, i, none⟩ u) ∧ zBox m (wr.setCell ⟨m2, i, none⟩ u) ∧ Own encR 7 (m + 1) 29 v l (wr.setCell ⟨m2, i, none⟩ u) ∧
    (∀ t ∈ l, TQ (fun b => m + 1 ≤ b ∧ b < (wr.setCell ⟨m2, i, none⟩ u).heap.size ∧ v.ownBlock ≠ some b ∧ b ≠ m2) (wr.setCell ⟨m2, i, none⟩ u) t) ∧ ∃ A c, St w0 R e ws n (o + 1) A c (wr.setCell ⟨m2, i, none⟩ u) := by
  have hlt := h.lt
  obtain ⟨A, c, hS⟩ := h.st
  refine ⟨h.but.setNew (p := ⟨m2, i, none⟩) (by show W.heap.size ≤ m2; omega) u, h.res.past ((Below.refl _ _).setCell (p := ⟨m2, i, none⟩) (by show m + 1 ≤ m2; omega) u), ownsRow_setCell_other h.own (a := ⟨m2, i, none⟩) h.away u, fun t ht => (h.tr t ht).keep (fun b hq => ⟨hq.1, by simpa [World.setCell] using hq.2.1, hq.2.2⟩) fun b hq => Below.heap_setCell _ _ _ _ hq.2.2.2, A, c, hS.past ((Below.refl _ _).setCell (p := ⟨m2, i, none⟩) (by show R + 1 ≤ m2; omega) u)⟩
theorem Br.kind (h : Br w0 R e o m m2 W k l v ws n wr) (k' : Int) : Br w0 R e o m m2 W k' l v ws n (wr.setCell ⟨m2, 0, none⟩ (.int .u8 k')) := by
  obtain ⟨h1, h2, h3, h4, h5⟩ := h.setOut 0 (.int .u8 k')
  exact ⟨h1, h2, box7_set0 h.out _, h3, h.away, h4, h5, h.lt⟩
/-- a part more was read: what the row and the struct are then -/
theorem Br.arg {rv : RV} {w6 : World} {v' : Value} {cs : Obj} (h : Br w0 R e o m m2 W k l v ws n wr) (hT : TQ (fun b => w'.heap.size ≤ b ∧ b < wr.heap.size) wr rv) (hw : m2 < w'.heap.size) (hv : ∀ b, v.ownBlock = some b → b < w'.heap.size) (ho : w6.ownsRow (m + 1) 29 7 v' (l.length + 1) (l.flatMap encR ++ encR rv)) (hg : (wr.alloc cs).grownBy w6 v.ownBlock) (hv' : v'.ownBlock = v.ownBlock ∨ v'.ownBlock = some (wr.alloc cs).heap.size) :
    Br w0 R e o m m2 W k (l ++ [rv]) v' ws n (w6.setCell ⟨m2, 6, none⟩ v') := by
  have hlt := h.lt
  have hm2 := h.out.2.2
  have hr : ∀ q, v.ownBlock = some q → m + 1 ≤ q := fun q e => (World.ownsRow.lt h.own q e).1
  have hsz : wr.heap.size + 1 = (wr.alloc cs).heap.size := by simp
  have hG : ∀ {B : Nat}, B ≤ m + 1 → Below B (wr.alloc cs) w6 := fun hB => (Below.refl _ _).grown hg (by omega) (fun k e => Nat.le_trans hB (hr k e))
  have hblk : ∀ b, b < wr.heap.size → v.ownBlock ≠ some b → w6.heap[b]? = wr.heap[b]? := fun b hb hne => (hg.block b (by omega) (fun e => hne e.symm)).trans (Below.heap_alloc _ _ _ hb)
  have haway : v'.ownBlock ≠ some m2 := by
    rcases hv' with e | e
    · rw [e]; exact h.away
    · rw [e]; simp; omega
  have hm2b : w6.heap[m2]? = wr.heap[m2]? := hblk m2 hm2 h.away
  have hz6 := hg.size
  have hQ : ∀ b, b < wr.heap.size → v.ownBlock ≠ some b → v'.ownBlock ≠ some b := fun b hb hne => by
    rcases hv' with e | e
    · rw [e]; exact hne
    · rw [e]; simp; omega
  obtain ⟨A, c, hS⟩ := h.st
  have hout : Box7 m2 (.int .u8 k) (.string ⟨#[]⟩) (.int .u8 0) (.int .i64 0) (.string ⟨#[]⟩) (.string ⟨#[]⟩) v w6 := by
    have hc : ∀ i, w6.cell? ⟨m2, i, none⟩ = wr.cell? ⟨m2, i, none⟩ := fun i => World.cell?_of_block (w := wr) hm2b
    have hf : ∀ i, w6.frozen? ⟨m2, i, none⟩ = wr.frozen? ⟨m2, i, none⟩ := fun i => World.frozen?_of_block (w := wr) hm2b
    obtain ⟨⟨h0, h1, h2, h3, h4, h5, h6⟩, ⟨f0, f1, f2, f3, f4, f5, f6⟩, hl⟩ := h.out
    exact ⟨⟨(hc 0).trans h0, (hc 1).trans h1, (hc 2).trans h2, (hc 3).trans h3, (hc 4).trans h4, (hc 5).trans h5, (hc 6).trans h6⟩, ⟨(hf 0).trans f0, (hf 1).trans f1, (hf 2).trans f2, (hf 3).trans f3, (hf 4).trans f4, (hf 5).trans f5, (hf 6).trans f6⟩, by omega⟩
  have hset : ∀ b, b ≠ m2 → (w6.setCell ⟨m2, 6, none⟩ v').heap[b]? = w6.heap[b]? := fun b hb => Below.heap_setCell _ _ _ _ hb
  have hzs : (w6.setCell ⟨m2, 6, none⟩ v').heap.size = w6.heap.size := by simp [World.setCell]
  refine ⟨((h.but.alloc _).grown hg (fun q e => by have := hr q e; omega)).setNew (p := ⟨m2, 6, none⟩) (by show W.heap.size ≤ m2; omega) _, ?_, box7_set6 hout v', ?_, haway, ?_, ⟨A, c, ?_⟩, hlt⟩
  · exact ((h.res.butR ((ButR.refl R _).alloc cs) (by omega)).past (hG (Nat.le_refl _))).past ((Below.refl _ _).setCell (p := ⟨m2, 6, none⟩) (by show m + 1 ≤ m2; omega) v')
  · exact ownsRow_setCell_other (Own.snoc ho) (a := ⟨m2, 6, none⟩) haway v'
  · intro t ht
    rcases List.mem_append.1 ht with ht | ht
    · exact (h.tr t ht).keep (fun b hq => ⟨hq.1, by omega, hQ b hq.2.1 hq.2.2.1, hq.2.2.2⟩) fun b hq => (hset b hq.2.2.2).trans (hblk b hq.2.1 hq.2.2.1)
    · simp at ht; subst ht
      exact hT.keep (fun b hq => ⟨by omega, by omega, hQ b hq.2 (fun e => by have := hv b e; omega), by omega⟩) fun b hq => (hset b (by omega)).trans (hblk b hq.2 (fun e => by have := hv b e; omega))
  · exact ((hS.then ((Below.refl _ _).alloc (Nat.le_refl _) cs)).past (hG (by omega))).past ((Below.refl _ _).setCell (p := ⟨m2, 6, none⟩) (by show R + 1 ≤ m2; omega) v')
theorem Br.held {w6 : World} {cs : Obj} (h : Br w0 R e o m m2 W k l v ws n wr) (hg : (wr.alloc cs).grownBy w6 v.ownBlock) : w6.cell? ⟨m2, 6, none⟩ = some v ∧ w6.frozen? ⟨m2, 6, none⟩ = false ∧ m2 < w6.heap.size := by
  have hm2 := h.out.2.2
  have hb : w6.heap[m2]? = wr.heap[m2]? := (hg.block m2 (by simp; omega) (fun e => h.away e.symm)).trans (Below.heap_alloc _ _ _ hm2)
  have hz := hg.size
  refine ⟨(World.cell?_of_block (w := wr) (a := ⟨m2, 6, none⟩) hb).trans h.out.1.2.2.2.2.2.2, (World.frozen?_of_block (w := wr) (a := ⟨m2, 6, none⟩) hb).trans h.out.2.1.2.2.2.2.2.2, by simp at hz; omega⟩
theorem Br.node {A : Option Addr} {N c : Nat} (h : Br w0 R e o m m2 W k l (.slice A N c) ws n wr) : N = l.length ∧ TQ (fun b => m + 1 ≤ b ∧ b < wr.heap.size) wr (.node k zeroT A c l) := by
  obtain ⟨A', c', hv, hr⟩ := h.own.rd encR_len
  cases hv
  refine ⟨rfl, .mk ⟨Nat.zero_le _, rfl, rfl, Nat.zero_le _, Nat.zero_le _⟩ hr.1 hr.2.1 (fun k hk => ?_) fun t ht => (h.tr t ht).keep (fun b hq => ⟨hq.1, hq.2.1⟩) fun _ _ => rfl⟩
  obtain ⟨b, off, e', hb, hc⟩ := hr.2.2 k hk
  have e2 : A = some ⟨b, off, none⟩ := e'
  exact ⟨b, off, e', ⟨(World.ownsRow.lt h.own b (by rw [e2]; rfl)).1, hb⟩, hc⟩
theorem Br.start {w2 w3 : World} {rv : RV} (B3 : ButR R W w3) (X3 : zBox W.heap.size w3) (hT : TQ (fun b => w2.heap.size ≤ b ∧ b < w3.heap.size) w3 rv) (hz : W.heap.size + 1 ≤ w2.heap.size) (h23 : w2.heap.size ≤ w3.heap.size) (S3 : ∃ A c, St w0 R e ws n (o + 1) A c w3) (hR : R < W.heap.size) :
    Br w0 R e o W.heap.size (w3.heap.size + 1) W 0 [rv] (.slice (some ⟨w3.heap.size, 0, none⟩) 1 1) ws n ((w3.alloc (.cells #[.int .u8 rv.kind, .string (bs rv.dep.name), .int .u8 rv.dep.op, .int .i64 rv.dep.evr.epoch, .string (bs rv.dep.evr.ver), .string (bs rv.dep.evr.rel), .slice rv.addr rv.args.length rv.cap] 29)).alloc (.cells #[.int .u8 0, .string ⟨#[]⟩, .int .u8 0, .int .i64 0, .string ⟨#[]⟩, .string ⟨#[]⟩, .slice (some ⟨w3.heap.size, 0, none⟩) 1 1] 29)) := by
  obtain ⟨A, c, hS⟩ := S3
  have hb : ∀ {B : Nat}, B ≤ w3.heap.size → Below B w3 ((w3.alloc (.cells #[.int .u8 rv.kind, .string (bs rv.dep.name), .int .u8 rv.dep.op, .int .i64 rv.dep.evr.epoch, .string (bs rv.dep.evr.ver), .string (bs rv.dep.evr.rel), .slice rv.addr rv.args.length rv.cap] 29)).alloc (.cells #[.int .u8 0, .string ⟨#[]⟩, .int .u8 0, .int .i64 0, .string ⟨#[]⟩, .string ⟨#[]⟩, .slice (some ⟨w3.heap.size, 0, none⟩) 1 1] 29)) := fun hB => ((Below.refl _ _).alloc hB _).alloc (by simp; omega) _
  refine ⟨(B3.alloc _).alloc _, X3.past (hb (by omega)), ?_, (own_lit w3 rv _ rfl rfl (by omega)).alloc _, by simp [Value.ownBlock], ?_, ⟨A, c, hS.then (hb (Nat.le_refl _))⟩, by omega⟩
  · have := Box7.new (w3.alloc (.cells #[.int .u8 rv.kind, .string (bs rv.dep.name), .int .u8 rv.dep.op, .int .i64 rv.dep.evr.epoch, .string (bs rv.dep.evr.ver), .string (bs rv.dep.evr.rel), .slice rv.addr rv.args.length rv.cap] 29)) (.int .u8 0) (.string ⟨#[]⟩) (.int .u8 0) (.int .i64 0) (.string ⟨#[]⟩) (.string ⟨#[]⟩) (.slice (some ⟨w3.heap.size, 0, none⟩) 1 1) 29
    rw [show (w3.alloc (.cells #[.int .u8 rv.kind, .string (bs rv.dep.name), .int .u8 rv.dep.op, .int .i64 rv.dep.evr.epoch, .string (bs rv.dep.evr.ver), .string (bs rv.dep.evr.rel), .slice rv.addr rv.args.length rv.cap] 29)).heap.size = w3.heap.size + 1 by simp] at this
    exact this
  · intro t ht
    simp at ht; subst ht
    refine hT.keep (fun b hq => ⟨by omega, by simp; omega, ?_, by omega⟩) fun b hq => (hb (Nat.le_refl _)).block b hq.2
    intro hh
    have : some w3.heap.size = some b := hh
    simp at this
    omega
end

/- Walks: all that is no plain dependency is read (rich.reader's bracket): the walk. -/

def lenOf : Option Value → Nat | some (.slice _ n _) => n | _ => 0
theorem kwd_at {k : Nat} (h2 : 2 ≤ k) (h7 : k < 8) (w : Bytes) : (kwd (k : Int) = w ↔ kindOf w = (k : Int)) := by
  constructor
  · intro h; rw [← h]; exact kindOf_word (by omega) (by omega)
  · intro h
    have := (kindOf_kwd (w := w) (by omega)).1
    rw [h] at this
    exact this
/-- the kind that was found among the first words -/
def upTo (j : Nat) (w : Bytes) : Int := if kindOf w < (j : Int) then kindOf w else 0
theorem kindOf_le (w : Bytes) : 0 ≤ kindOf w ∧ kindOf w ≤ 7 := by
  unfold kindOf; repeat' split
  all_goals omega
theorem upTo_2 (w : Bytes) : upTo 2 w = 0 := by
  unfold upTo
  split
  · rename_i h
    have h0 := kindOf_le w
    by_cases hk : kindOf w = 0
    · exact hk
    · have := (kindOf_kwd hk).2.1; omega
  · rfl
theorem upTo_8 (w : Bytes) : upTo 8 w = kindOf w := by unfold upTo; rw [if_pos (by have := kindOf_le w; omega)]
theorem upTo_hit {j : Nat} {w : Bytes} (h : kindOf w = (j : Int)) : upTo (j + 1) w = (j : Int) := by unfold upTo; rw [if_pos (by omega), h]
theorem upTo_miss {j : Nat} {w : Bytes} (h : ¬ kindOf w = (j : Int)) : upTo (j + 1) w = upTo j w := by
  unfold upTo
  by_cases h1 : kindOf w < (j : Int)
  · rw [if_pos (by omega), if_pos h1]
  · rw [if_neg (by omega), if_neg h1]
theorem more_next {e : Nat} {p : List Tok → Nat → PR} {k : Int} {f : Nat} {l : List RT} {ws ws' : List Tok} {n n' : Nat} {b : RT} (h : p ws.tail n = .ok b ws' n') : moreP e p k (f + 1) l ws n = if atT ws' = [41] then .ok (.mk k zeroT (l ++ [b])) ws'.tail n' else if mostK k ≤ l.length + 1 ∨ atT ws' ≠ betweenK k (l.length + 1) then .stop (atPl e ws') 4 else moreP e p k f (l ++ [b]) ws' n' := by
  rw [moreP, h]
theorem rd_lit (w : World) (t : RV) : Rd encR 7 (w.heap.size + 1) (some ⟨w.heap.size, 0, none⟩) 1 [t] (w.alloc (.cells #[.int .u8 t.kind, .string (bs t.dep.name), .int .u8 t.dep.op, .int .i64 t.dep.evr.epoch, .string (bs t.dep.evr.ver), .string (bs t.dep.evr.rel), .slice t.addr t.args.length t.cap] 29)) := by
  refine ⟨Nat.le_refl _, by decide, fun k hk => ⟨w.heap.size, 0, rfl, Nat.lt_succ_self _, fun j u hu => ?_⟩⟩
  have hk0 : k = 0 := by simp at hk; omega
  subst hk0
  rw [Nat.zero_mul, Nat.add_zero, Nat.zero_add]
  refine (World.cell?_alloc_at _ _ _ _ rfl).trans ?_
  rw [← Array.getElem?_toList]
  exact hu
set_option maxRecDepth 100000 in
set_option maxHeartbeats 16000000 in
theorem rbracket_says {w0 : World} (hI : RichIn w0) {R e o d : Nat} (hd : d + (o + 1) = 8) (hp : PartSays w0 R e (o + 1) d) : BracketSays w0 R e o d := by
  intro x ws n A c W pl hn h
  have H := Lib.hid h
  have HI := Lib.hid hI
  have HP := Lib.hid hp
  have hR := h.lt
  have hb2 := h.base
  have o1 : (0 : Int) ≤ (o : Int) := by omega
  have o2 : (o : Int) ≤ 7 := by omega
  have HN := Lib.hid hn
  clear h hI hp hd hn
  go_enter Tryd.func53, Tryd.ntmps53
  go_wp2_with fail
  go_at_call 84
  refine (rtake_cons _ (H.out.then ((Below.refl _ _).alloc (Nat.le_refl _) _))).mono ?_
  rintro en w1 ⟨rfl, hB1, A1, c1, S1⟩
  have X1 : zBox W.heap.size w1 := (Box7.new W _ _ _ _ _ _ _ _).butR hB1 (by omega)
  have B1 := ((ButR.refl R W).alloc _).trans hB1
  have c3 := S1.c3
  have f3 := S1.f3
  have hz1 : W.heap.size + 1 ≤ w1.heap.size := by have := hB1.size; simpa using this
  clear hB1
  go_wp2_with fail
  go_at_call 26
  have S2 := S1.setOpen (o + 1)
  rw [show ((o + 1 : Nat) : Int) = (o : Int) + 1 by omega] at S2
  have X2 : zBox W.heap.size (w1.setCell ⟨R, 3, none⟩ (.int .i64 ((o : Int) + 1))) := X1.butR ((ButR.refl R _).set 3 _) (by omega)
  have B2 := B1.set 3 (.int .i64 ((o : Int) + 1))
  have hz2 : W.heap.size + 1 ≤ (w1.setCell ⟨R, 3, none⟩ (.int .i64 ((o : Int) + 1))).heap.size := by simpa [World.setCell] using hz1
  clear S1 X1 B1 c3 f3 hz1
  generalize w1.setCell ⟨R, 3, none⟩ (.int .i64 ((o : Int) + 1)) = w2 at *
  refine (HP.out ws (n + 1) _ _ _ HN.out S2).mono ?_
  rintro en w3 ⟨hB3, hPP⟩
  have B3 := B2.trans hB3
  have X3 : zBox W.heap.size w3 := X2.butR hB3 (by omega)
  have hz3 := hB3.size
  clear S2 X2 B2 hB3
  cases hpp : partP e d ws (n + 1) with
  | stop p y =>
    have HR := Lib.hid (show bracketP e (partP e d) ws (n + 1) = .stop p y by unfold bracketP; rw [hpp])
    rw [hpp] at hPP
    simp only at hPP
    subst hPP
    clear hpp
    unfold stopV
    go_wp2_with fail
    exact ⟨rfl, PartPost.stop HR.out B3⟩
  | ok a vs n' =>
    have HR := Lib.hid (show bracketP e (partP e d) ws (n + 1) = if kindOf (atT vs) = 0 then .stop (atPl e vs) 4 else moreP e (partP e d) (kindOf (atT vs)) 25 [a] vs n' by unfold bracketP; rw [hpp])
    rw [hpp] at hPP
    obtain ⟨rv, hrt, rfl, hT, A3, c3, S3⟩ := hPP
    have HNN := Lib.hid (part_ok e d _ _ _ _ _ HN.out hpp).2.2.1
    clear hpp
    unfold RV.val
    go_wp2_with fail
    go_at_call 27
    have BR := Br.start (o := o) B3 X3 hT hz2 hz3 ⟨A3, c3, S3⟩ hR
    obtain ⟨A4, c4, S4⟩ := BR.st
    obtain ⟨sv, hsv⟩ : ∃ sv, sv = bs (atT vs) := ⟨_, rfl⟩
    have HSV := Lib.hid hsv
    have hq := rat_any _ S4
    rw [← hsv] at hq
    refine hq.mono ?_
    rintro en w5 ⟨rfl, hB5, S5⟩
    have BR5 := Lib.hid (BR.call hB5 ⟨_, _, S5⟩)
    obtain ⟨m2, hm2⟩ : ∃ m2, m2 = w3.heap.size + 1 := ⟨_, rfl⟩
    obtain ⟨g3, hg3⟩ : ∃ g3, g3 = w3.heap.size := ⟨_, rfl⟩
    rw [← hm2, ← hg3] at BR5
    rw [← hg3] at hm2
    have HG := Lib.hid hm2
    clear hq hsv BR S4 S5 hT S3 hB5 B3 X3 hz3 hz2
    rw [← hg3, ← hm2]
    clear hg3 hm2
    generalize hvv : (Value.slice (some ⟨g3, 0, none⟩) 1 1) = v at *
    clear hvv
    go_wp2_with fail
    go_loopw [8] (fun kk wr => ∃ j : Nat, 2 ≤ j ∧ j ≤ 8 ∧ kk = .int .u8 (j : Int) ∧ Br w0 R e o W.heap.size m2 W (upTo j (atT vs)) [rv] v vs n' wr) (fun kk _ => 8 - (intOf kk).toNat)
    case atStart => exact ⟨2, by omega, by omega, rfl, by rw [upTo_2]; exact BR5.out⟩
    case round =>
      obtain ⟨j, hj, hj8, rfl, hB⟩ := hrel
      rename World => wr
      have j0 : (0 : Int) ≤ (j : Int) := by omega
      by_cases hlt : j < 8
      · have i1 : (j : Int) ≤ 7 := by omega
        have i2 : (j : Int) < 8 := by omega
        obtain ⟨A6, c6, S6⟩ := hB.st
        obtain ⟨k0, k1⟩ := (HI.out.2.past (Nat.le_refl _) S6.old).at_ hj hlt
        obtain ⟨kw, hkw⟩ : ∃ kw, kw = bs (kwd (j : Int)) := ⟨_, rfl⟩
        rw [← hkw] at k0
        obtain ⟨⟨h0, h1, h2, h3, h4, h5, h6⟩, ⟨f0, f1, f2, f3, f4, f5, f6⟩, hl⟩ := hB.out
        have HB := Lib.hid hB
        by_cases hk : kindOf (atT vs) = (j : Int)
        · have e1 : kw = sv := by rw [hkw, HSV.out, (kwd_at hj hlt (atT vs)).2 hk]
          have HK := Lib.hid hk
          clear hB hkw S6 hk k1
          subst e1
          go_wp2_with fail
          exact ⟨⟨j + 1, by omega, by omega, by go_num, by rw [upTo_hit HK.out]; exact HB.out.kind _⟩, by simp [intOf]; omega⟩
        · have e1 : (kw.toList == sv.toList) = false := by
            rw [hkw, HSV.out, bs_toList, bs_toList]
            simp only [beq_eq_false_iff_ne]
            exact fun hh => hk ((kwd_at hj hlt (atT vs)).1 hh)
          have HK := Lib.hid hk
          clear hB hkw S6 hk k1
          go_wp2_with fail
          exact ⟨⟨j + 1, by omega, by omega, by go_num, by rw [upTo_miss HK.out]; exact HB.out⟩, by simp [intOf]; omega⟩
      · obtain rfl : j = 8 := by omega
        rw [upTo_8] at hB
        rw [show ((8 : Nat) : Int) = 8 from rfl]
        by_cases hk0 : kindOf (atT vs) = 0
        · have HR2 := Lib.hid (show bracketP e (partP e d) ws (n + 1) = .stop (atPl e vs) 4 by rw [HR.out, if_pos hk0])
          rw [hk0] at hB
          have HB := Lib.hid hB
          obtain ⟨⟨h0, h1, h2, h3, h4, h5, h6⟩, ⟨f0, f1, f2, f3, f4, f5, f6⟩, hl⟩ := hB.out
          clear hB hk0 HR
          go_wp2_with fail
          exact ⟨rfl, PartPost.stop HR2.out HB.out.but⟩
        · have hkk := kindOf_kwd hk0
          obtain ⟨q, hq⟩ : ∃ q : Nat, kindOf (atT vs) = (q : Int) := ⟨(kindOf (atT vs)).toNat, by omega⟩
          have HR2 := Lib.hid (show bracketP e (partP e d) ws (n + 1) = moreP e (partP e d) (q : Int) 25 [a] vs n' by rw [HR.out, if_neg hk0, hq])
          rw [hq] at hB hkk
          have hq2 : 2 ≤ q := by omega
          have hq8 : q < 8 := by omega
          have hqn : ((q : Int) == 0) = false := by simp only [beq_eq_false_iff_ne]; omega
          have HBW := Lib.hid (show atT vs = betweenK (q : Int) 1 by unfold betweenK; rw [if_neg (by omega)]; exact hkk.1.symm)
          have HMK := Lib.hid (mostK_two (q : Int))
          have HMK2 := Lib.hid (mostK_le (q : Int))
          have HB := Lib.hid hB
          obtain ⟨⟨h0, h1, h2, h3, h4, h5, h6⟩, ⟨f0, f1, f2, f3, f4, f5, f6⟩, hl⟩ := hB.out
          clear hB hk0 HR hq hkk
          go_wp2_with fail
          go_loopw [6, 7] (fun sw pp wr => ∃ (l : List RV) (v : Value) (ws2 : List Tok) (n2 f : Nat), sw = .string (bs (atT ws2)) ∧ pp = .int .i64 (atPl e ws2 : Int) ∧ Br w0 R e o W.heap.size m2 W (q : Int) l v ws2 n2 wr ∧ moreP e (partP e d) (q : Int) f (treeL l) ws2 n2 = bracketP e (partP e d) ws (n + 1) ∧ f + l.length = 26 ∧ 1 ≤ l.length ∧ l.length + 1 ≤ mostK (q : Int) ∧ atT ws2 = betweenK (q : Int) l.length ∧ n2 ≤ 24) (fun _ _ wr => 26 - lenOf (wr.cell? ⟨m2, 6, none⟩))
          case atStart => exact ⟨[rv], v, vs, n', 25, by rw [HSV.out], rfl, HB.out, by rw [HR2.out]; simp [treeL, hrt], rfl, by simp, HMK.out, HBW.out, HNN.out⟩
          case round =>
            obtain ⟨l, v, ws2, n2, f, rfl, rfl, hB, hM, hf, hl1, hl2, hat, hn2⟩ := hrel
            rename World => wr
            obtain ⟨y, r, rfl⟩ : ∃ y r, ws2 = y :: r := by
              cases ws2 with
              | nil => exact absurd hat.symm (between_ne _ _)
              | cons y r => exact ⟨y, r, rfl⟩
            obtain ⟨f, rfl⟩ : ∃ f', f = f' + 1 := ⟨f - 1, by have := HMK2.out; omega⟩
            obtain ⟨A7, c7, S7⟩ := hB.st
            have HB := Lib.hid hB
            have HM := Lib.hid hM
            have HF := Lib.hid hf
            have HL1 := Lib.hid hl1
            have HL2 := Lib.hid hl2
            have HN2 := Lib.hid hn2
            clear hB hM hf hl1 hl2 hn2 hat
            clear h0 h1 h2 h3 h4 h5 h6 f0 f1 f2 f3 f4 f5 f6 hl
            go_wp2_with fail
            go_at_call 84
            refine (rtake_cons _ S7).mono ?_
            rintro en w7 ⟨rfl, hB7, A8, c8, S8⟩
            have BR7 := Lib.hid (HB.out.call hB7 ⟨_, _, S8⟩)
            obtain ⟨⟨h0, h1, h2, h3, h4, h5, h6⟩, ⟨f0, f1, f2, f3, f4, f5, f6⟩, hl⟩ := BR7.out.out
            clear hB7 S7
            cases hpp : partP e d r n2 with
            | stop p z =>
              have HR3 := Lib.hid (show bracketP e (partP e d) ws (n + 1) = .stop p z by rw [← HM.out]; unfold moreP; rw [List.tail_cons, hpp])
              have HQ := Lib.hid (fun (W' : World) (hb : Below w7.heap.size w7 W') => HP.out r n2 A8 c8 W' HN2.out (S8.then hb))
              rw [hpp] at HQ
              clear hpp S8
              go_wp2_with fail
              refine wp_region_held_drew (S := fun W' => W'.cell? ⟨m2, 6, none⟩ = some v) (by kernel_rfl) h6 (fun hHeld => ?_)
              refine held_take 0 (some 48) ?_ rfl rfl (by kernel_rfl) (by kernel_rfl) (by kernel_rfl) (fun _ _ _ h => h) (by assumption) (by rfl) ?_ ?_
              rotate_left
              · intro w hSw
                try dsimp only at hSw
                try simp only [List.getElem_toArray, List.getElem_cons_zero]
                go_simp
                try with_reducible rfl
              try simp only [Act.put, List.setIfInBounds_toArray, List.set_cons_zero, List.set_cons_succ]
              refine held_take 1 (some 49) ?_ rfl rfl (by kernel_rfl) (by kernel_rfl) (by kernel_rfl) (fun _ _ _ h => h) (by assumption) (by rfl) ?_ ?_
              rotate_left
              · intro w hSw
                try dsimp only at hSw
                try simp only [List.getElem_toArray, List.getElem_cons_succ, List.getElem_cons_zero]
                go_simp
                try with_reducible rfl
              try simp only [Act.put, List.setIfInBounds_toArray, List.set_cons_zero, List.set_cons_succ]
              refine held_take 2 (some 50) ?_ rfl rfl (by kernel_rfl) (by kernel_rfl) (by kernel_rfl) (fun _ _ _ h => h) (by assumption) (by rfl) ?_ ?_
              rotate_left
              · intro w hSw
                try dsimp only at hSw
                try simp only [List.getElem_toArray, List.getElem_cons_succ, List.getElem_cons_zero]
                go_simp
                try with_reducible rfl
              try simp only [Act.put, List.setIfInBounds_toArray, List.set_cons_zero, List.set_cons_succ]
              refine wpAnyH_ready (rs := [3]) (by kernel_rfl) (by simp) ?_
              refine AllReadyH.cons rfl (fun K hK => ?_) AllReadyH.nil
              try simp only [List.getElem_toArray, List.getElem_cons_succ, List.getElem_cons_zero]
              go_simp
              go_at_call 26
              refine (HQ.out _ (Below.refl _ _).drew).mono ?_
              rintro en w8 ⟨hB8, rfl⟩
              unfold stopV
              dsimp only
              exact ⟨rfl, PartPost.stop HR3.out (BR7.out.but.drew.trans hB8)⟩
            | ok b ws3 n3 =>
              have HR3 := Lib.hid (show bracketP e (partP e d) ws (n + 1) = if atT ws3 = [41] then .ok (.mk (q : Int) zeroT (treeL l ++ [b])) ws3.tail n3 else if mostK (q : Int) ≤ l.length + 1 ∨ atT ws3 ≠ betweenK (q : Int) (l.length + 1) then .stop (atPl e ws3) 4 else moreP e (partP e d) (q : Int) f (treeL l ++ [b]) ws3 n3 by rw [← HM.out, more_next (show partP e d (y :: r).tail n2 = .ok b ws3 n3 from hpp), treeL_len])
              have HQ := Lib.hid (fun (W' : World) (hb : Below w7.heap.size w7 W') => HP.out r n2 A8 c8 W' HN2.out (S8.then hb))
              rw [hpp] at HQ
              have HN3 := Lib.hid (part_ok e d _ _ _ _ _ HN2.out hpp).2.2.1
              have hvs : ∀ b, v.ownBlock = some b → b < w7.drew.heap.size := fun b hb => (World.ownsRow.lt BR7.out.own b hb).2
              have HV := Lib.hid hvs
              have HLL := Lib.hid (show l.length ≤ 24 by have := HL2.out; have := HMK2.out; omega)
              clear hpp S8 hvs
              go_wp2_with fail
              go_region_law (first | (refine step_append_rd (P := Tryd.prog) _ rfl _ _ 27 rfl (W.heap.size + 1) 29 _ _ 7 _ (by rfl) (by rfl) (by rfl) (by rfl) (by rfl) (by rfl) (by decide) encR_len encR_one v _ _ rfl (World.ownsRow.alloc BR8.out.own _) (w8.heap.size + 1) (some ⟨w8.heap.size, 0, none⟩) 1 [rv2] 1 rfl rfl (rd_lit w8 rv2) (by have := HLL.out; simp; omega) (by decide) (by have := BR8.out.lt; simp; omega) ?_; intro v2 w9 ho2 hg2 hv2; simp only [List.length_cons, List.length_nil, Nat.zero_add, List.flatMap_cons, List.flatMap_nil, List.append_nil] at ho2; obtain ⟨y6, z6, zl⟩ := BR8.out.held hg2; obtain ⟨AA, cc, rfl⟩ := own_shape ho2) | (go_simp; go_at_call 26; refine (HQ.out _ (Below.refl _ _).drew).mono ?_; rintro en w8 ⟨hB8, rv2, hrt2, rfl, hT2, A9, c9, S9⟩; have BR7d := (BR7.out.call (ButR.refl R w7).drew (by obtain ⟨A, c, hS⟩ := BR7.out.st; exact ⟨A, c, hS.then (Below.refl _ _).drew⟩)); have BR8 := Lib.hid (BR7d.call hB8 ⟨A9, c9, S9⟩); have g6 := BR8.out.out.1.2.2.2.2.2.2; have el := BR8.out.out.2.2; have HT2 := Lib.hid hT2; have HLT := Lib.hid (show m2 < w7.drew.heap.size from BR7d.out.2.2); clear BR7d hT2 hB8 S9; have q6 : (w8.alloc (.cells #[.int .u8 rv2.kind, .string (bs rv2.dep.name), .int .u8 rv2.dep.op, .int .i64 rv2.dep.evr.epoch, .string (bs rv2.dep.evr.ver), .string (bs rv2.dep.evr.rel), .slice rv2.addr rv2.args.length rv2.cap] 29)).cell? ⟨m2, 6, none⟩ = some v := (World.cell?_alloc_lt w8 _ ⟨m2, 6, none⟩ el).trans g6; unfold RV.val; dsimp only))
              all_goals
                have BR9 := Lib.hid (BR8.out.arg HT2.out HLT.out HV.out ho2 hg2 hv2)
                clear y6 z6 zl q6 g6 el ho2 hg2 hv2 HT2
                generalize w9.setCell ⟨m2, 6, none⟩ (.slice AA (l.length + 1) cc) = w10 at *
                obtain ⟨A10, c10, S10⟩ := BR9.out.st
                obtain ⟨s3, hs3⟩ : ∃ s3, s3 = bs (atT ws3) := ⟨_, rfl⟩
                have hs3l : s3.toList = atT ws3 := by rw [hs3, bs_toList]
                have ha := rat_any _ S10
                rw [← hs3] at ha
                have HA := Lib.hid ha
                have HS3 := Lib.hid hs3
                clear ha hs3 S10 HQ BR7 BR8 h0 h1 h2 h3 h4 h5 h6 f0 f1 f2 f3 f4 f5 f6 hl
                by_cases q1 : atT ws3 = [41]
                · have t1 : (s3.toList == [41]) = true := by rw [hs3l, q1]; decide
                  obtain ⟨z, r3, rfl⟩ : ∃ z r3, ws3 = z :: r3 := by
                    cases ws3 with
                    | nil => cases q1
                    | cons z r3 => exact ⟨z, r3, rfl⟩
                  have HR4 := Lib.hid (show bracketP e (partP e d) ws (n + 1) = .ok (.mk (q : Int) zeroT (treeL l ++ [b])) r3 n3 by rw [HR3.out, if_pos q1]; rfl)
                  clear q1 hs3l
                  go_wp2_with fail
                  go_at_call 27
                  refine HA.out.mono ?_
                  rintro en w11 ⟨rfl, hB11, S11⟩
                  have BR11 := Lib.hid (BR9.out.call hB11 ⟨_, _, S11⟩)
                  clear BR9 HA hB11
                  go_wp2_with fail
                  go_at_call 84
                  refine (rtake_cons _ S11).mono ?_
                  rintro en w12 ⟨rfl, hB12, A12, c12, S12⟩
                  have BR12 := Lib.hid (BR11.out.call hB12 ⟨_, _, S12⟩)
                  have c3 := S12.c3
                  have f3 := S12.f3
                  rw [show ((o + 1 : Nat) : Int) = (o : Int) + 1 by omega] at c3
                  have hlt3 := BR12.out.lt
                  have XO := BR12.out.out.butR ((ButR.refl R _).set 3 (.int .i64 (o : Int))) (by omega)
                  have XR : Box7 W.heap.size _ _ _ _ _ _ _ _ := BR12.out.res.butR ((ButR.refl R _).set 3 (.int .i64 (o : Int))) (by omega)
                  have XRH := Lib.hid XR
                  obtain ⟨⟨h0, h1, h2, h3, h4, h5, h6⟩, ⟨f0, f1, f2, f3', f4, f5, f6⟩, hl⟩ := XO
                  obtain ⟨⟨r0, r1, r2, r3', r4, r5, r6⟩, ⟨k0, k1, k2, k3, k4, k5, k6⟩, rl⟩ := XR
                  have S13 := Lib.hid (S12.setOpen o)
                  have B13 := Lib.hid (BR12.out.but.set 3 (.int .i64 (o : Int)))
                  have T13 := Lib.hid ((BR12.out.node).2.butR ((ButR.refl R _).set 3 (.int .i64 (o : Int))) (by omega))
                  clear BR11 hB12 S11 BR12 S12
                  go_wp2_with fail
                  have XF := XRH.out.store (.int .u8 (q : Int)) (.string ⟨#[]⟩) (.int .u8 0) (.int .i64 0) (.string ⟨#[]⟩) (.string ⟨#[]⟩) (.slice AA (l.length + 1) cc)
                  unfold store7 at XF
                  obtain ⟨⟨j0, j1, j2, j3, j4, j5, j6⟩, _⟩ := XF
                  refine bodyPost_ret (v := (RV.node (q : Int) zeroT AA cc (l ++ [rv2])).val) (by simp [RV.val, RV.kind, RV.dep, RV.addr, RV.args, RV.cap, zeroT, zeroE, results, Tryd.results53, go_sem, j0, j1, j2, j3, j4, j5, j6]; rfl) rfl ?_
                  rw [HR4.out]
                  exact ⟨store7_but (Nat.le_refl _) B13.out _ _ _ _ _ _ _, RV.node (q : Int) zeroT AA cc (l ++ [rv2]), by simp only [RV.tree, treeL_app, treeL, hrt2], rfl, T13.out.store (by omega) (by omega) _ _ _ _ _ _ _, _, _, S13.out.past (store7_below (by omega) (Below.refl _ _) _ _ _ _ _ _ _)⟩
                · have t1 : (s3.toList == [41]) = false := by rw [hs3l]; simp only [beq_eq_false_iff_ne]; exact q1
                  obtain ⟨sb, hsb⟩ : ∃ sb, sb = bs (betweenK (q : Int) (l.length + 1)) := ⟨_, rfl⟩
                  have HSB := Lib.hid hsb
                  obtain ⟨mo, hmo⟩ : ∃ mo, mo = mostK (q : Int) := ⟨_, rfl⟩
                  have HMO := Lib.hid hmo
                  have HQ1 := Lib.hid q1
                  have hsbl : sb.toList = betweenK (q : Int) (l.length + 1) := by rw [hsb, bs_toList]
                  by_cases qm : mo ≤ l.length + 1
                  · have HR4 := Lib.hid (show bracketP e (partP e d) ws (n + 1) = .stop (atPl e ws3) 4 by rw [HR3.out, if_neg q1, if_pos (.inl (by rw [← hmo]; exact qm))])
                    have gm : (mo : Int) ≤ (l.length : Int) + 1 := by omega
                    clear q1 hs3l hsb hmo hsbl qm
                    go_wp2_with fail
                    go_at_call 27
                    refine HA.out.mono ?_
                    rintro en w11 ⟨rfl, hB11, S11⟩
                    have BR11 := Lib.hid (BR9.out.call hB11 ⟨_, _, S11⟩)
                    obtain ⟨x0, x1⟩ := (HI.out.2.past (Nat.le_refl _) S11.old).at_ hq2 hq8
                    rw [← HMO.out] at x1
                    obtain ⟨⟨h0, h1, h2, h3, h4, h5, h6⟩, ⟨f0, f1, f2, f3', f4, f5, f6⟩, hl⟩ := BR11.out.out
                    have k0 : (0 : Int) ≤ (q : Int) := by omega
                    have k1 : (q : Int) < 8 := by omega
                    clear BR9 HA hB11 S11 x0
                    go_wp2_with fail
                    exact ⟨rfl, PartPost.stop HR4.out BR11.out.but⟩
                  · have gm : ¬ ((mo : Int) ≤ (l.length : Int) + 1) := by omega
                    have HQM := Lib.hid qm
                    by_cases q3 : atT ws3 = betweenK (q : Int) (l.length + 1)
                    · have HR4 := Lib.hid (show bracketP e (partP e d) ws (n + 1) = moreP e (partP e d) (q : Int) f (treeL l ++ [b]) ws3 n3 by rw [HR3.out, if_neg q1, if_neg (by rw [← hmo]; exact fun hh => hh.elim qm (fun h => h q3))])
                      have e1 : s3 = sb := by rw [hsb, ← q3, HS3.out]
                      have HQ3 := Lib.hid q3
                      clear q1 hs3l hsb hmo hsbl qm q3 HSB
                      subst e1
                      go_wp2_with fail
                      go_at_call 27
                      refine HA.out.mono ?_
                      rintro en w11 ⟨rfl, hB11, S11⟩
                      have BR11 := Lib.hid (BR9.out.call hB11 ⟨_, _, S11⟩)
                      have KI := HI.out.2.past (Nat.le_refl _) S11.old
                      obtain ⟨x0, x1⟩ := KI.at_ hq2 hq8
                      rw [← HMO.out] at x1
                      obtain ⟨⟨h0, h1, h2, h3, h4, h5, h6⟩, ⟨f0, f1, f2, f3', f4, f5, f6⟩, hl⟩ := BR11.out.out
                      have k0 : (0 : Int) ≤ (q : Int) := by omega
                      have k1 : (q : Int) < 8 := by omega
                      have hbt := Lib.hid (rbetween_any q (l.length + 1) hq2 hq8 w11 KI)
                      rw [show ((l.length + 1 : Nat) : Int) = (l.length : Int) + 1 by omega, ← HQ3.out, ← HS3.out] at hbt
                      clear BR9 HA hB11 S11 x0 KI
                      go_wp2_with fail
                      go_at_call 58
                      refine hbt.out.mono ?_
                      rintro en w13 ⟨rfl, hB13⟩
                      have BR13 := Lib.hid (BR11.out.call (.of hB13) (by obtain ⟨A, c, hS⟩ := BR11.out.st; exact ⟨A, c, hS.then hB13⟩))
                      clear hB13
                      go_wp2_with fail
                      go_roundw
                      case rel => exact ⟨l ++ [rv2], .slice AA (l.length + 1) cc, ws3, n3, f, by rw [HS3.out], rfl, BR13.out, by rw [treeL_app, show treeL [rv2] = [b] by simp [treeL, hrt2], ← HR4.out], by have := HF.out; simp only [List.length_append, List.length_singleton]; omega, by simp, by have := HQM.out; have := HMO.out; simp only [List.length_append, List.length_singleton]; omega, by simpa using HQ3.out, HN3.out⟩
                      case measure =>
                        obtain ⟨Av, cv, hv, _⟩ := HB.out.own.rd encR_len
                        rw [BR13.out.out.1.2.2.2.2.2.2, HB.out.out.1.2.2.2.2.2.2, hv]
                        have := HLL.out
                        simp only [lenOf]
                        omega
                    · have HR4 := Lib.hid (show bracketP e (partP e d) ws (n + 1) = .stop (atPl e ws3) 4 by rw [HR3.out, if_neg q1, if_pos (.inr q3)])
                      have e1 : (s3.toList == sb.toList) = false := by rw [hs3l, hsbl]; simp only [beq_eq_false_iff_ne]; exact q3
                      have e2 : (s3.toList != sb.toList) = true := by simp only [bne, e1, Bool.not_false]
                      clear q1 hs3l hmo hsbl qm q3 hsb
                      go_wp2_with fail
                      go_at_call 27
                      refine HA.out.mono ?_
                      rintro en w11 ⟨rfl, hB11, S11⟩
                      have BR11 := Lib.hid (BR9.out.call hB11 ⟨_, _, S11⟩)
                      have KI := HI.out.2.past (Nat.le_refl _) S11.old
                      obtain ⟨x0, x1⟩ := KI.at_ hq2 hq8
                      rw [← HMO.out] at x1
                      obtain ⟨⟨h0, h1, h2, h3, h4, h5, h6⟩, ⟨f0, f1, f2, f3', f4, f5, f6⟩, hl⟩ := BR11.out.out
                      have k0 : (0 : Int) ≤ (q : Int) := by omega
                      have k1 : (q : Int) < 8 := by omega
                      have hbt := Lib.hid (rbetween_any q (l.length + 1) hq2 hq8 w11 KI)
                      rw [show ((l.length + 1 : Nat) : Int) = (l.length : Int) + 1 by omega, ← HSB.out] at hbt
                      clear BR9 HA hB11 S11 x0 KI
                      go_wp2_with fail
                      go_at_call 58
                      refine hbt.out.mono ?_
                      rintro en w13 ⟨rfl, hB13⟩
                      have B13 := Lib.hid (BR11.out.but.then hB13)
                      clear hB13
                      go_wp2_with fail
                      exact ⟨rfl, PartPost.stop HR4.out B13.out⟩
/-- a part is read, at whatever depth -/
theorem rpart_says {w0 : World} (hI : RichIn w0) {R e : Nat} : ∀ (d o : Nat), d + o = 8 → PartSays w0 R e o d
  | 0, o, h => rpart_of h (rplain_says hI R e o) (fun d' hd => by cases hd)
  | d + 1, o, h => rpart_of h (rplain_says hI R e o) (fun d' hd => by cases hd; exact rbracket_says hI (by omega) (rpart_says hI d (o + 1) (by omega)))

/- Walks: the closure that rich.Parse defers: it recovers what a part was refused with. -/

theorem stop_yes (v : Value) (w : World) : (Instr.typeAssert (.iface 63 v) 20 63 true).run Tryd.prog w = .ok (.tuple #[v, .bool true]) w := by kernel_rfl
theorem tm3 (a b c : Value) : #[a, b, c] ++ Array.replicate 19 undef = #[a, b, c, undef, undef, undef, undef, undef, undef, undef, undef, undef, undef, undef, undef, undef, undef, undef, undef, undef, undef, undef] := by
  apply Array.ext'
  rw [Array.toList_append, Array.toList_replicate]
  rfl
set_option maxRecDepth 100000 in
set_option maxHeartbeats 4000000 in
theorem rcatch_idle (p2 p3 p4 : Addr) (w : World) : CallsD Tryd.prog 24 #[.pointer (some p2), .pointer (some p3), .pointer (some p4)] .returning w fun e u' w' => e = .returned (.tuple #[]) ∧ u' = .returning ∧ w' = w := by
  refine callsD_of_wpS Tryd.func24 rfl fun c₀ cs hu => ?_
  simp only [Tryd.ntmps24, List.size_toArray, List.length_cons, List.length_nil, Nat.zero_add, Nat.reduceAdd, Nat.reduceSub, tm3]
  apply wpS_seq
  apply wpS_region
  simp [wpOpsS, go_sem, recoverD, hu, Exit.thenS]
  apply wpS_seq
  apply wpS_region
  simp [wpOpsS, go_sem, recoverD, hu, Exit.thenS]
  refine wpS_cond (t := false) (by simp [Act.eval]) ?_
  simp only [Bool.false_eq_true, if_false]
  refine wpS_of_wp (wp_skip ?_)
  cases c₀
  simp_all [bodyPostS, results, Tryd.results24]
set_option maxRecDepth 100000 in
set_option maxHeartbeats 4000000 in
theorem rcatch_panicking (m m3 m4 : Nat) (p : Nat) (x : Int) (older : List PanicEntry) (w : World) {a0 a1 a2 a3 a4 a5 a6 : Value} (hx : Box7 m a0 a1 a2 a3 a4 a5 a6 w) {v3 v4 : Value} (c3 : w.cell? ⟨m3, 0, none⟩ = some v3) (c4 : w.cell? ⟨m4, 0, none⟩ = some v4) (g3 : w.frozen? ⟨m3, 0, none⟩ = false) (g4 : w.frozen? ⟨m4, 0, none⟩ = false) (n1 : ¬ m3 = m) (n2 : ¬ m4 = m) (n3 : ¬ m4 = m3) : CallsD Tryd.prog 24 #[.pointer (some ⟨m, 0, none⟩), .pointer (some ⟨m3, 0, none⟩), .pointer (some ⟨m4, 0, none⟩)] (.panicking ({ v := .iface 63 (.agg #[.int .i64 (p : Int), .int .i64 x]), recovered := false } :: older)) w fun e u' w' =>
    e = .returned (.tuple #[]) ∧ u' = .panicking ({ v := .iface 63 (.agg #[.int .i64 (p : Int), .int .i64 x]), recovered := true } :: older) ∧ w' = ((((store7 m (.int .u8 0) (.string ⟨#[]⟩) (.int .u8 0) (.int .i64 0) (.string ⟨#[]⟩) (.string ⟨#[]⟩) (.slice none 0 0) w).setCell ⟨m3, 0, none⟩ (.int .i64 (p : Int))).setCell ⟨m4, 0, none⟩ (.int .i64 x)).alloc (.cells #[.int .i64 (p : Int), .int .i64 x] 63)).drew := by
  refine callsD_of_wpS Tryd.func24 rfl fun c₀ cs hu => ?_
  simp only [Tryd.ntmps24, List.size_toArray, List.length_cons, List.length_nil, Nat.zero_add, Nat.reduceAdd, Nat.reduceSub, tm3]
  apply wpS_seq
  apply wpS_region
  simp [wpOpsS, go_sem, recoverD, hu, Exit.thenS]
  apply wpS_seq
  apply wpS_region
  simp [wpOpsS, go_sem, recoverD, Exit.thenS]
  refine wpS_cond (t := true) (by simp [Act.eval]) ?_
  simp only [if_true]
  have HU := Lib.hid hu
  clear hu
  refine wpS_of_wp ?_
  obtain ⟨⟨h0, h1, h2, h3, h4, h5, h6⟩, ⟨f0, f1, f2, f3, f4, f5, f6⟩, hl⟩ := id hx
  clear hx
  generalize hcs : ({ fn := c₀.fn, tmps := c₀.tmps, todo := c₀.todo, defers := c₀.defers, mode := _, kind := c₀.kind, roundOf := c₀.roundOf } : Frame) :: cs = CS
  have HCS := Lib.hid hcs
  clear hcs
  have hta := stop_yes
  have l3 : m3 < w.heap.size := World.block_lt_of_cell? w _ c3
  have l4 : m4 < w.heap.size := World.block_lt_of_cell? w _ c4
  have b0 : ¬ m = w.heap.size := by omega
  have b3 : ¬ m3 = w.heap.size := by omega
  have b4 : ¬ m4 = w.heap.size := by omega
  have b0' : ¬ w.heap.size = m := by omega
  have b3' : ¬ w.heap.size = m3 := by omega
  have b4' : ¬ w.heap.size = m4 := by omega
  go_wp2_with fail
  go_region
  have hh := HCS.out
  subst hh
  exact ⟨rfl, _, rfl, _, results_none rfl _ _ _, rfl, rfl, rfl⟩

/- Walks: slices.Clone of the words of a text. -/

section
variable {P : Program} {α : Type} {enc : α → List Value} (w : World)
theorem wpList_append_rd {ops : Array Oper} {rest : List Oper} {o : Oper} {a : Act} {Q : Exit → Act → World → Prop} (hgd : o.guard = none) (s x : Operand) (t : TypeId)
    (ho : o.op = .call { callee := .builtin .append, args := #[s, x], argTypes := #[t, t] })
    (base : Nat) (e : TypeId) (i : TypeInfo) (z : Value) (size bytes : Nat) (ht : P.underlying t = some (.slice e)) (hi : P.info? e = some i) (hz : i.zero = some z) (hsize : i.size = size) (hby : i.bytes = bytes) (hzc : z.cells.size = size) (hs0 : 0 < size)
    (he : ∀ x, (enc x).length = size) (h1 : ∀ x, ∀ u ∈ enc x, u.oneCell' = true)
    (v : Value) (n : Nat) (xs : List Value) (hs : a.eval s = v) (hown : w.ownsRow base e size v n xs) (B : Nat) (A : Option Addr) (c : Nat) (D : List α) (m : Nat) (hm : m = D.length) (hx : a.eval x = .slice A m c) (hT : Rd enc size B A c D w) (hn : n + D.length ≤ 1000000) (hbytes : bytes ≤ 1000) (hbase : base ≤ w.heap.size)
    (h : ∀ v' w', w'.ownsRow base e size v' (n + D.length) (xs ++ D.flatMap enc) → w.grownBy w' v.ownBlock → (v'.ownBlock = v.ownBlock ∨ v'.ownBlock = some w.heap.size) → wpList P ops Q rest (a.put o.dst v') w') :
    wpList P ops Q (o :: rest) a w := by
  subst hm
  refine wpList_plain hgd fun _ hK => ?_
  obtain ⟨v', w', hrun, r1, r2, r3⟩ := run_append_rd (P := P) w base t o.type e i z size bytes ht hi hz hsize hby hzc hs0 he h1 v n xs hown B A c D hT hn hbytes hbase
  unfold Oper.wp
  simp [execOp, ho, resolve, invoke, builtin, hs, hx, hrun, Result.andThen]
  exact hK _ _ (h v' w' r1 r2 r3)
end
theorem encTok_len (x : Tok) : (encTok x).length = 2 := rfl
theorem encTok_one (x : Tok) : ∀ u ∈ encTok x, u.oneCell' = true := by
  intro u hu
  simp only [encTok, List.mem_cons, List.not_mem_nil, or_false] at hu
  rcases hu with rfl | rfl <;> rfl
set_option maxRecDepth 100000 in
set_option maxHeartbeats 4000000 in
theorem rclone_any (A : Option Addr) (cap : Nat) (l : List Tok) (w : World) (h : Rd encTok 2 w.heap.size A cap l w) (hl : l.length ≤ 5000) : Calls Tryd.prog 25 #[.slice A l.length cap] w fun e w' => ∃ A' c', e = .returned (.slice A' l.length c') ∧ Rd encTok 2 w'.heap.size A' c' l w' ∧ (∀ b off, A' = some ⟨b, off, none⟩ → w.heap.size ≤ b) ∧ Below w.heap.size w w' := by
  have q : ∀ (w : World) (a : Option Addr) (n c n' c' : Nat), (binOp .eql 59 (.slice a n c) (.slice none n' c')).run Tryd.prog w = .ok (.bool a.isNone) w := fun w a n c n' c' => Lib.run_eql_slice_nil w _ _ a n c n' c' (by rfl)
  have H := Lib.hid h
  have HL := Lib.hid hl
  cases A with
  | none =>
    have hlen : l.length = 0 := by
      cases l with
      | nil => rfl
      | cons x r => obtain ⟨b, o, e, _⟩ := h.2.2 0 (by simp); cases e
    obtain rfl := List.eq_nil_of_length_eq_zero hlen
    clear h hl hlen
    go_enter Tryd.func25, Tryd.ntmps25
    go_wp2_with fail
    go_ret
    exact ⟨none, 0, rfl, Rd.nil_ (Nat.zero_le _), (fun b off h => by cases h), Below.refl _ _⟩
  | some ad =>
    obtain ⟨n, hn⟩ : ∃ n, n = l.length := ⟨_, rfl⟩
    have HN := Lib.hid hn
    rw [← hn]
    clear h hl hn
    go_enter Tryd.func25, Tryd.ntmps25
    go_wp2_with (at_builtin; refine wpList_append_rd _ rfl _ _ 59 rfl w.heap.size 68 _ _ 2 _ (by rfl) (by rfl) (by rfl) (by rfl) (by rfl) (by rfl) (by decide) encTok_len encTok_one _ 0 [] rfl (World.ownsRow_made w #[] 0 (Nat.le_refl _) (Nat.zero_le _) rfl) w.heap.size (some ad) cap l n HN.out rfl (H.out.alloc (Nat.le_refl _) _) (by have := HL.out; omega) (by decide) (by simp) ?_; intro v1 w1 ho1 hg1 hw1)
    go_ret
    have hO : Own encTok 2 w.heap.size 68 v1 l w1 := by simpa [Own] using ho1
    obtain ⟨A', c', hv, hr⟩ := hO.rd encTok_len
    exact ⟨A', c', by rw [HN.out]; exact congrArg Ending.returned hv, hr, (fun b off e => (World.ownsRow.lt hO b (by rw [hv, e]; rfl)).1), ((Below.refl _ w).alloc (Nat.le_refl _) _).grown hg1 (by simp) (by intro k hk; cases hk; exact Nat.le_refl _)⟩

/- Walks: the rich dependency of a text (rich.Parse). -/

/-- the three results, which the closure may write -/
structure Res (m : Nat) (a0 a1 a2 a3 a4 a5 a6 v3 v4 : Value) (W : World) : Prop where
  box : Box7 m a0 a1 a2 a3 a4 a5 a6 W
  c3 : W.cell? ⟨m + 1, 0, none⟩ = some v3
  c4 : W.cell? ⟨m + 1 + 1, 0, none⟩ = some v4
  f3 : W.frozen? ⟨m + 1, 0, none⟩ = false
  f4 : W.frozen? ⟨m + 1 + 1, 0, none⟩ = false
  lt : m + 2 < W.heap.size
abbrev zRes (m : Nat) (v3 v4 : Value) (W : World) : Prop := Res m (.int .u8 0) (.string ⟨#[]⟩) (.int .u8 0) (.int .i64 0) (.string ⟨#[]⟩) (.string ⟨#[]⟩) (.slice none 0 0) v3 v4 W
section
variable {m : Nat} {a0 a1 a2 a3 a4 a5 a6 v3 v4 : Value} {W W' : World}
theorem Res.past (h : Res m a0 a1 a2 a3 a4 a5 a6 v3 v4 W) (hb : Below (m + 3) W W') : Res m a0 a1 a2 a3 a4 a5 a6 v3 v4 W' where
  box := h.box.past (hb.mono (by omega))
  c3 := (hb.cell (p := ⟨m + 1, 0, none⟩) (by show m + 1 < m + 3; omega)).trans h.c3
  c4 := (hb.cell (p := ⟨m + 1 + 1, 0, none⟩) (by show m + 2 < m + 3; omega)).trans h.c4
  f3 := (hb.frozen (p := ⟨m + 1, 0, none⟩) (by show m + 1 < m + 3; omega)).trans h.f3
  f4 := (hb.frozen (p := ⟨m + 1 + 1, 0, none⟩) (by show m + 2 < m + 3; omega)).trans h.f4
  lt := Nat.lt_of_lt_of_le h.lt hb.size
theorem Res.then (h : Res m a0 a1 a2 a3 a4 a5 a6 v3 v4 W) (hb : Below W.heap.size W W') : Res m a0 a1 a2 a3 a4 a5 a6 v3 v4 W' := h.past (hb.mono h.lt)
theorem Res.butR {R : Nat} (h : Res m a0 a1 a2 a3 a4 a5 a6 v3 v4 W) (hb : ButR R W W') (hR : m + 3 ≤ R) (hl : R < W.heap.size) : Res m a0 a1 a2 a3 a4 a5 a6 v3 v4 W' := h.past (hb.below hR hl)
theorem Res.new (w : World) (e3 e4 : TypeId) (v3 v4 : Value) (e : TypeId) : Res w.heap.size a0 a1 a2 a3 a4 a5 a6 v3 v4 (((w.alloc (.cells #[a0, a1, a2, a3, a4, a5, a6] e)).alloc (.cells #[v3] e3)).alloc (.cells #[v4] e4)) := by
  have z1 : (w.alloc (.cells #[a0, a1, a2, a3, a4, a5, a6] e)).heap.size = w.heap.size + 1 := by simp
  have z2 : ((w.alloc (.cells #[a0, a1, a2, a3, a4, a5, a6] e)).alloc (.cells #[v3] e3)).heap.size = w.heap.size + 2 := by simp
  refine ⟨(((Box7.new w a0 a1 a2 a3 a4 a5 a6 e).past ((Below.refl _ _).alloc (by omega) _)).past ((Below.refl _ _).alloc (by omega) _)), ?_, ?_, ?_, ?_, by simp⟩
  · simp [go_sem]
  · simp [go_sem]
  · simp [go_sem]
  · simp [go_sem]
theorem Res.set3 (h : Res m a0 a1 a2 a3 a4 a5 a6 v3 v4 W) (u : Value) : Res m a0 a1 a2 a3 a4 a5 a6 u v4 (W.setCell ⟨m + 1, 0, none⟩ u) where
  box := h.box.past ((Below.refl _ _).setCell (p := ⟨m + 1, 0, none⟩) (Nat.le_refl _) u)
  c3 := sc_same h.c3
  c4 := (sc_other (by simp)).trans h.c4
  f3 := by rw [World.frozen?_setCell]; exact h.f3
  f4 := by rw [World.frozen?_setCell]; exact h.f4
  lt := by simpa [World.setCell] using h.lt
theorem Res.set4 (h : Res m a0 a1 a2 a3 a4 a5 a6 v3 v4 W) (u : Value) : Res m a0 a1 a2 a3 a4 a5 a6 v3 u (W.setCell ⟨m + 1 + 1, 0, none⟩ u) where
  box := h.box.past ((Below.refl _ _).setCell (p := ⟨m + 1 + 1, 0, none⟩) (by show m + 1 ≤ m + 2; omega) u)
  c3 := (sc_other (by simp)).trans h.c3
  c4 := sc_same h.c4
  f3 := by rw [World.frozen?_setCell]; exact h.f3
  f4 := by rw [World.frozen?_setCell]; exact h.f4
  lt := by simpa [World.setCell] using h.lt
theorem Res.store (h : Res m a0 a1 a2 a3 a4 a5 a6 v3 v4 W) (b0 b1 b2 b3 b4 b5 b6 : Value) : Res m b0 b1 b2 b3 b4 b5 b6 v3 v4 (store7 m b0 b1 b2 b3 b4 b5 b6 W) where
  box := h.box.store b0 b1 b2 b3 b4 b5 b6
  c3 := (World.cell?_of_block (w := W) (a := ⟨m + 1, 0, none⟩) (store7_block _ _ _ _ _ _ _ _ _ (by show m + 1 ≠ m; omega))).trans h.c3
  c4 := (World.cell?_of_block (w := W) (a := ⟨m + 1 + 1, 0, none⟩) (store7_block _ _ _ _ _ _ _ _ _ (by show m + 2 ≠ m; omega))).trans h.c4
  f3 := (World.frozen?_of_block (w := W) (a := ⟨m + 1, 0, none⟩) (store7_block _ _ _ _ _ _ _ _ _ (by show m + 1 ≠ m; omega))).trans h.f3
  f4 := (World.frozen?_of_block (w := W) (a := ⟨m + 1 + 1, 0, none⟩) (store7_block _ _ _ _ _ _ _ _ _ (by show m + 2 ≠ m; omega))).trans h.f4
  lt := by rw [store7_size]; exact h.lt
end
def zRV : RV := .node 0 zeroT none 0 []
theorem zRV_tree : zRV.tree = zeroRT := rfl
theorem zRV_rtree (B : Nat) (W : World) : RTree B W zRV := .mk ⟨Nat.zero_le _, rfl, rfl, Nat.zero_le _, Nat.zero_le _⟩ (Rd.nil_ (Nat.zero_le _)) (fun a ha => by simp [zRV, RV.args] at ha)
/-- what Parse hands back -/
def ParsePost (s : ByteArray) (w : World) (e : Ending) (w' : World) : Prop :=
  ∃ rv : RV, rv.tree = (parseL s.toList).1.getD zeroRT ∧ e = .returned (.tuple #[rv.val, .int .i64 ((parseL s.toList).2.1 : Int), .int .i64 (parseL s.toList).2.2]) ∧ RTree w'.heap.size w' rv ∧ Below w.heap.size w w'
theorem ParsePost.no {s : ByteArray} {w w' : World} {p : Nat} {n : Int} (h : parseL s.toList = (none, p, n)) (hb : Below w.heap.size w w') : ParsePost s w (.returned (.tuple #[zRV.val, .int .i64 (p : Int), .int .i64 n])) w' :=
  ⟨zRV, by rw [h]; rfl, by rw [h], zRV_rtree _ _, hb⟩
theorem ParsePost.yes {s : ByteArray} {w w' : World} {t : RT} {rv : RV} (h : parseL s.toList = (some t, 0, 0)) (ht : rv.tree = t) (hr : RTree w'.heap.size w' rv) (hb : Below w.heap.size w w') : ParsePost s w (.returned (.tuple #[rv.val, .int .i64 0, .int .i64 0])) w' :=
  ⟨rv, by rw [h]; exact ht, by rw [h]; exact congrArg Ending.returned rfl, hr, hb⟩
theorem words_out {s : Bytes} (h : (wordsS s).2.2 = 0) : (wordsS s).2.1 = 0 := by
  unfold wordsS at h ⊢
  split at h
  · cases h
  · rename_i h1
    rw [if_neg h1]
    split at h
    · cases h
    · rfl
def restP (t : RT) : List Tok → Option RT × Nat × Int | [] => (some t, 0, 0) | y :: _ => (none, y.1, 4)
theorem parseT_ok {e : Nat} {ws rs : List Tok} {t : RT} {n : Nat} (h : partP e 8 ws 0 = .ok t rs n) : parseT e ws = restP t rs := by
  unfold parseT
  rw [h]
  cases rs <;> rfl
theorem leave_res {m : Nat} {a0 a1 a2 a3 a4 a5 a6 v3 v4 : Value} {W : World} {R : Ending → World → Prop} {tmps : Array Value} (h : Res m a0 a1 a2 a3 a4 a5 a6 v3 v4 W) (ht : tmps[2]? = some (.pointer (some ⟨m, 0, none⟩)) ∧ tmps[3]? = some (.pointer (some ⟨m + 1, 0, none⟩)) ∧ tmps[4]? = some (.pointer (some ⟨m + 1 + 1, 0, none⟩))) (hR : R (.returned (.tuple #[.agg #[a0, a1, a2, a3, a4, a5, a6], v3, v4])) W) :
    Leaves Tryd.prog Tryd.f7 tmps R [] .returning W := by
  obtain ⟨⟨⟨h0, h1, h2, h3, h4, h5, h6⟩, _⟩, c3, c4, _⟩ := h
  obtain ⟨t2, t3, t4⟩ := ht
  refine ⟨_, ?_, hR⟩
  simp [results, Tryd.results7, go_sem, t2, t3, t4, h0, h1, h2, h3, h4, h5, h6, c3, c4]
set_option maxRecDepth 100000 in
set_option maxHeartbeats 16000000 in
theorem rparse_any (s : ByteArray) (w : World) (hs : s.size ≤ maxLen) (hI : RichIn w) : Calls Tryd.prog 7 #[.string s] w (ParsePost s w) := by
  have hmf : ∀ (fn : Fn) (first cap : Array Value) (w : World), (Instr.makeFunc fn first cap).run Tryd.prog w = .ok (.func fn first cap) w := fun _ _ _ _ => rfl
  have HS := Lib.hid hs
  have HI := Lib.hid hI
  obtain ⟨ws, p, n, hws⟩ : ∃ ws p n, wordsS s.toList = (ws, p, n) := ⟨_, _, _, rfl⟩
  have HW := Lib.hid hws
  have hq := Lib.hid (fun W => words_any s W hs)
  unfold WordsPostX at hq
  rw [hws] at hq
  dsimp only at hq
  clear hI hs hws
  go_enter_defers Tryd.func7, Tryd.ntmps7
  go_wp2_with fail
  go_at_call 23
  refine (hq.out _).mono ?_
  rintro en w1 ⟨v, rfl, hO, hB⟩
  have R1 := (Res.new (a0 := .int .u8 0) (a1 := .string ⟨#[]⟩) (a2 := .int .u8 0) (a3 := .int .i64 0) (a4 := .string ⟨#[]⟩) (a5 := .string ⟨#[]⟩) (a6 := .slice none 0 0) w 3 30 (.int .i64 0) (.int .i64 0) 29).then hB
  obtain ⟨A, c, rfl, hRd⟩ := hO.rd encTok_len
  have HO := Lib.hid hO
  have h3 := R1.c3
  have h4 := R1.c4
  have f3 := R1.f3
  have f4 := R1.f4
  obtain ⟨⟨b0, b1, b2, b3, b4, b5, b6⟩, ⟨g0, g1, g2, g3, g4, g5, g6⟩, bl⟩ := R1.box
  have HR1 := Lib.hid R1
  have HB := Lib.hid (show Below w.heap.size w w1 from (((Below.refl _ _).alloc (Nat.le_refl _) _).alloc (by simp) _).alloc (by simp; omega) _ |>.trans (hB.mono (by simp; omega)))
  clear R1 hO hB hRd hq
  by_cases hn : n = 0
  · subst hn
    have hm : ∀ i : Nat, i ≤ 2 → w.heap.size + i < (((w.alloc (.cells #[.int .u8 0, .string ⟨#[]⟩, .int .u8 0, .int .i64 0, .string ⟨#[]⟩, .string ⟨#[]⟩, .slice none 0 0] 29)).alloc (.cells #[.int .i64 0] 3)).alloc (.cells #[.int .i64 0] 30)).heap.size := fun i hi => by simp; omega
    have O2 := ownsRow_setCell_below (ownsRow_setCell_below HO.out (a := ⟨w.heap.size + 1, 0, none⟩) (hm 1 (by omega)) (.int .i64 (p : Int))) (a := ⟨w.heap.size + 1 + 1, 0, none⟩) (hm 2 (by omega)) (.int .i64 0)
    obtain ⟨A2, c2, hv2, hR2⟩ := Own.rd (l := ws) (enc := encTok) O2 encTok_len
    have hA2 : ∀ b off, A = some ⟨b, off, none⟩ → w.heap.size + 3 ≤ b := fun b off e => by
      have := (World.ownsRow.lt O2 b (by rw [e]; rfl)).1
      simpa using this
    cases hv2
    have R2 := (HR1.out.set3 (.int .i64 (p : Int))).set4 (.int .i64 0)
    have B2 := (HB.out.setCell (p := ⟨w.heap.size + 1, 0, none⟩) (by show w.heap.size ≤ w.heap.size + 1; omega) (.int .i64 (p : Int))).setCell (p := ⟨w.heap.size + 1 + 1, 0, none⟩) (by show w.heap.size ≤ w.heap.size + 1 + 1; omega) (.int .i64 0)
    have hsm : ∀ x ∈ ws, x.2.length ≤ 10000 ∧ x.1 ≤ 10000 := fun x hx => by
      have := words_small s.toList x (by rw [HW.out]; exact hx)
      omega
    have hln : ws.length ≤ 5000 := by have := words_len s.toList; rw [HW.out] at this; dsimp only at this; omega
    have CL := Lib.hid (rclone_any A c ws _ hR2 hln)
    have R2H := Lib.hid R2
    have B2H := Lib.hid B2
    have HSM := Lib.hid hsm
    have HPP := Lib.hid (show parseL s.toList = parseT s.size ws by unfold parseL; rw [HW.out]; rw [if_neg (by simp), ← size_toList])
    clear hm O2 hR2 R2 B2 hsm hln hA2
    go_wp2_with fail
    go_at_call 25
    refine CL.out.mono ?_
    rintro en w3 ⟨A3, c3, rfl, hR3, hA3, hB3⟩
    have R3 := R2H.out.then hB3
    have B3 := B2H.out.trans (hB3.mono B2H.out.size)
    have hA : ∀ b off, A3 = some ⟨b, off, none⟩ → w.heap.size + 3 ≤ b := fun b off e => by have := hA3 b off e; have := R2H.out.lt; omega
    have S4 := St.start (e := s.size) B3 hR3 hA HSM.out
    have R4 := R3.then ((Below.refl _ _).alloc (Nat.le_refl _) (.cells #[.slice A3 ws.length c3, .int .i64 (s.size : Int), .int .i64 0, .int .i64 0] 70))
    have hlt3 := R3.lt
    have B4 := B3.alloc B3.size (.cells #[.slice A3 ws.length c3, .int .i64 (s.size : Int), .int .i64 0, .int .i64 0] 70)
    have hz4 : (w3.alloc (.cells #[.slice A3 ws.length c3, .int .i64 (s.size : Int), .int .i64 0, .int .i64 0] 70)).heap.size = w3.heap.size + 1 := by simp
    clear CL R2H B2H hR3 hA3 hB3 R3 hA
    go_wp2_with fail
    go_at_call 26
    refine (rpart_says HI.out 8 0 rfl ws 0 _ _ _ (by omega) S4).mono ?_
    rintro en w5 ⟨hB5, hPP⟩
    have R5 := R4.butR hB5 (by omega) (by omega)
    have B5 := B4.trans (hB5.below B3.size (by omega))
    clear S4 R4 B4 B3
    cases hpp : partP s.size 8 ws 0 with
    | stop q y =>
      have HP := Lib.hid (show parseL s.toList = (none, q, y) by rw [HPP.out]; unfold parseT; rw [hpp])
      rw [hpp] at hPP
      simp only at hPP
      subst hPP
      clear hpp
      unfold stopV
      go_wp2_with fail
      refine leaves_cons (f := 24) (args := #[.pointer (some ⟨w.heap.size, 0, none⟩), .pointer (some ⟨w.heap.size + 1, 0, none⟩), .pointer (some ⟨w.heap.size + 1 + 1, 0, none⟩)]) (by simp) (by simp [go_sem]) ?_
      refine (rcatch_panicking w.heap.size (w.heap.size + 1) (w.heap.size + 1 + 1) q y [] w5 R5.box R5.c3 R5.c4 R5.f3 R5.f4 (by omega) (by omega) (by omega)).mono ?_
      rintro e u' w6 ⟨rfl, rfl, rfl⟩
      have RF := (((R5.store (.int .u8 0) (.string ⟨#[]⟩) (.int .u8 0) (.int .i64 0) (.string ⟨#[]⟩) (.string ⟨#[]⟩) (.slice none 0 0)).set3 (.int .i64 (q : Int))).set4 (.int .i64 y)).then ((Below.refl _ _).alloc (Nat.le_refl _) (.cells #[.int .i64 (q : Int), .int .i64 y] 63)).drew
      have BF := (((store7_below (m := w.heap.size) (Nat.le_refl _) B5 (.int .u8 0) (.string ⟨#[]⟩) (.int .u8 0) (.int .i64 0) (.string ⟨#[]⟩) (.string ⟨#[]⟩) (.slice none 0 0)).setCell (p := ⟨w.heap.size + 1, 0, none⟩) (by show w.heap.size ≤ w.heap.size + 1; omega) (.int .i64 (q : Int))).setCell (p := ⟨w.heap.size + 1 + 1, 0, none⟩) (by show w.heap.size ≤ w.heap.size + 1 + 1; omega) (.int .i64 y)).alloc (by simp [store7_size, World.setCell]; have := B5.size; simpa using this) (.cells #[.int .i64 (q : Int), .int .i64 y] 63) |>.drew
      exact leave_res RF ⟨rfl, rfl, rfl⟩ (ParsePost.no HP.out BF)
    | ok t rs n' =>
      rw [hpp] at hPP
      obtain ⟨rv, hrt, rfl, hT, A5, c5, S5⟩ := hPP
      obtain ⟨⟨⟨h0, h1, h2, h3, h4, h5, h6⟩, ⟨k0, k1, k2, k3, k4, k5, k6⟩, hl⟩, x3, x4, y3, y4, xl⟩ := id R5
      have R6 := R5.store (.int .u8 rv.kind) (.string (bs rv.dep.name)) (.int .u8 rv.dep.op) (.int .i64 rv.dep.evr.epoch) (.string (bs rv.dep.evr.ver)) (.string (bs rv.dep.evr.rel)) (.slice rv.addr rv.args.length rv.cap)
      have B6 := store7_below (m := w.heap.size) (Nat.le_refl _) B5 (.int .u8 rv.kind) (.string (bs rv.dep.name)) (.int .u8 rv.dep.op) (.int .i64 rv.dep.evr.epoch) (.string (bs rv.dep.evr.ver)) (.string (bs rv.dep.evr.rel)) (.slice rv.addr rv.args.length rv.cap)
      have S6 := S5.storeM (m := w.heap.size) (Nat.le_refl _) (by omega) (by omega) (.int .u8 rv.kind) (.string (bs rv.dep.name)) (.int .u8 rv.dep.op) (.int .i64 rv.dep.evr.epoch) (.string (bs rv.dep.evr.ver)) (.string (bs rv.dep.evr.rel)) (.slice rv.addr rv.args.length rv.cap)
      have T6 := hT.store (m := w.heap.size) (hi := w3.heap.size + 1) (by omega) (by omega) (.int .u8 rv.kind) (.string (bs rv.dep.name)) (.int .u8 rv.dep.op) (.int .i64 rv.dep.evr.epoch) (.string (bs rv.dep.evr.ver)) (.string (bs rv.dep.evr.rel)) (.slice rv.addr rv.args.length rv.cap)
      have HPK := Lib.hid (HPP.out.trans (parseT_ok hpp))
      have hz6 := R6.lt
      clear R5 B5 S5 hT hpp HPP HW
      unfold RV.val
      go_wp2_with fail
      go_at_call 27
      refine (rat_any _ S6).mono ?_
      rintro en w7 ⟨rfl, hB7, S7⟩
      have R7 := R6.butR hB7 (by omega) (by rw [store7_size]; have := hB5.size; omega)
      have B7 := B6.trans (hB7.below (by omega) (by rw [store7_size]; have := hB5.size; omega))
      have T7 := T6.butR hB7 (by omega)
      have c0 := S7.c0
      have HRT := Lib.hid hrt
      have hlt7 := R7.lt
      clear R6 B6 S6 T6 hB7 S7 hrt h0 h1 h2 h3 h4 h5 h6 k0 k1 k2 k3 k4 k5 k6 hl x3 x4 y3 y4 xl
      obtain ⟨⟨⟨h0, h1, h2, h3, h4, h5, h6⟩, ⟨k0, k1, k2, k3, k4, k5, k6⟩, hl⟩, x3, x4, y3, y4, xl⟩ := id R7
      cases rs with
      | nil =>
        simp only [List.length_nil] at c0
        have RF := ((R7.store (.int .u8 rv.kind) (.string (bs rv.dep.name)) (.int .u8 rv.dep.op) (.int .i64 rv.dep.evr.epoch) (.string (bs rv.dep.evr.ver)) (.string (bs rv.dep.evr.rel)) (.slice rv.addr rv.args.length rv.cap)).set3 (.int .i64 0)).set4 (.int .i64 0)
        have BF := (((store7_below (m := w.heap.size) (Nat.le_refl _) B7 (.int .u8 rv.kind) (.string (bs rv.dep.name)) (.int .u8 rv.dep.op) (.int .i64 rv.dep.evr.epoch) (.string (bs rv.dep.evr.ver)) (.string (bs rv.dep.evr.rel)) (.slice rv.addr rv.args.length rv.cap)).setCell (p := ⟨w.heap.size + 1, 0, none⟩) (by show w.heap.size ≤ w.heap.size + 1; omega) (.int .i64 0)).setCell (p := ⟨w.heap.size + 1 + 1, 0, none⟩) (by show w.heap.size ≤ w.heap.size + 1 + 1; omega) (.int .i64 0))
        have TF := (T7.store (m := w.heap.size) (hi := w3.heap.size + 1) (by omega) (Nat.le_refl _) (.int .u8 rv.kind) (.string (bs rv.dep.name)) (.int .u8 rv.dep.op) (.int .i64 rv.dep.evr.epoch) (.string (bs rv.dep.evr.ver)) (.string (bs rv.dep.evr.rel)) (.slice rv.addr rv.args.length rv.cap)).keep (W' := ((store7 w.heap.size (.int .u8 rv.kind) (.string (bs rv.dep.name)) (.int .u8 rv.dep.op) (.int .i64 rv.dep.evr.epoch) (.string (bs rv.dep.evr.ver)) (.string (bs rv.dep.evr.rel)) (.slice rv.addr rv.args.length rv.cap) w7).setCell ⟨w.heap.size + 1, 0, none⟩ (.int .i64 0)).setCell ⟨w.heap.size + 1 + 1, 0, none⟩ (.int .i64 0)) (fun b hb => hb) (fun b hb => by
          rw [Below.heap_setCell _ _ _ _ (by show b ≠ w.heap.size + 1 + 1; omega), Below.heap_setCell _ _ _ _ (by show b ≠ w.heap.size + 1; omega)])
        have TR := TF.rtree (B := (((store7 w.heap.size (.int .u8 rv.kind) (.string (bs rv.dep.name)) (.int .u8 rv.dep.op) (.int .i64 rv.dep.evr.epoch) (.string (bs rv.dep.evr.ver)) (.string (bs rv.dep.evr.rel)) (.slice rv.addr rv.args.length rv.cap) w7).setCell ⟨w.heap.size + 1, 0, none⟩ (.int .i64 0)).setCell ⟨w.heap.size + 1 + 1, 0, none⟩ (.int .i64 0)).heap.size) (fun b hb => by simpa [World.setCell] using hb.2)
        have HRF := Lib.hid RF
        have HBF := Lib.hid BF
        have HTR := Lib.hid TR
        clear R7 B7 T7 TF RF BF TR
        go_wp2_with fail
        refine leaves_cons (f := 24) (args := #[.pointer (some ⟨w.heap.size, 0, none⟩), .pointer (some ⟨w.heap.size + 1, 0, none⟩), .pointer (some ⟨w.heap.size + 1 + 1, 0, none⟩)]) (by simp) (by simp [go_sem]) ?_
        refine (rcatch_idle _ _ _ _).mono ?_
        rintro e u' w8 ⟨rfl, rfl, rfl⟩
        have RF := HRF.out
        have BF := HBF.out
        have TR := HTR.out
        unfold store7 at RF BF TR
        show Leaves Tryd.prog Tryd.f7 _ _ [] .returning _
        exact leave_res RF ⟨rfl, rfl, rfl⟩ (ParsePost.yes HPK.out HRT.out TR BF)
      | cons y r =>
        obtain ⟨m, hm⟩ : ∃ m, m = (y :: r).length := ⟨_, rfl⟩
        have m0 : (0 : Int) < (m : Int) := by rw [hm]; simp only [List.length_cons]; omega
        rw [← hm] at c0
        have RF := ((R7.store (.int .u8 0) (.string ⟨#[]⟩) (.int .u8 0) (.int .i64 0) (.string ⟨#[]⟩) (.string ⟨#[]⟩) (.slice none 0 0)).set3 (.int .i64 (atPl s.size (y :: r) : Int))).set4 (.int .i64 4)
        have BF := (((store7_below (m := w.heap.size) (Nat.le_refl _) B7 (.int .u8 0) (.string ⟨#[]⟩) (.int .u8 0) (.int .i64 0) (.string ⟨#[]⟩) (.string ⟨#[]⟩) (.slice none 0 0)).setCell (p := ⟨w.heap.size + 1, 0, none⟩) (by show w.heap.size ≤ w.heap.size + 1; omega) (.int .i64 (atPl s.size (y :: r) : Int))).setCell (p := ⟨w.heap.size + 1 + 1, 0, none⟩) (by show w.heap.size ≤ w.heap.size + 1 + 1; omega) (.int .i64 4))
        have HRF := Lib.hid RF
        have HBF := Lib.hid BF
        clear R7 B7 T7 hm RF BF hz6 hB5 hz4 hlt3 hlt7
        go_wp2_with fail
        refine leaves_cons (f := 24) (args := #[.pointer (some ⟨w.heap.size, 0, none⟩), .pointer (some ⟨w.heap.size + 1, 0, none⟩), .pointer (some ⟨w.heap.size + 1 + 1, 0, none⟩)]) (by simp) (by simp [go_sem]) ?_
        refine (rcatch_idle _ _ _ _).mono ?_
        rintro e u' w8 ⟨rfl, rfl, rfl⟩
        have RF := HRF.out
        have BF := HBF.out
        unfold store7 at RF BF
        show Leaves Tryd.prog Tryd.f7 _ _ [] .returning _
        exact leave_res RF ⟨rfl, rfl, rfl⟩ (ParsePost.no (p := atPl s.size (y :: r)) HPK.out BF)
  · have hn0 : (n == 0) = false := by simp only [beq_eq_false_iff_ne]; exact hn
    have HP := Lib.hid (show parseL s.toList = (none, p, n) by unfold parseL; rw [HW.out]; exact if_pos hn)
    clear hn
    go_wp2_with fail
    go_region
    go_wp2_with fail
    have RF := ((((((HR1.out.set3 (.int .i64 (p : Int))).set4 (.int .i64 n)).store (.int .u8 0) (.string ⟨#[]⟩) (.int .u8 0) (.int .i64 0) (.string ⟨#[]⟩) (.string ⟨#[]⟩) (.slice none 0 0)).set3 (.int .i64 (p : Int))).set4 (.int .i64 n)).past (Below.refl _ _).drew)
    have BF : Below w.heap.size w _ := ((store7_below (m := w.heap.size) (Nat.le_refl _) ((HB.out.setCell (p := ⟨w.heap.size + 1, 0, none⟩) (by show w.heap.size ≤ w.heap.size + 1; omega) (.int .i64 (p : Int))).setCell (p := ⟨w.heap.size + 1 + 1, 0, none⟩) (by show w.heap.size ≤ w.heap.size + 1 + 1; omega) (.int .i64 n)) (.int .u8 0) (.string ⟨#[]⟩) (.int .u8 0) (.int .i64 0) (.string ⟨#[]⟩) (.string ⟨#[]⟩) (.slice none 0 0)).setCell (p := ⟨w.heap.size + 1, 0, none⟩) (by show w.heap.size ≤ w.heap.size + 1; omega) (.int .i64 (p : Int))).setCell (p := ⟨w.heap.size + 1 + 1, 0, none⟩) (by show w.heap.size ≤ w.heap.size + 1 + 1; omega) (.int .i64 n) |>.drew
    unfold store7 at RF BF
    exact leave_res RF ⟨rfl, rfl, rfl⟩ (ParsePost.no HP.out BF)
end Go.Proofs.YtpnnhhgojijlbaaDoor
