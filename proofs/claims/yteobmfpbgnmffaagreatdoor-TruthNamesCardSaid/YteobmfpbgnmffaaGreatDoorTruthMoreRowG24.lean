/- IxMem -/
import Derived.Test.YteobmfpbgnmffaaGreatDoorTruthMoreRowG23
set_option linter.unusedSimpArgs false
set_option linter.unusedVariables false
/- An index of who provides what, as it lies while it is under way: packages in a row, numbers by names in three maps; whose each block is, colours tell. -/

namespace Go.Proofs.YteobmfpbgnmffaaGreatDoor
open Go.RowKit Go.Shelf Go.Maps Go.ChangeShapes
set_option linter.unusedVariables false

def intsOf : DataW Unit → List (DataW Unit)
  | .slice l _ => l
  | _ => []
theorem intsOf_row {w : World} {base : Nat} {e : TypeId} {q : IntKind} {v : Value} {zs : List Int} (h : w.ownsInts base e q v zs) : intsOf (rowDatum q v zs) = lits q zs := by
  rcases h.datum (H := Unit) with ⟨h1, rfl⟩ | h1
  · rw [h1]; rfl
  · rw [h1]; rfl
theorem lits_inj {q : IntKind} {a b : List Int} (h : lits (H := Unit) q a = lits q b) : a = b :=
  (List.map_inj_right (fun x y hxy => by cases hxy; rfl)).1 h
/-- what a map of numbers by names says -/
def Says (D : DataW Unit) (f : ByteArray → List Int) : Prop := IsMap D ∧ ∀ s : ByteArray, intsOf (D.atKey (.string s.data.toList) .nil) = lits .i64 (f s)
def addF (f : ByteArray → List Int) (key : ByteArray) (x : Int) : ByteArray → List Int := fun s => if s = key then f s ++ [x] else f s
theorem says_empty : Says (.map []) fun _ => [] := ⟨isMap_empty, fun _ => rfl⟩
theorem key_ne {a b : ByteArray} (h : a ≠ b) : (Lit.string a.data.toList) ≠ .string b.data.toList := fun e => by
  have e2 : a.data.toList = b.data.toList := by injection e
  exact h (by cases a; cases b; simp only at e2; exact congrArg ByteArray.mk (Array.toList_inj.1 e2))
theorem Says.put {D : DataW Unit} {f : ByteArray → List Int} {key : ByteArray} {x : Int} {w : World} {base : Nat} {e : TypeId} {v : Value} (h : Says D f) (ho : w.ownsInts base e .i64 v (f key ++ [x])) : Says (D.put (.string key.data.toList) (rowDatum .i64 v (f key ++ [x]))) (addF f key x) := by
  refine ⟨h.1.put _ _, fun s => ?_⟩
  by_cases e : s = key
  · subst e
    rw [atKey_put_same (k := .string s.data.toList) h.1 trivial, intsOf_row ho]
    simp [addF]
  · rw [atKey_put_other (key_ne e), h.2 s]
    simp [addF, e]
theorem Says.at_ {D : DataW Unit} {f : ByteArray → List Int} {key : ByteArray} {w : World} {base : Nat} {e : TypeId} {v : Value} {zs : List Int} (h : Says D f) (ho : w.ownsInts base e .i64 v zs) (hat : D.atKey (.string key.data.toList) .nil = rowDatum .i64 v zs) : zs = f key := by
  have := h.2 key
  rw [hat, intsOf_row ho] at this
  exact lits_inj this
section
variable {base mb N : Nat} {f : ByteArray → List Int} {key : ByteArray} {No : Nat → Prop}
/-- what the look-up hands over -/
def LKf (base mb N : Nat) (f : ByteArray → List Int) (key : ByteArray) (No : Nat → Prop) (u : Value) (W : World) : Prop :=
  ∃ D : DataW Unit, W.ownsGroups Tryz.prog 9 base 3 .i64 mb N D ∧ Says D f ∧ W.ownsInts base 3 .i64 u (f key) ∧ (f key).length ≤ N ∧ W.groupBack Tryz.prog 122 9 base 3 .i64 mb N D (.string key) (.string key.data.toList) u ∧ W.Shuns mb No ∧ ∀ g, u.ownBlock = some g → ¬ No g
theorem LKf.below {u : Value} {W W' : World} (h : LKf base mb N f key No u W) (hb : Below W.heap.size W W') : LKf base mb N f key No u W' := by
  obtain ⟨D, h1, hs, h2, h3, h4, h5, h6⟩ := h
  have hg := grown_of_below hb none
  have hm : mb < W.heap.size := by
    obtain ⟨es, clock, hh, _⟩ := h1
    exact (Array.getElem?_eq_some_iff.1 hh).1
  refine ⟨D, h1.kept hg (by simp) (h5.rowsOff (by simp)), hs, h2.kept hg (by
    cases u.ownBlock <;> simp), h3, fun w1 v' zs' k1 k2 k3 k4 => h4 w1 v' zs' ((grown_of_below hb u.ownBlock).trans k1) k2 k3 (k4.imp id fun ⟨g, e, hge⟩ => ⟨g, e, Nat.le_trans hb.size hge⟩), h5.kept hg hm (by simp), h6⟩
/-- what the append leaves -/
def APf (w : World) (base mb N : Nat) (f : ByteArray → List Int) (key : ByteArray) (No No2 : Nat → Prop) (x : Int) (v' : Value) (W : World) : Prop :=
  ∃ (W2 : World) (u : Value), Below w.heap.size w W2 ∧ LKf base mb N f key No u W2 ∧ W2.grownBy W u.ownBlock ∧ W.ownsInts base 3 .i64 v' (f key ++ [x]) ∧ (v'.ownBlock = u.ownBlock ∨ ∃ g, v'.ownBlock = some g ∧ W2.heap.size ≤ g) ∧ ∀ g, v'.ownBlock = some g → ¬ No2 g
theorem APf.below {w : World} {No2 : Nat → Prop} {x : Int} {v' : Value} {W W' : World} (h : APf w base mb N f key No No2 x v' W) (hb : Below W.heap.size W W') : APf w base mb N f key No No2 x v' W' := by
  obtain ⟨W2, u, h0, h1, h7, h8, h9, h10⟩ := h
  exact ⟨W2, u, h0, h1, h7.trans (grown_of_below hb _), h8.kept (grown_of_below hb none) (by cases v'.ownBlock <;> simp), h9, h10⟩
theorem APf.mk {w W w9 : World} {No2 : Nat → Prop} {x : Int} {u v' : Value} (h0 : Below w.heap.size w W) (h1 : LKf base mb N f key No u W)
    (hN2 : ∀ g, No2 g → No g) (hN3 : ∀ g, No2 g → g < w.heap.size) (hx : (Lit.int .i64 x).wf = true)
    (ho : w9.ownsRow base 3 1 v' ((f key).length + [x].length) ((f key).map (Value.int .i64) ++ [x].flatMap encI)) (hg : W.grownBy w9 u.ownBlock) (hl : v'.ownBlock = u.ownBlock ∨ v'.ownBlock = some W.heap.size) : APf w base mb N f key No No2 x v' w9 := by
  have h1' := h1
  obtain ⟨D, k1, ks, k2, k3, k4, k5, k6⟩ := h1
  refine ⟨W, u, h0, h1', hg, k2.appended (by simpa [encI] using ho) hx, hl.imp id fun e => ⟨_, e, Nat.le_refl _⟩, fun g e hn => ?_⟩
  rcases hl with e2 | e2
  · exact k6 g (by rw [← e2]; exact e) (hN2 g hn)
  · rw [e2] at e; cases e
    have := hN3 _ hn
    have := h0.size
    omega
end
/-- the map of numbers by names, and what it says -/
def Grp (base mb N : Nat) (f : ByteArray → List Int) (W : World) : Prop := ∃ D, W.ownsGroups (H := Unit) Tryz.prog 9 base 3 .i64 mb N D ∧ Says D f
section
variable (w : World)
set_option maxRecDepth 100000 in
theorem op_lookup_grp {base mb N : Nat} {f : ByteArray → List Int} {o : Oper} {a : Act} {K : Act → World → Prop} {Q : Exit → Act → World → Prop} (m x : Operand) (hop : o.op = Op.lookup 122 m x false) {key : ByteArray} {No : Nat → Prop} (hm : a.eval m = .map (some mb)) (hx : a.eval x = .string key) (hk : key.size ≤ maxLen) (hN : N < maxLen)
    (hg : Grp base mb N f w) (hs : w.Shuns mb No) (h : ∀ u, LKf base mb N f key No u w → K (a.put o.dst u) w) : Oper.wp Tryz.prog o a w K Q := by
  obtain ⟨D, hD, hS⟩ := hg
  have KS := Maps.string_keyed (P := Tryz.prog) (k := 9) Tryz.underlying9
  obtain ⟨u, zs, hrun, hat, hoi, hzl, hback⟩ := hD.at KS Tryz.underlying122 rfl hN (WideMaps.keyOf_string_mk (P := Tryz.prog) Tryz.underlying9 hk)
  obtain rfl := hS.at_ hoi hat
  have hsh : ∀ g, u.ownBlock = some g → ¬ No g := by
    obtain ⟨es, clock, hb, F, _⟩ := hD
    rcases Maps.fit_look false KS Tryz.underlying122 rfl hb F (WideMaps.keyOf_string_mk (P := Tryz.prog) Tryz.underlying9 hk) with ⟨hrun', _, _⟩ | ⟨e0, y, hm0, _, hrun', _, _, _⟩
    · rw [hrun] at hrun'
      obtain rfl : u = .slice none 0 0 := by simpa using hrun'
      intro g hg'
      cases hg'
    · rw [hrun] at hrun'
      obtain rfl : u = e0.val := by simpa using hrun'
      exact fun g hg' => hs es clock hb e0 hm0 g hg'
  unfold Oper.wp
  simp [execOp, hop, hm, hx, hrun, Result.andThen]
  exact h u ⟨D, hD, hS, hoi, hzl, hback, hs, hsh⟩
end
def R3 (i : Nat) : Prop := 1 ≤ i ∧ i ≤ 3
/-- an index under way: its block X, its maps m i, the rows' base; col: whose a block is (1 to 3: a row of the map; 4: the row of packages; 5: what packages hang on) -/
structure IxSt (w0 : World) (X : Nat) (m : Nat → Nat) (base N : Nat) (L : List Pk) (f : Nat → ByteArray → List Int) (col : Nat → Nat) (v : Value) (W : World) : Prop where
  old : Below w0.heap.size w0 W
  loX : w0.heap.size ≤ X
  hX : X < base
  loM : ∀ i, R3 i → w0.heap.size ≤ m i
  hM : ∀ i, R3 i → m i < base
  neX : ∀ i, R3 i → m i ≠ X
  neM : ∀ i j, R3 i → R3 j → i ≠ j → m i ≠ m j
  hb : base ≤ W.heap.size
  c0 : W.cell? ⟨X, 0, none⟩ = some v
  cm : ∀ i, R3 i → W.cell? ⟨X, i, none⟩ = some (.map (some (m i)))
  fz : W.frozen? ⟨X, 0, none⟩ = false
  own : Own Pk.cells 15 base 28 v L W
  hang : ∀ q ∈ L, Hangs (fun b => col b = 5) q W
  row : ∀ g, v.ownBlock = some g → col g = 4
  dom : ∀ b, col b ≠ 0 → base ≤ b ∧ b < W.heap.size
  grp : ∀ i, R3 i → Grp base (m i) N (f i) W
  shun : ∀ i, R3 i → W.Shuns (m i) (fun b => col b ≠ i)
section
variable {w0 : World} {X base N : Nat} {m : Nat → Nat} {L : List Pk} {f : Nat → ByteArray → List Int} {col : Nat → Nat} {v : Value} {W W' : World}
theorem IxSt.then (h : IxSt w0 X m base N L f col v W) (hb : Below W.heap.size W W') : IxSt w0 X m base N L f col v W' := by
  have hX : X < W.heap.size := Nat.lt_of_lt_of_le h.hX h.hb
  have hM : ∀ i, R3 i → m i < W.heap.size := fun i hi => Nat.lt_of_lt_of_le (h.hM i hi) h.hb
  have hg := grown_of_below hb none
  exact { h with
    old := h.old.trans (hb.mono h.old.size)
    hb := Nat.le_trans h.hb hb.size
    c0 := (hb.cell (p := ⟨X, 0, none⟩) hX).trans h.c0
    cm := fun i hi => (hb.cell (p := ⟨X, i, none⟩) hX).trans (h.cm i hi)
    fz := (hb.frozen (p := ⟨X, 0, none⟩) hX).trans h.fz
    own := own_keep h.own (Nat.le_refl _) fun g hg => hb.block g (World.ownsRow.lt h.own g hg).2
    hang := fun x hx => (h.hang x hx).keep hb.size (fun b hq => hb.block b (h.dom b (by rw [hq]; decide)).2) (fun _ hq => hq) fun b hq => Nat.lt_of_lt_of_le (h.dom b (by rw [hq]; decide)).2 hb.size
    dom := fun g hg => ⟨(h.dom g hg).1, Nat.lt_of_lt_of_le (h.dom g hg).2 hb.size⟩
    grp := fun i hi => by
      obtain ⟨D, hD, hS⟩ := h.grp i hi
      exact ⟨D, hD.kept hg (by simp) ((h.shun i hi).rowsOff (by simp)), hS⟩
    shun := fun i hi => (h.shun i hi).kept hg (hM i hi) (by simp) }
/-- the colour of a row that a map's group has now -/
def colU (col : Nat → Nat) (i : Nat) (v' : Value) : Nat → Nat := fun b => if v'.ownBlock = some b then i else col b
theorem grp_more {mb N' : Nat} {g : ByteArray → List Int} (h : Grp base mb N g W) (hN : N ≤ N') : Grp base mb N' g W := by
  obtain ⟨D, ⟨es, clock, h1, h2, h3, h4, h5, h6, h7⟩, hS⟩ := h
  exact ⟨D, ⟨es, clock, h1, h2, Nat.le_trans h3 hN, h4, h5, fun x hx zs hz => Nat.le_trans (h6 x hx zs hz) hN, h7⟩, hS⟩
/-- a group's row has grown, and the map was written -/
theorem IxSt.named {i : Nat} {row : Option Nat} {D : DataW Unit} {f' : ByteArray → List Int} {v' : Value} {w1 : World} (h : IxSt w0 X m base N L f col v W) (hi : R3 i) (hr : ∀ j, row = some j → base ≤ j ∧ col j = i) (h1 : W.grownBy w1 row) (h2 : w1.grownBy W' (some (m i)))
    (hv : ∀ g, v'.ownBlock = some g → base ≤ g ∧ g < W'.heap.size ∧ (row = some g ∨ W.heap.size ≤ g)) (hD : W'.ownsGroups (H := Unit) Tryz.prog 9 base 3 .i64 (m i) (N + 1) D) (hS : Says D f') (hs : W'.Shuns (m i) (fun b => colU col i v' b ≠ i)) :
    IxSt w0 X m base (N + 1) L (fun j => if j = i then f' else f j) (colU col i v') v W' := by
  have hX : X < W.heap.size := Nat.lt_of_lt_of_le h.hX h.hb
  have hM : ∀ j, R3 j → m j < W.heap.size := fun j hj => Nat.lt_of_lt_of_le (h.hM j hj) h.hb
  have blk : ∀ k, k < W.heap.size → some k ≠ row → k ≠ m i → W'.heap[k]? = W.heap[k]? := fun k hk hr hm => (h2.block k (Nat.lt_of_lt_of_le hk h1.size) (fun e => hm (Option.some.inj e))).trans (h1.block k hk hr)
  have hsz : W.heap.size ≤ W'.heap.size := Nat.le_trans h1.size h2.size
  have pX : W'.heap[X]? = W.heap[X]? := blk X hX (fun e => by have := (hr X e.symm).1; have := h.hX; omega) (fun e => h.neX i hi e.symm)
  have hg0 : Below w0.heap.size w0 W' := (h.old.grown h1 h.old.size (fun k e => Nat.le_trans h.loX (Nat.le_of_lt (Nat.lt_of_lt_of_le h.hX (hr k e).1)))).grown h2 (Nat.le_trans h.old.size h1.size) (fun k e => by cases e; exact h.loM i hi)
  have i3 : i ≤ 3 := hi.2
  have i1 : 1 ≤ i := hi.1
  have cno : ∀ b, col b ≠ 0 → col b ≠ i → colU col i v' b = col b := fun b hb hbi => by
    unfold colU
    split
    · rename_i e
      rcases (hv b e).2.2 with e2 | e2
      · exact absurd (hr b e2).2 hbi
      · have := (h.dom b hb).2; omega
    · rfl
  have keep : ∀ b, col b ≠ 0 → col b ≠ i → W'.heap[b]? = W.heap[b]? := fun b hb hbi => blk b (h.dom b hb).2 (fun e => hbi (hr b e.symm).2) (fun e => by have := (h.dom b hb).1; have := h.hM i hi; omega)
  exact { h with
    old := hg0
    hb := Nat.le_trans h.hb hsz
    c0 := (World.cell?_of_block (w := W) (a := ⟨X, 0, none⟩) pX).trans h.c0
    cm := fun j hj => (World.cell?_of_block (w := W) (a := ⟨X, j, none⟩) pX).trans (h.cm j hj)
    fz := (World.frozen?_of_block (w := W) (a := ⟨X, 0, none⟩) pX).trans h.fz
    own := own_keep h.own (Nat.le_refl _) fun g hg => keep g (by rw [h.row g hg]; decide) (by rw [h.row g hg]; omega)
    hang := fun x hx => (h.hang x hx).keep hsz (fun b hq => keep b (by rw [hq]; decide) (by rw [hq]; omega)) (fun b hq => by rw [cno b (by rw [hq]; decide) (by rw [hq]; omega)]; exact hq) fun b hq => by
      unfold colU at hq
      split at hq
      · omega
      · exact Nat.lt_of_lt_of_le (h.dom b (by rw [hq]; decide)).2 hsz
    row := fun g hg => by rw [cno g (by rw [h.row g hg]; decide) (by rw [h.row g hg]; omega)]; exact h.row g hg
    dom := fun b hb => by
      unfold colU at hb
      split at hb
      · rename_i e; exact ⟨(hv b e).1, (hv b e).2.1⟩
      · exact ⟨(h.dom b hb).1, Nat.lt_of_lt_of_le (h.dom b hb).2 hsz⟩
    grp := fun j hj => by
      by_cases e : j = i
      · subst e; rw [if_pos rfl]; exact ⟨D, hD, hS⟩
      · rw [if_neg e]
        obtain ⟨Dj, hDj, hSj⟩ := grp_more (h.grp j hj) (Nat.le_succ N)
        have n1 : some (m j) ≠ row := fun e2 => by have := (hr _ e2.symm).1; have := h.hM j hj; omega
        exact ⟨Dj, (hDj.kept h1 n1 ((h.shun j hj).rowsOff fun b hb => by rw [(hr b hb).2]; exact fun e2 => e e2.symm)).kept h2 (fun e2 => h.neM j i hj hi e (Option.some.inj e2)) (by
          have q := hDj.kept h1 n1 ((h.shun j hj).rowsOff fun b hb => by rw [(hr b hb).2]; exact fun e2 => e e2.symm)
          exact q.rowsAbove fun b hb => by cases hb; exact h.hM i hi), hSj⟩
    shun := fun j hj => by
      by_cases e : j = i
      · subst e; exact hs
      · have n1 : some (m j) ≠ row := fun e2 => by have := (hr _ e2.symm).1; have := h.hM j hj; omega
        obtain ⟨Dj, hDj, hSj⟩ := h.grp j hj
        have q : W.Shuns (m j) (fun b => colU col i v' b ≠ j) := (h.shun j hj).reno hDj fun b hb => by
          unfold colU at hb
          split at hb
          · rename_i e2
            rcases (hv b e2).2.2 with e3 | e3
            · exact .inl (by rw [(hr b e3).2]; exact fun e4 => e e4.symm)
            · exact .inr e3
          · exact .inl hb
        exact (q.kept h1 (hM j hj) n1).kept h2 (Nat.lt_of_lt_of_le (hM j hj) h1.size) (fun e2 => h.neM j i hj hi e (Option.some.inj e2)) }
/-- the colours when a package more stands in the row -/
def colR (col : Nat → Nat) (lo hi : Nat) (v' : Value) : Nat → Nat := fun b => if v'.ownBlock = some b then 4 else if lo ≤ b ∧ b < hi then 5 else col b
theorem IxSt.more {w1 : World} {q : Pk} {lo hi : Nat} {v' : Value} (h : IxSt w0 X m base N L f col v W) (h1 : W.grownBy w1 v.ownBlock) (ho : Own Pk.cells 15 base 28 v' (L ++ [q]) w1) (hq : Hangs (fun b => lo ≤ b ∧ b < hi) q w1) (hlo : base ≤ lo) (hhi : hi ≤ W.heap.size) (hfree : ∀ b, lo ≤ b → col b = 0)
    (hl : v'.ownBlock = v.ownBlock ∨ ∃ g, v'.ownBlock = some g ∧ W.heap.size ≤ g) : IxSt w0 X m base N (L ++ [q]) f (colR col lo hi v') v' (w1.setCell ⟨X, 0, none⟩ v') := by
  have hX : X < W.heap.size := Nat.lt_of_lt_of_le h.hX h.hb
  have hM : ∀ j, R3 j → m j < W.heap.size := fun j hj => Nat.lt_of_lt_of_le (h.hM j hj) h.hb
  have hrow : ∀ g, v.ownBlock = some g → base ≤ g ∧ g < W.heap.size := World.ownsRow.lt h.own
  have hsz : (w1.setCell ⟨X, 0, none⟩ v').heap.size = w1.heap.size := by simp [World.setCell]
  have hs1 : ∀ b, b ≠ X → (w1.setCell ⟨X, 0, none⟩ v').heap[b]? = w1.heap[b]? := fun b hb => Below.heap_setCell _ _ _ _ hb
  have blk : ∀ k, k < W.heap.size → v.ownBlock ≠ some k → k ≠ X → (w1.setCell ⟨X, 0, none⟩ v').heap[k]? = W.heap[k]? := fun k hk hr hp => (hs1 k hp).trans (h1.block k hk (fun e => hr e.symm))
  have pX : w1.heap[X]? = W.heap[X]? := h1.block X hX (fun e => by have := (hrow X e.symm).1; have := h.hX; omega)
  have gX : w1.grownBy (w1.setCell ⟨X, 0, none⟩ v') (some X) := ⟨rfl, rfl, rfl, Nat.le_of_eq hsz.symm, fun k _ hk => hs1 k (fun e => hk (by rw [e]))⟩
  have cX : ∀ i, (w1.cell? ⟨X, i, none⟩ = W.cell? ⟨X, i, none⟩) := fun i => World.cell?_of_block (w := W) (a := ⟨X, i, none⟩) pX
  have mne : ∀ j, R3 j → some (m j) ≠ v.ownBlock := fun j hj e => by have := (hrow _ e.symm).1; have := h.hM j hj; omega
  have v4 : ∀ g, v'.ownBlock = some g → (col g = 4 ∨ W.heap.size ≤ g) := fun g hg => by
    rcases hl with e | ⟨g', e, hge⟩
    · exact .inl (h.row g (by rw [← e]; exact hg))
    · rw [e] at hg; cases hg; exact .inr hge
  refine ⟨(h.old.grown h1 h.old.size (fun k e => Nat.le_trans h.loX (Nat.le_of_lt (Nat.lt_of_lt_of_le h.hX (hrow k e).1)))).setCell (p := ⟨X, 0, none⟩) h.loX v', h.loX, h.hX, h.loM, h.hM, h.neX, h.neM, by rw [hsz]; exact Nat.le_trans h.hb h1.size, sc_same ((cX 0).trans h.c0), fun j hj => (sc_other (by have := hj.1; intro e; simp only [Addr.mk.injEq] at e; omega)).trans ((cX j).trans (h.cm j hj)), ?_, ?_, fun x hx => ?_, fun g hg => ?_, fun b hb => ?_, fun j hj => ?_, fun j hj => ?_⟩
  · rw [World.frozen?_setCell]
    exact (World.frozen?_of_block (w := W) (a := ⟨X, 0, none⟩) pX).trans h.fz
  · exact own_keep ho (Nat.le_refl _) fun g hg => hs1 g (fun e => by have := (World.ownsRow.lt ho g hg).1; have := h.hX; omega)
  · have lt5 : ∀ b, colR col lo hi v' b = 5 → b < (w1.setCell ⟨X, 0, none⟩ v').heap.size := fun b hb => by
      rw [hsz]
      unfold colR at hb
      split at hb
      · omega
      · split at hb
        · rename_i e; have := h1.size; omega
        · exact Nat.lt_of_lt_of_le (h.dom b (by rw [hb]; decide)).2 h1.size
    rcases List.mem_append.1 hx with hx | hx
    · refine (h.hang x hx).keep (by rw [hsz]; exact h1.size) (fun b hb => blk b (h.dom b (by rw [hb]; decide)).2 (fun e => by have := h.row b e; omega) (fun e => by have := (h.dom b (by rw [hb]; decide)).1; have := h.hX; omega)) (fun b hb => ?_) lt5
      unfold colR
      split
      · rename_i e
        rcases v4 b e with h4 | h4
        · omega
        · have := (h.dom b (by rw [hb]; decide)).2; omega
      · split
        · rfl
        · exact hb
    · simp at hx; subst hx
      refine hq.keep (by rw [hsz]; exact Nat.le_refl _) (fun b hb => hs1 b (fun e => by have := h.hX; omega)) (fun b hb => ?_) lt5
      unfold colR
      split
      · rename_i e
        rcases v4 b e with h4 | h4
        · have := hfree b hb.1; omega
        · omega
      · first | rfl | rw [if_pos hb]
  · unfold colR; rw [if_pos hg]
  · rw [hsz]
    unfold colR at hb
    split at hb
    · rename_i e; exact World.ownsRow.lt ho b e
    · split at hb
      · rename_i e; exact ⟨Nat.le_trans hlo e.1, by have := h1.size; omega⟩
      · exact ⟨(h.dom b hb).1, Nat.lt_of_lt_of_le (h.dom b hb).2 h1.size⟩
  · obtain ⟨D, hD, hS⟩ := h.grp j hj
    have q1 := hD.kept h1 (mne j hj) ((h.shun j hj).rowsOff fun b hb => by rw [h.row b hb]; have := hj.2; omega)
    exact ⟨D, q1.kept gX (fun e => h.neX j hj (Option.some.inj e)) (q1.rowsAbove fun b hb => by cases hb; exact h.hX), hS⟩
  · obtain ⟨D, hD, hS⟩ := h.grp j hj
    have q : W.Shuns (m j) (fun b => colR col lo hi v' b ≠ j) := (h.shun j hj).reno hD fun b hb => by
      have := hj.2
      unfold colR at hb
      split at hb
      · rename_i e
        rcases v4 b e with h4 | h4
        · exact .inl (by omega)
        · exact .inr h4
      · split at hb
        · rename_i e; exact .inl (by rw [hfree b e.1]; have := hj.1; omega)
        · exact .inl hb
    exact (q.kept h1 (hM j hj) (mne j hj)).kept gX (Nat.lt_of_lt_of_le (hM j hj) h1.size) (fun e => h.neX j hj (Option.some.inj e))
end
/-- an index as it lies -/
structure IndexAt (X : Nat) (L : List Pk) (f : ByteArray → List Int) (W : World) : Prop where
  lt : X < W.heap.size
  row : ∃ A c, W.cell? ⟨X, 0, none⟩ = some (.slice A L.length c) ∧ Rd Pk.cells 15 W.heap.size A c L W
  laid : ∀ q ∈ L, q.Laid W.heap.size W
  grp : ∃ mb base N, mb < W.heap.size ∧ N < maxLen ∧ W.cell? ⟨X, 1, none⟩ = some (.map (some mb)) ∧ Grp base mb N f W
theorem Grp.then {base mb N : Nat} {f : ByteArray → List Int} {W W' : World} (h : Grp base mb N f W) (hb : Below W.heap.size W W') : Grp base mb N f W' := by
  obtain ⟨D, hD, hS⟩ := h
  have hr := hD
  obtain ⟨es, clock, hh, F, hrest⟩ := hr
  refine ⟨D, hD.kept (grown_of_below hb none) (by simp) fun es clock hes x hx => ?_, hS⟩
  cases x.val.ownBlock with
  | none => exact .inl rfl
  | some g => exact .inr (by simp)
theorem IndexAt.then {X : Nat} {L : List Pk} {f : ByteArray → List Int} {W W' : World} (h : IndexAt X L f W) (hb : Below W.heap.size W W') : IndexAt X L f W' := by
  obtain ⟨A, c, h0, hr⟩ := h.row
  obtain ⟨mb, base, N, h1, h2, h3, h4⟩ := h.grp
  exact ⟨Nat.lt_of_lt_of_le h.lt hb.size, ⟨A, c, (hb.cell (p := ⟨X, 0, none⟩) h.lt).trans h0, (hr.below hb).more hb.size⟩, fun x hx => (h.laid x hx).calls hb, ⟨mb, base, N, Nat.lt_of_lt_of_le h1 hb.size, h2, (hb.cell (p := ⟨X, 1, none⟩) h.lt).trans h3, h4.then hb⟩⟩
theorem IxSt.at_ {w0 : World} {X base N : Nat} {m : Nat → Nat} {L : List Pk} {f : Nat → ByteArray → List Int} {col : Nat → Nat} {v : Value} {W : World} (h : IxSt w0 X m base N L f col v W) (hN : N < maxLen) : IndexAt X L (f 1) W := by
  obtain ⟨A, c, e, hr⟩ := h.own.rd (fun x => by rfl)
  exact ⟨Nat.lt_of_lt_of_le h.hX h.hb, ⟨A, c, e ▸ h.c0, hr⟩, fun x hx => (h.hang x hx).now, ⟨m 1, base, N, Nat.lt_of_lt_of_le (h.hM 1 ⟨by decide, by decide⟩) h.hb, hN, h.cm 1 ⟨by decide, by decide⟩, h.grp 1 ⟨by decide, by decide⟩⟩⟩
end Go.Proofs.YteobmfpbgnmffaaGreatDoor
