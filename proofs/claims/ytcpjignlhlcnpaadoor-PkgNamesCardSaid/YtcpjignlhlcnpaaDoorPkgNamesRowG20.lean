/- ShTell -/
import Derived.Test.YtcpjignlhlcnpaaDoorPkgNamesRowG18
import Derived.Test.YtcpjignlhlcnpaaDoorPkgNamesRowG19
import Derived.Test.YtcpjignlhlcnpaaDoorPkgNamesRowG03
set_option linter.unusedSimpArgs false
set_option linter.unusedVariables false
/- Walks: shape's iterator over the parts of a rich dependency: a closure that calls itself and hands yield on. -/



namespace Go.Proofs.YtcpjignlhlcnpaaDoor
open Go.RowKit Go.Shelf
set_option linter.unusedVariables false
attribute [local go_sem] Oper.semAt_some
attribute [local go_sem ↓ high] asked_wide

/-- what a round keeps: all cells but those of one block -/
def KC (R : Nat) (W W' : World) : Prop := (∀ a v, a.block ≠ R → W.cell? a = some v → W'.cell? a = some v ∧ W'.frozen? a = W.frozen? a) ∧ W.heap.size ≤ W'.heap.size
theorem KC.refl (R : Nat) (W : World) : KC R W W := ⟨fun _ _ _ h => ⟨h, rfl⟩, Nat.le_refl _⟩
theorem KC.trans {R : Nat} {A B C : World} (h : KC R A B) (k : KC R B C) : KC R A C := ⟨fun a v ha hv => by
  obtain ⟨h1, h2⟩ := h.1 a v ha hv
  obtain ⟨k1, k2⟩ := k.1 a v ha h1
  exact ⟨k1, k2.trans h2⟩, Nat.le_trans h.2 k.2⟩
theorem KC.of {R : Nat} {W W' : World} (h : Below W.heap.size W W') : KC R W W' := ⟨fun a v _ hv => by
  have hl := World.block_lt_of_cell? W _ hv
  exact ⟨(h.cell hl).trans hv, h.frozen hl⟩, h.size⟩
theorem KC.alloc {R : Nat} (W : World) (o : Obj) : KC R W (W.alloc o) := KC.of ((Below.refl _ _).alloc (Nat.le_refl _) o)
theorem KC.set {R : Nat} (W : World) (i : Nat) (v : Value) : KC R W (W.setCell ⟨R, i, none⟩ v) := ⟨fun a u ha hu => ⟨(World.cell?_setCell_other _ _ _ _ (fun e => ha (by rw [← e]))).trans hu, World.frozen?_setCell _ _ _ _⟩, by simp [World.setCell]⟩
theorem kc_t {R : Nat} {A B C : World} (h : KC R A B) (k : KC R B C) : KC R A C := h.trans k
theorem kc_b {R : Nat} (W : World) (l : Nat) (o o' : Obj) (h : W.heap[l]? = some o) (hc : o.isCells = false) : KC R W (W.putObj l o') :=
  ⟨fun a v _ hv => ⟨cell_kept hv (grownBy_putObj' W l o') (fun r e => by cases e; exact ⟨o, h, hc⟩), frozen_kept hv (grownBy_putObj' W l o') (fun r e => by cases e; exact ⟨o, h, hc⟩)⟩, (grownBy_putObj' W l o').size⟩
theorem KC.cell {R b i : Nat} {W W' : World} {v : Value} (h : KC R W W') (hb : b ≠ R) (hv : W.cell? ⟨b, i, none⟩ = some v) : W'.cell? ⟨b, i, none⟩ = some v := (h.1 ⟨b, i, none⟩ v hb hv).1
theorem TQ.kc {R : Nat} {W W' : World} {t : RV} (h : TQ (· ≠ R) W t) (k : KC R W W') : TQ (· ≠ R) W' t := by
  induction h with
  | mk h1 h2 h3 h4 _ ih =>
    refine .mk h1 h2 h3 (fun q hq => ?_) ih
    obtain ⟨b, o, e, hb, hc⟩ := h4 q hq
    exact ⟨b, o, e, hb, fun j u hu => k.cell hb (hc j u hu)⟩
theorem TQ.wf {Q : Nat → Prop} {W : World} {t : RV} (h : TQ Q W t) : t.dep.wf := by cases h; assumption
theorem TQ.sub {Q : Nat → Prop} {W : World} {t : RV} (h : TQ Q W t) : ∀ a ∈ t.args, TQ Q W a := by cases h; assumption
theorem TQ.at_ {Q : Nat → Prop} {W : World} {t : RV} (h : TQ Q W t) {k : Nat} (hk : k < t.args.length) : ∃ b o, t.addr = some ⟨b, o, none⟩ ∧ W.cell? ⟨b, o + k * 7, none⟩ = some (.int .u8 t.args[k].kind) ∧ W.cell? ⟨b, o + k * 7 + 1, none⟩ = some (.string (bs t.args[k].dep.name)) ∧ W.cell? ⟨b, o + k * 7 + 2, none⟩ = some (.int .u8 t.args[k].dep.op) ∧ W.cell? ⟨b, o + k * 7 + 3, none⟩ = some (.int .i64 t.args[k].dep.evr.epoch) ∧ W.cell? ⟨b, o + k * 7 + 4, none⟩ = some (.string (bs t.args[k].dep.evr.ver)) ∧ W.cell? ⟨b, o + k * 7 + 5, none⟩ = some (.string (bs t.args[k].dep.evr.rel)) ∧ W.cell? ⟨b, o + k * 7 + 6, none⟩ = some (.slice t.args[k].addr t.args[k].args.length t.args[k].cap) := by
  cases h with
  | mk h1 h2 h3 h4 h5 =>
    obtain ⟨b, o, e, _, hc⟩ := h4 k hk
    exact ⟨b, o, e, hc 0 _ rfl, hc 1 _ rfl, hc 2 _ rfl, hc 3 _ rfl, hc 4 _ rfl, hc 5 _ rfl, hc 6 _ rfl⟩
/-- the parts in the row in which they are told, each with whether it stands within a With or a Without -/
def alone (al : Bool) (k : Int) : Bool := al || (k == 6 || k == 7)
mutual
def pl (al : Bool) : RV → List (RV × Bool) | .node k d A c l => (.node k d A c l, al) :: plL (alone al k) l
def plL (al : Bool) : List RV → List (RV × Bool) | [] => [] | a :: l => pl al a ++ plL al l
end
theorem pl_eq (al : Bool) (t : RV) : pl al t = (t, al) :: plL (alone al t.kind) t.args := by cases t; rfl
theorem plL_app (al : Bool) : ∀ l r : List RV, plL al (l ++ r) = plL al l ++ plL al r
  | [], r => rfl
  | a :: l, r => by rw [List.cons_append, plL, plL, plL_app al l r, List.append_assoc]
theorem plL_snoc (al : Bool) (l : List RV) (i : Nat) (h : i < l.length) : plL al (l.take (i + 1)) = plL al (l.take i) ++ pl al l[i] := by
  rw [take_snoc l i h, plL_app, plL, plL, List.append_nil]
theorem plL_len (al : Bool) (l : List RV) (i : Nat) : (plL al (l.take i)).length ≤ (plL al l).length := by
  have h := plL_app al (l.take i) (l.drop i)
  rw [List.take_append_drop] at h
  rw [h, List.length_append]; omega
/-- each kind is a byte -/
inductive KO : RV → Prop where
  | mk {t : RV} : 0 ≤ t.kind ∧ t.kind ≤ 255 → (∀ a ∈ t.args, KO a) → KO t
theorem KO.byte {t : RV} (h : KO t) : 0 ≤ t.kind ∧ t.kind ≤ 255 := by cases h; assumption
theorem KO.sub {t : RV} (h : KO t) : ∀ a ∈ t.args, KO a := by cases h; assumption
abbrev PtX := { x : RV × Bool // x.1.dep.wf ∧ KO x.1 }
def pxArgs (x : PtX) : Array Value := #[x.1.1.val, .bool x.1.2]
def firsts (l : List PtX) : List (RV × Bool) := l.map (·.1)
theorem firsts_app (a b : List PtX) : firsts (a ++ b) = firsts a ++ firsts b := List.map_append
theorem firsts_len (l : List PtX) : (firsts l).length = l.length := List.length_map _
def tellV (tb : Nat) : Value := .func (.func 54) #[] #[.pointer (some ⟨tb, 0, none⟩)]
def TellPost (R : Nat) (J Jx : List PtX → World → Prop) (al : Bool) (T : RV) (pre : List PtX) (W : World) (e : Ending) (W' : World) : Prop :=
  (e = .returned (.bool true) ∧ (∃ ys, firsts ys = pl al T ∧ J (pre ++ ys) W') ∧ KC R W W') ∨ (e = .returned (.bool false) ∧ ∃ q, firsts q <+: pl al T ∧ Jx (pre ++ q) W')
set_option maxRecDepth 100000 in
set_option maxHeartbeats 16000000 in
theorem tell_in (l R tb N : Nat) (htb : tb ≠ R) (J Jx : List PtX → World → Prop) (hAl : ∀ pre W o, J pre W → J pre (W.alloc o))
    (hY : ∀ m pre (x : PtX) W, J pre W → pre.length < N → R < W.heap.size → YieldAt Fence.wide m Tryd.prog l (pxArgs x) W fun e W' => (e = .returned (.bool true) ∧ J (pre ++ [x]) W' ∧ KC R W W') ∨ (e = .returned (.bool false) ∧ Jx (pre ++ [x]) W')) :
    ∀ (f : Nat) (T : RV) (al : Bool) (n : Nat) (pre : List PtX) (W : World), T.ht ≤ f → KO T → TQ (· ≠ R) W T → R < W.heap.size → W.cell? ⟨tb, 0, none⟩ = some (tellV tb) → J pre W → pre.length + (pl al T).length ≤ N →
      CallsIn Fence.wide n Tryd.prog 54 #[T.val, .bool al, .func (.yield l) #[] #[], .pointer (some ⟨tb, 0, none⟩)] W (TellPost R J Jx al T pre W)
  | 0, T, _, _, _, _, hf, _, _, _, _, _, _ => absurd hf (by rw [ht_args]; omega)
  | f + 1, T, al, n, pre, W, hf, hko, hT, hRl, hc, hJ, hN => by
    have IH := Lib.hid (fun x al' pre' W' h1 h2 h3 h4 h5 h6 h7 => tell_in l R tb N htb J Jx hAl hY f x al' (n - 1) pre' W' h1 h2 h3 h4 h5 h6 h7)
    have HF := Lib.hid (show htL T.args ≤ f by rw [ht_args] at hf; omega)
    have HN := Lib.hid (show pre.length + 1 + (plL (alone al T.kind) T.args).length ≤ N by rw [pl_eq, List.length_cons] at hN; omega)
    obtain ⟨x, hx⟩ : ∃ x : PtX, x.1 = (T, al) := ⟨⟨(T, al), hT.wf, hko⟩, rfl⟩
    have HKO := Lib.hid hko.sub
    have PE := Lib.hid (pl_eq al T)
    obtain ⟨W1, hW1⟩ : ∃ W1, W1 = W.alloc (.cells #[.int .u8 T.kind, .string (bs T.dep.name), .int .u8 T.dep.op, .int .i64 T.dep.evr.epoch, .string (bs T.dep.evr.ver), .string (bs T.dep.evr.rel), .slice T.addr T.args.length T.cap] 28) := ⟨_, rfl⟩
    have hb1 : Below W.heap.size W W1 := by rw [hW1]; exact (Below.refl _ _).alloc (Nat.le_refl _) _
    obtain ⟨fn, tm, as_, bd, hy, hRd⟩ := hY (n - 1) pre x W1 (by rw [hW1]; exact hAl _ _ _ hJ) (by have := HN.out; omega) (Nat.lt_of_lt_of_le hRl hb1.size)
    have hB7 := Box7.new W (.int .u8 T.kind) (.string (bs T.dep.name)) (.int .u8 T.dep.op) (.int .i64 T.dep.evr.epoch) (.string (bs T.dep.evr.ver)) (.string (bs T.dep.evr.rel)) (.slice T.addr T.args.length T.cap) 28
    rw [← hW1] at hB7
    unfold pxArgs at hy
    rw [hx] at hy
    unfold RV.val at hy ⊢
    dsimp only at hy
    have HT := Lib.hid (hT.kc (KC.of (R := R) hb1))
    have HC := Lib.hid ((KC.of (R := R) hb1).cell htb hc)
    have HB := Lib.hid hB7
    have HX := Lib.hid hx
    have HRl := Lib.hid hRl
    have K1 := Lib.hid (KC.of (R := R) hb1)
    have hlm : T.args.length ≤ maxLen := by cases hT with | mk _ h2 h3 _ _ => omega
    unfold maxLen at hlm
    clear hf hko hT hc hJ hN hx hb1 hB7
    subst hW1
    refine callsIn_of_wp Tryd.func54 rfl trivial ?_ rfl
    simp only [Tryd.ntmps54, List.size_toArray, List.length_cons, List.length_nil, Nat.reduceAdd, Nat.reduceSub, Array.replicate_succ, Array.replicate_zero, List.push_toArray, List.append_toArray, List.nil_append, List.cons_append]
    gi_wp2
    refine ⟨fun h => absurd h (by decide), hRd.mono ?_⟩
    rintro e W2 (⟨rfl, hJ2, hk2⟩ | ⟨rfl, hJx⟩)
    rotate_left
    · gi_wp2
      go_ret
      exact .inr ⟨rfl, [x], ⟨plL (alone al T.kind) T.args, by rw [PE.out]; simp [firsts, HX.out]⟩, hJx⟩
    have hne : W.heap.size ≠ R := by have := HRl.out; omega
    have c0 := hk2.cell hne HB.out.1.1
    have c6 := hk2.cell hne HB.out.1.2.2.2.2.2.2
    have K2 := Lib.hid (K1.out.trans hk2)
    have HT2 := Lib.hid (HT.out.kc hk2)
    have HC2 := Lib.hid (hk2.cell htb HC.out)
    have HJ2 := Lib.hid hJ2
    have HR2 := Lib.hid (show R < W2.heap.size by have := K2.out.2; have := HRl.out; omega)
    have HAl := Lib.hid hAl
    clear hk2 hJ2 hy hRd HT HC HB HRl K1 hne
    cases al
    · by_cases k6 : T.kind = 6
      · rw [show alone false T.kind = true by unfold alone; rw [k6]; rfl] at HN PE
        have k6b : (T.kind == 6) = true := by simpa using k6
        clear k6
        gi_wp2
        gi_loopw [29] (fun iv wr => ∃ (i : Nat) (ys : List PtX), i ≤ T.args.length ∧ iv = .int .i64 (i : Int) ∧ firsts ys = plL true (T.args.take i) ∧ J (pre ++ x :: ys) wr ∧ KC R W2 wr) (fun iv _ => T.args.length - (intOf iv).toNat)
        case atStart => exact ⟨0, [], Nat.zero_le _, rfl, rfl, HJ2.out, KC.refl _ _⟩
        case round =>
          obtain ⟨i, ys, hi, rfl, hys, hJ3, hk3⟩ := hrel
          rename World => wr
          have HYS := Lib.hid hys
          have HJ3 := Lib.hid hJ3
          have K3 := Lib.hid hk3
          clear hys hJ3 hk3 HJ2 c0 c6
          by_cases hlt : i < T.args.length
          · obtain ⟨b, o, hadr, e0, e1, e2, e3, e4, e5, e6⟩ := (HT2.out.kc K3.out).at_ hlt
            have ct : wr.cell? ⟨tb, 0, none⟩ = some (tellV tb) := K3.out.cell htb HC2.out
            have ctl : tb < wr.heap.size := World.block_lt_of_cell? wr _ ct
            have hsn := plL_snoc true T.args i hlt
            have HSN := Lib.hid hsn
            have hln : (pre ++ x :: ys).length + (pl true T.args[i]).length ≤ N := by
              have h1 := HN.out
              have h2 := plL_len true T.args (i + 1)
              have h3 := congrArg List.length hsn
              have h4 := congrArg List.length HYS.out
              rw [List.length_append] at h3
              rw [firsts_len] at h4
              rw [List.length_append, List.length_cons]
              omega
            have IC := Lib.hid (fun ob => IH.out T.args[i] true (pre ++ x :: ys) (wr.alloc ob) (Nat.le_trans (ht_mem (List.getElem_mem hlt)) HF.out) (HKO.out _ (List.getElem_mem hlt)) (((HT2.out.kc K3.out).sub _ (List.getElem_mem hlt)).kc (KC.alloc _ ob)) (by have := HR2.out; have := K3.out.2; simp; omega) ((KC.alloc _ ob).cell htb ct) (hAl _ _ ob HJ3.out) hln)
            rw [hadr]
            unfold RV.val at IC
            unfold tellV at ct
            have i0 : (0 : Int) ≤ (i : Int) := by omega
            have i1 : (i : Int) < (T.args.length : Int) := by omega
            clear hsn hln hadr IH HJ3
            generalize T.args[i] = y at *
            gi_wp2
            refine ⟨trivial, fun h => absurd h (by decide), ?_⟩
            gi_at_call 54
            refine (IC.out _).mono ?_
            rintro e W4 (⟨rfl, ⟨zs, hzs, hJ4⟩, hk4⟩ | ⟨rfl, q, hq, hJx⟩)
            · have HZ := Lib.hid hzs
              have HJ4 := Lib.hid hJ4
              have K4 := Lib.hid ((K3.out.trans (KC.alloc _ _)).trans hk4)
              clear hzs hJ4 hk4 IC e0 e1 e2 e3 e4 e5 e6 ct ctl
              gi_wp2
              go_roundw
              case rel => exact ⟨i + 1, ys ++ zs, by omega, by go_num, by rw [firsts_app, HYS.out, HZ.out, HSN.out], by have := HJ4.out; simpa using this, K4.out⟩
              case measure => simp [intOf]; omega
            · have HQ := Lib.hid hq
              have HJX := Lib.hid hJx
              clear hq hJx IC e0 e1 e2 e3 e4 e5 e6 ct ctl
              gi_wp2
              go_ret
              refine .inr ⟨rfl, x :: ys ++ q, ?_, by have := HJX.out; simpa using this⟩
              obtain ⟨t, ht⟩ := HQ.out
              have h5 := plL_app true (T.args.take (i + 1)) (T.args.drop (i + 1))
              rw [List.take_append_drop, HSN.out, ← HYS.out, ← ht] at h5
              refine ⟨t ++ plL true (T.args.drop (i + 1)), ?_⟩
              rw [PE.out, h5]
              simp [firsts, HX.out]
          · obtain rfl : i = T.args.length := by omega
            clear IH
            gi_wp2
            go_ret
            refine .inl ⟨rfl, ⟨x :: ys, ?_, HJ3.out⟩, K2.out.trans K3.out⟩
            have h6 := HYS.out
            rw [List.take_of_length_le (Nat.le_refl _)] at h6
            rw [PE.out, ← h6]
            simp [firsts, HX.out]
      · have k6b : (T.kind == 6) = false := by simpa using k6
        by_cases k7 : T.kind = 7
        · rw [show alone false T.kind = true by unfold alone; rw [k7]; rfl] at HN PE
          have k7b : (T.kind == 7) = true := by simpa using k7
          clear k6 k7
          gi_wp2
          gi_loopw [29] (fun iv wr => ∃ (i : Nat) (ys : List PtX), i ≤ T.args.length ∧ iv = .int .i64 (i : Int) ∧ firsts ys = plL true (T.args.take i) ∧ J (pre ++ x :: ys) wr ∧ KC R W2 wr) (fun iv _ => T.args.length - (intOf iv).toNat)
          case atStart => exact ⟨0, [], Nat.zero_le _, rfl, rfl, HJ2.out, KC.refl _ _⟩
          case round =>
            obtain ⟨i, ys, hi, rfl, hys, hJ3, hk3⟩ := hrel
            rename World => wr
            have HYS := Lib.hid hys
            have HJ3 := Lib.hid hJ3
            have K3 := Lib.hid hk3
            clear hys hJ3 hk3 HJ2 c0 c6
            by_cases hlt : i < T.args.length
            · obtain ⟨b, o, hadr, e0, e1, e2, e3, e4, e5, e6⟩ := (HT2.out.kc K3.out).at_ hlt
              have ct : wr.cell? ⟨tb, 0, none⟩ = some (tellV tb) := K3.out.cell htb HC2.out
              have ctl : tb < wr.heap.size := World.block_lt_of_cell? wr _ ct
              have hsn := plL_snoc true T.args i hlt
              have HSN := Lib.hid hsn
              have hln : (pre ++ x :: ys).length + (pl true T.args[i]).length ≤ N := by
                have h1 := HN.out
                have h2 := plL_len true T.args (i + 1)
                have h3 := congrArg List.length hsn
                have h4 := congrArg List.length HYS.out
                rw [List.length_append] at h3
                rw [firsts_len] at h4
                rw [List.length_append, List.length_cons]
                omega
              have IC := Lib.hid (fun ob => IH.out T.args[i] true (pre ++ x :: ys) (wr.alloc ob) (Nat.le_trans (ht_mem (List.getElem_mem hlt)) HF.out) (HKO.out _ (List.getElem_mem hlt)) (((HT2.out.kc K3.out).sub _ (List.getElem_mem hlt)).kc (KC.alloc _ ob)) (by have := HR2.out; have := K3.out.2; simp; omega) ((KC.alloc _ ob).cell htb ct) (hAl _ _ ob HJ3.out) hln)
              rw [hadr]
              unfold RV.val at IC
              unfold tellV at ct
              have i0 : (0 : Int) ≤ (i : Int) := by omega
              have i1 : (i : Int) < (T.args.length : Int) := by omega
              clear hsn hln hadr IH HJ3
              generalize T.args[i] = y at *
              gi_wp2
              refine ⟨trivial, fun h => absurd h (by decide), ?_⟩
              gi_at_call 54
              refine (IC.out _).mono ?_
              rintro e W4 (⟨rfl, ⟨zs, hzs, hJ4⟩, hk4⟩ | ⟨rfl, q, hq, hJx⟩)
              · have HZ := Lib.hid hzs
                have HJ4 := Lib.hid hJ4
                have K4 := Lib.hid ((K3.out.trans (KC.alloc _ _)).trans hk4)
                clear hzs hJ4 hk4 IC e0 e1 e2 e3 e4 e5 e6 ct ctl
                gi_wp2
                go_roundw
                case rel => exact ⟨i + 1, ys ++ zs, by omega, by go_num, by rw [firsts_app, HYS.out, HZ.out, HSN.out], by have := HJ4.out; simpa using this, K4.out⟩
                case measure => simp [intOf]; omega
              · have HQ := Lib.hid hq
                have HJX := Lib.hid hJx
                clear hq hJx IC e0 e1 e2 e3 e4 e5 e6 ct ctl
                gi_wp2
                go_ret
                refine .inr ⟨rfl, x :: ys ++ q, ?_, by have := HJX.out; simpa using this⟩
                obtain ⟨t, ht⟩ := HQ.out
                have h5 := plL_app true (T.args.take (i + 1)) (T.args.drop (i + 1))
                rw [List.take_append_drop, HSN.out, ← HYS.out, ← ht] at h5
                refine ⟨t ++ plL true (T.args.drop (i + 1)), ?_⟩
                rw [PE.out, h5]
                simp [firsts, HX.out]
            · obtain rfl : i = T.args.length := by omega
              clear IH
              gi_wp2
              go_ret
              refine .inl ⟨rfl, ⟨x :: ys, ?_, HJ3.out⟩, K2.out.trans K3.out⟩
              have h6 := HYS.out
              rw [List.take_of_length_le (Nat.le_refl _)] at h6
              rw [PE.out, ← h6]
              simp [firsts, HX.out]
        · rw [show alone false T.kind = false by unfold alone; rw [k6b, show (T.kind == 7) = false by simpa using k7]; rfl] at HN PE
          have k7b : (T.kind == 7) = false := by simpa using k7
          clear k6 k7
          gi_wp2
          gi_loopw [29] (fun iv wr => ∃ (i : Nat) (ys : List PtX), i ≤ T.args.length ∧ iv = .int .i64 (i : Int) ∧ firsts ys = plL false (T.args.take i) ∧ J (pre ++ x :: ys) wr ∧ KC R W2 wr) (fun iv _ => T.args.length - (intOf iv).toNat)
          case atStart => exact ⟨0, [], Nat.zero_le _, rfl, rfl, HJ2.out, KC.refl _ _⟩
          case round =>
            obtain ⟨i, ys, hi, rfl, hys, hJ3, hk3⟩ := hrel
            rename World => wr
            have HYS := Lib.hid hys
            have HJ3 := Lib.hid hJ3
            have K3 := Lib.hid hk3
            clear hys hJ3 hk3 HJ2 c0 c6
            by_cases hlt : i < T.args.length
            · obtain ⟨b, o, hadr, e0, e1, e2, e3, e4, e5, e6⟩ := (HT2.out.kc K3.out).at_ hlt
              have ct : wr.cell? ⟨tb, 0, none⟩ = some (tellV tb) := K3.out.cell htb HC2.out
              have ctl : tb < wr.heap.size := World.block_lt_of_cell? wr _ ct
              have hsn := plL_snoc false T.args i hlt
              have HSN := Lib.hid hsn
              have hln : (pre ++ x :: ys).length + (pl false T.args[i]).length ≤ N := by
                have h1 := HN.out
                have h2 := plL_len false T.args (i + 1)
                have h3 := congrArg List.length hsn
                have h4 := congrArg List.length HYS.out
                rw [List.length_append] at h3
                rw [firsts_len] at h4
                rw [List.length_append, List.length_cons]
                omega
              have IC := Lib.hid (fun ob => IH.out T.args[i] false (pre ++ x :: ys) (wr.alloc ob) (Nat.le_trans (ht_mem (List.getElem_mem hlt)) HF.out) (HKO.out _ (List.getElem_mem hlt)) (((HT2.out.kc K3.out).sub _ (List.getElem_mem hlt)).kc (KC.alloc _ ob)) (by have := HR2.out; have := K3.out.2; simp; omega) ((KC.alloc _ ob).cell htb ct) (hAl _ _ ob HJ3.out) hln)
              rw [hadr]
              unfold RV.val at IC
              unfold tellV at ct
              have i0 : (0 : Int) ≤ (i : Int) := by omega
              have i1 : (i : Int) < (T.args.length : Int) := by omega
              clear hsn hln hadr IH HJ3
              generalize T.args[i] = y at *
              gi_wp2
              refine ⟨trivial, fun h => absurd h (by decide), ?_⟩
              gi_at_call 54
              refine (IC.out _).mono ?_
              rintro e W4 (⟨rfl, ⟨zs, hzs, hJ4⟩, hk4⟩ | ⟨rfl, q, hq, hJx⟩)
              · have HZ := Lib.hid hzs
                have HJ4 := Lib.hid hJ4
                have K4 := Lib.hid ((K3.out.trans (KC.alloc _ _)).trans hk4)
                clear hzs hJ4 hk4 IC e0 e1 e2 e3 e4 e5 e6 ct ctl
                gi_wp2
                go_roundw
                case rel => exact ⟨i + 1, ys ++ zs, by omega, by go_num, by rw [firsts_app, HYS.out, HZ.out, HSN.out], by have := HJ4.out; simpa using this, K4.out⟩
                case measure => simp [intOf]; omega
              · have HQ := Lib.hid hq
                have HJX := Lib.hid hJx
                clear hq hJx IC e0 e1 e2 e3 e4 e5 e6 ct ctl
                gi_wp2
                go_ret
                refine .inr ⟨rfl, x :: ys ++ q, ?_, by have := HJX.out; simpa using this⟩
                obtain ⟨t, ht⟩ := HQ.out
                have h5 := plL_app false (T.args.take (i + 1)) (T.args.drop (i + 1))
                rw [List.take_append_drop, HSN.out, ← HYS.out, ← ht] at h5
                refine ⟨t ++ plL false (T.args.drop (i + 1)), ?_⟩
                rw [PE.out, h5]
                simp [firsts, HX.out]
            · obtain rfl : i = T.args.length := by omega
              clear IH
              gi_wp2
              go_ret
              refine .inl ⟨rfl, ⟨x :: ys, ?_, HJ3.out⟩, K2.out.trans K3.out⟩
              have h6 := HYS.out
              rw [List.take_of_length_le (Nat.le_refl _)] at h6
              rw [PE.out, ← h6]
              simp [firsts, HX.out]
    · rw [show alone true T.kind = true from rfl] at HN PE
      gi_wp2
      gi_loopw [29] (fun iv wr => ∃ (i : Nat) (ys : List PtX), i ≤ T.args.length ∧ iv = .int .i64 (i : Int) ∧ firsts ys = plL true (T.args.take i) ∧ J (pre ++ x :: ys) wr ∧ KC R W2 wr) (fun iv _ => T.args.length - (intOf iv).toNat)
      case atStart => exact ⟨0, [], Nat.zero_le _, rfl, rfl, HJ2.out, KC.refl _ _⟩
      case round =>
        obtain ⟨i, ys, hi, rfl, hys, hJ3, hk3⟩ := hrel
        rename World => wr
        have HYS := Lib.hid hys
        have HJ3 := Lib.hid hJ3
        have K3 := Lib.hid hk3
        clear hys hJ3 hk3 HJ2 c0 c6
        by_cases hlt : i < T.args.length
        · obtain ⟨b, o, hadr, e0, e1, e2, e3, e4, e5, e6⟩ := (HT2.out.kc K3.out).at_ hlt
          have ct : wr.cell? ⟨tb, 0, none⟩ = some (tellV tb) := K3.out.cell htb HC2.out
          have ctl : tb < wr.heap.size := World.block_lt_of_cell? wr _ ct
          have hsn := plL_snoc true T.args i hlt
          have HSN := Lib.hid hsn
          have hln : (pre ++ x :: ys).length + (pl true T.args[i]).length ≤ N := by
            have h1 := HN.out
            have h2 := plL_len true T.args (i + 1)
            have h3 := congrArg List.length hsn
            have h4 := congrArg List.length HYS.out
            rw [List.length_append] at h3
            rw [firsts_len] at h4
            rw [List.length_append, List.length_cons]
            omega
          have IC := Lib.hid (fun ob => IH.out T.args[i] true (pre ++ x :: ys) (wr.alloc ob) (Nat.le_trans (ht_mem (List.getElem_mem hlt)) HF.out) (HKO.out _ (List.getElem_mem hlt)) (((HT2.out.kc K3.out).sub _ (List.getElem_mem hlt)).kc (KC.alloc _ ob)) (by have := HR2.out; have := K3.out.2; simp; omega) ((KC.alloc _ ob).cell htb ct) (hAl _ _ ob HJ3.out) hln)
          rw [hadr]
          unfold RV.val at IC
          unfold tellV at ct
          have i0 : (0 : Int) ≤ (i : Int) := by omega
          have i1 : (i : Int) < (T.args.length : Int) := by omega
          clear hsn hln hadr IH HJ3
          generalize T.args[i] = y at *
          gi_wp2
          refine ⟨trivial, fun h => absurd h (by decide), ?_⟩
          gi_at_call 54
          refine (IC.out _).mono ?_
          rintro e W4 (⟨rfl, ⟨zs, hzs, hJ4⟩, hk4⟩ | ⟨rfl, q, hq, hJx⟩)
          · have HZ := Lib.hid hzs
            have HJ4 := Lib.hid hJ4
            have K4 := Lib.hid ((K3.out.trans (KC.alloc _ _)).trans hk4)
            clear hzs hJ4 hk4 IC e0 e1 e2 e3 e4 e5 e6 ct ctl
            gi_wp2
            go_roundw
            case rel => exact ⟨i + 1, ys ++ zs, by omega, by go_num, by rw [firsts_app, HYS.out, HZ.out, HSN.out], by have := HJ4.out; simpa using this, K4.out⟩
            case measure => simp [intOf]; omega
          · have HQ := Lib.hid hq
            have HJX := Lib.hid hJx
            clear hq hJx IC e0 e1 e2 e3 e4 e5 e6 ct ctl
            gi_wp2
            go_ret
            refine .inr ⟨rfl, x :: ys ++ q, ?_, by have := HJX.out; simpa using this⟩
            obtain ⟨t, ht⟩ := HQ.out
            have h5 := plL_app true (T.args.take (i + 1)) (T.args.drop (i + 1))
            rw [List.take_append_drop, HSN.out, ← HYS.out, ← ht] at h5
            refine ⟨t ++ plL true (T.args.drop (i + 1)), ?_⟩
            rw [PE.out, h5]
            simp [firsts, HX.out]
        · obtain rfl : i = T.args.length := by omega
          clear IH
          gi_wp2
          go_ret
          refine .inl ⟨rfl, ⟨x :: ys, ?_, HJ3.out⟩, K2.out.trans K3.out⟩
          have h6 := HYS.out
          rw [List.take_of_length_le (Nat.le_refl _)] at h6
          rw [PE.out, ← h6]
          simp [firsts, HX.out]
end Go.Proofs.YtcpjignlhlcnpaaDoor
