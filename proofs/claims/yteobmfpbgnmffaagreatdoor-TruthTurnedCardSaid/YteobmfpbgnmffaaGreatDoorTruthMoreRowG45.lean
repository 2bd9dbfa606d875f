/- TrAw, TrPl -/
import Derived.Test.YteobmfpbgnmffaaGreatDoorTruthMoreRowG44
import Derived.Test.YteobmfpbgnmffaaGreatDoorTruthMoreRowG33
set_option linter.unusedSimpArgs false
set_option linter.unusedVariables false
namespace Go.Proofs.YteobmfpbgnmffaaGreatDoor
section
/- Walk: the examples of truth's statements (chandlerylaw14.awake). -/


open Go.RowKit Go.Shelf
set_option linter.unusedVariables false

set_option maxRecDepth 100000 in
set_option maxHeartbeats 16000000 in
theorem tawake_any (w : World) (hI : WhIn w) : Calls Tryz.prog 37 #[] w fun e w' => e = .returned (.bool true) ∧ Below w.heap.size w w' := by
  have TW := Lib.hid (two_any w hI.1)
  have HI := Lib.hid hI
  clear hI
  go_enter Tryz.func37, Tryz.ntmps37
  go_wp2_with fail
  go_at_call 59
  refine TW.out.mono ?_
  rintro en w1 ⟨T, X, L2, rfl, ht, hp, hb1⟩
  have HP := Lib.hid (show pvL L2 = PV from funext fun n => funext fun d => hp n d)
  have HT := Lib.hid ht
  have B1 := Lib.hid hb1
  clear ht hp hb1 TW
  go_wp2_with fail
  go_at_call 58
  refine (atom14_any _ _).mono ?_
  rintro en w2 ⟨rfl, hb⟩
  have B2 := Lib.hid hb
  clear hb
  go_wp2_with fail
  go_at_call 58
  refine (atom14_any _ _).mono ?_
  rintro en w3 ⟨rfl, hb⟩
  have B3 := Lib.hid (B2.out.trans (hb.mono B2.out.size))
  clear hb B2
  go_wp2_with fail
  obtain ⟨v1, e1⟩ : ∃ W, W = w3.alloc (.cells #[.int .u8 1, .string ⟨#[120]⟩, .int .u8 0, .int .i64 0, .string ⟨#[]⟩, .string ⟨#[]⟩, .slice none 0 0] 39) := ⟨_, rfl⟩
  rw [← e1]
  have b1 : Below w3.heap.size w3 v1 := by rw [e1]; exact (Below.refl _ _).alloc (Nat.le_refl _) _
  have s1 : v1.heap.size = w3.heap.size + 1 := by rw [e1, World.size_alloc]
  obtain ⟨v2, e2⟩ : ∃ W, W = v1.alloc (.cells #[.int .u8 1, .string ⟨#[121]⟩, .int .u8 0, .int .i64 0, .string ⟨#[]⟩, .string ⟨#[]⟩, .slice none 0 0] 39) := ⟨_, rfl⟩
  rw [← e2]
  have b2 : Below v1.heap.size v1 v2 := by rw [e2]; exact (Below.refl _ _).alloc (Nat.le_refl _) _
  have s2 : v2.heap.size = w3.heap.size + 1 + 1 := by rw [e2, World.size_alloc, s1]
  obtain ⟨v3, e3⟩ : ∃ W, W = v2.alloc (.cells #[.int .i64 0, .int .i64 1] 3) := ⟨_, rfl⟩
  rw [← e3]
  have b3 : Below v2.heap.size v2 v3 := by rw [e3]; exact (Below.refl _ _).alloc (Nat.le_refl _) _
  have s3 : v3.heap.size = w3.heap.size + 1 + 1 + 1 := by rw [e3, World.size_alloc, s2]
  obtain ⟨v4, e4⟩ : ∃ W, W = v3.alloc (.cells #[.int .i64 0] 3) := ⟨_, rfl⟩
  rw [← e4]
  have b4 : Below v3.heap.size v3 v4 := by rw [e4]; exact (Below.refl _ _).alloc (Nat.le_refl _) _
  have s4 : v4.heap.size = w3.heap.size + 1 + 1 + 1 + 1 := by rw [e4, World.size_alloc, s3]
  have ax4 : AtX (w3.heap.size) ⟨#[120]⟩ v1 := by rw [e1]; exact AtX.new _ _
  have ay4 : AtX (w3.heap.size + 1) ⟨#[121]⟩ v2 := by have q := AtX.new ⟨#[121]⟩ v1; rw [s1] at q; rw [e2]; exact q
  have bo4 : Rd encI 1 v3.heap.size (some ⟨w3.heap.size + 1 + 1, 0, none⟩) 2 [0, 1] v3 := by have q := rd_litT (enc := encI) (size := 1) (fun _ => rfl) [0, 1] v2 3 (by simp); rw [s2] at q; rw [e3]; exact q
  have on4 : Rd encI 1 v4.heap.size (some ⟨w3.heap.size + 1 + 1 + 1, 0, none⟩) 1 [0] v4 := by have q := rd_litT (enc := encI) (size := 1) (fun _ => rfl) [0] v3 3 (by simp); rw [s3] at q; rw [e4]; exact q
  have b14 := B3.out.trans ((b1.trans ((b2.trans ((b3.trans (b4.mono b3.size)).mono b2.size)).mono b1.size)).mono B3.out.size)
  have w14 := B1.out.trans (b14.mono B1.out.size)
  have A0 : Hid (Aw T X (w3.heap.size) (w3.heap.size + 1) (w3.heap.size + 1 + 1) (w3.heap.size + 1 + 1 + 1) L2 w v4) := Lib.hid ⟨HT.out.then b14, HI.out.below w14, ((ax4.then b2).then b3).then b4, (ay4.then b3).then b4, (bo4.below b4).more b4.size, on4, w14⟩
  clear ax4 ay4 bo4 on4 b14 w14 b1 b2 b3 b4 e1 e2 e3 e4 s1 s2 s3 HT HI B1 B3
  rw [← s4]
  clear s4
  generalize w3.heap.size = g at *
  go_at_call 44
  refine (of14_any _ _ _ _ _).mono ?_
  rintro en wa0 ⟨rfl, hb⟩
  have E0 := Lib.hid ((A0.out.then ((Below.refl _ _).alloc (Nat.le_refl _) _)).then hb)
  have Q0 := Lib.hid (aw_sat (l := [ax, ay]) E0.out HP.out (cs := #[.int .u8 1, .string ⟨#[120]⟩, .int .u8 0, .int .i64 0, .string ⟨#[]⟩, .string ⟨#[]⟩, .slice none 0 0, .int .u8 1, .string ⟨#[121]⟩, .int .u8 0, .int .i64 0, .string ⟨#[]⟩, .string ⟨#[]⟩, .slice none 0 0]) rfl (by decide) (by simp) hb E0.out.bo aw1v)
  clear hb A0
  go_wp2_with fail
  go_at_call 40
  refine Q0.out.mono ?_
  rintro en wb0 ⟨rfl, h⟩
  have A1 := Lib.hid (E0.out.then h)
  clear h Q0 E0
  obtain ⟨_, x0, x1, x2, x3, x4, x5, x6⟩ := A1.out.x
  obtain ⟨_, y0, y1, y2, y3, y4, y5, y6⟩ := A1.out.y
  go_wp2_with fail
  clear x0 x1 x2 x3 x4 x5 x6 y0 y1 y2 y3 y4 y5 y6
  go_at_call 44
  refine (of14_any _ _ _ _ _).mono ?_
  rintro en wa1 ⟨rfl, hb⟩
  have E1 := Lib.hid ((A1.out.then ((Below.refl _ _).alloc (Nat.le_refl _) _)).then hb)
  have Q1 := Lib.hid (aw_sat (l := [ax, ay]) E1.out HP.out (cs := #[.int .u8 1, .string ⟨#[120]⟩, .int .u8 0, .int .i64 0, .string ⟨#[]⟩, .string ⟨#[]⟩, .slice none 0 0, .int .u8 1, .string ⟨#[121]⟩, .int .u8 0, .int .i64 0, .string ⟨#[]⟩, .string ⟨#[]⟩, .slice none 0 0]) rfl (by decide) (by simp) hb E1.out.bo aw2v)
  clear hb A1
  go_wp2_with fail
  go_at_call 40
  refine Q1.out.mono ?_
  rintro en wb1 ⟨rfl, h⟩
  have A2 := Lib.hid (E1.out.then h)
  clear h Q1 E1
  obtain ⟨_, x0, x1, x2, x3, x4, x5, x6⟩ := A2.out.x
  obtain ⟨_, y0, y1, y2, y3, y4, y5, y6⟩ := A2.out.y
  go_wp2_with fail
  clear x0 x1 x2 x3 x4 x5 x6 y0 y1 y2 y3 y4 y5 y6
  go_at_call 44
  refine (of14_any _ _ _ _ _).mono ?_
  rintro en wa2 ⟨rfl, hb⟩
  have E2 := Lib.hid ((A2.out.then ((Below.refl _ _).alloc (Nat.le_refl _) _)).then hb)
  have Q2 := Lib.hid (aw_alone (l := [ax, ay]) E2.out HP.out (cs := #[.int .u8 1, .string ⟨#[120]⟩, .int .u8 0, .int .i64 0, .string ⟨#[]⟩, .string ⟨#[]⟩, .slice none 0 0, .int .u8 1, .string ⟨#[121]⟩, .int .u8 0, .int .i64 0, .string ⟨#[]⟩, .string ⟨#[]⟩, .slice none 0 0]) rfl (by decide) (by simp) hb aw3v)
  clear hb A2
  go_wp2_with fail
  go_at_call 43
  refine Q2.out.mono ?_
  rintro en wb2 ⟨rfl, h⟩
  have A3 := Lib.hid (E2.out.then h)
  clear h Q2 E2
  obtain ⟨_, x0, x1, x2, x3, x4, x5, x6⟩ := A3.out.x
  obtain ⟨_, y0, y1, y2, y3, y4, y5, y6⟩ := A3.out.y
  go_wp2_with fail
  clear x0 x1 x2 x3 x4 x5 x6 y0 y1 y2 y3 y4 y5 y6
  go_at_call 44
  refine (of14_any _ _ _ _ _).mono ?_
  rintro en wa3 ⟨rfl, hb⟩
  have E3 := Lib.hid ((A3.out.then ((Below.refl _ _).alloc (Nat.le_refl _) _)).then hb)
  have Q3 := Lib.hid (aw_sat (l := [ax, ay]) E3.out HP.out (cs := #[.int .u8 1, .string ⟨#[120]⟩, .int .u8 0, .int .i64 0, .string ⟨#[]⟩, .string ⟨#[]⟩, .slice none 0 0, .int .u8 1, .string ⟨#[121]⟩, .int .u8 0, .int .i64 0, .string ⟨#[]⟩, .string ⟨#[]⟩, .slice none 0 0]) rfl (by decide) (by simp) hb E3.out.on aw4v)
  clear hb A3
  go_wp2_with fail
  go_at_call 40
  refine Q3.out.mono ?_
  rintro en wb3 ⟨rfl, h⟩
  have A4 := Lib.hid (E3.out.then h)
  clear h Q3 E3
  obtain ⟨_, x0, x1, x2, x3, x4, x5, x6⟩ := A4.out.x
  obtain ⟨_, y0, y1, y2, y3, y4, y5, y6⟩ := A4.out.y
  go_wp2_with fail
  clear x0 x1 x2 x3 x4 x5 x6 y0 y1 y2 y3 y4 y5 y6
  go_at_call 44
  refine (of14_any _ _ _ _ _).mono ?_
  rintro en wa4 ⟨rfl, hb⟩
  have E4 := Lib.hid ((A4.out.then ((Below.refl _ _).alloc (Nat.le_refl _) _)).then hb)
  have Q4 := Lib.hid (aw_sat (l := [ay, ax]) E4.out HP.out (cs := #[.int .u8 1, .string ⟨#[121]⟩, .int .u8 0, .int .i64 0, .string ⟨#[]⟩, .string ⟨#[]⟩, .slice none 0 0, .int .u8 1, .string ⟨#[120]⟩, .int .u8 0, .int .i64 0, .string ⟨#[]⟩, .string ⟨#[]⟩, .slice none 0 0]) rfl (by decide) (by simp) hb E4.out.on aw5v)
  clear hb A4
  go_wp2_with fail
  go_at_call 40
  refine Q4.out.mono ?_
  rintro en wb4 ⟨rfl, h⟩
  have A5 := Lib.hid (E4.out.then h)
  clear h Q4 E4
  obtain ⟨_, x0, x1, x2, x3, x4, x5, x6⟩ := A5.out.x
  obtain ⟨_, y0, y1, y2, y3, y4, y5, y6⟩ := A5.out.y
  go_wp2_with fail
  clear x0 x1 x2 x3 x4 x5 x6 y0 y1 y2 y3 y4 y5 y6
  go_at_call 44
  refine (of14_any _ _ _ _ _).mono ?_
  rintro en wa5 ⟨rfl, hb⟩
  have E5 := Lib.hid ((A5.out.then ((Below.refl _ _).alloc (Nat.le_refl _) _)).then hb)
  have Q5 := Lib.hid (aw_sat (l := [ax, ay]) E5.out HP.out (cs := #[.int .u8 1, .string ⟨#[120]⟩, .int .u8 0, .int .i64 0, .string ⟨#[]⟩, .string ⟨#[]⟩, .slice none 0 0, .int .u8 1, .string ⟨#[121]⟩, .int .u8 0, .int .i64 0, .string ⟨#[]⟩, .string ⟨#[]⟩, .slice none 0 0]) rfl (by decide) (by simp) hb E5.out.on aw6v)
  clear hb A5
  go_wp2_with fail
  go_at_call 40
  refine Q5.out.mono ?_
  rintro en wb5 ⟨rfl, h⟩
  have A6 := Lib.hid (E5.out.then h)
  clear h Q5 E5
  obtain ⟨_, x0, x1, x2, x3, x4, x5, x6⟩ := A6.out.x
  obtain ⟨_, y0, y1, y2, y3, y4, y5, y6⟩ := A6.out.y
  go_wp2_with fail
  clear x0 x1 x2 x3 x4 x5 x6 y0 y1 y2 y3 y4 y5 y6
  go_at_call 44
  refine (of14_any _ _ _ _ _).mono ?_
  rintro en wa6 ⟨rfl, hb⟩
  have E6 := Lib.hid ((A6.out.then ((Below.refl _ _).alloc (Nat.le_refl _) _)).then hb)
  have Q6 := Lib.hid (aw_sat (l := [ay, ay, ax]) E6.out HP.out (cs := #[.int .u8 1, .string ⟨#[121]⟩, .int .u8 0, .int .i64 0, .string ⟨#[]⟩, .string ⟨#[]⟩, .slice none 0 0, .int .u8 1, .string ⟨#[121]⟩, .int .u8 0, .int .i64 0, .string ⟨#[]⟩, .string ⟨#[]⟩, .slice none 0 0, .int .u8 1, .string ⟨#[120]⟩, .int .u8 0, .int .i64 0, .string ⟨#[]⟩, .string ⟨#[]⟩, .slice none 0 0]) rfl (by decide) (by simp) hb E6.out.on aw7v)
  clear hb A6
  go_wp2_with fail
  go_at_call 40
  refine Q6.out.mono ?_
  rintro en wb6 ⟨rfl, h⟩
  have A7 := Lib.hid (E6.out.then h)
  clear h Q6 E6
  obtain ⟨_, x0, x1, x2, x3, x4, x5, x6⟩ := A7.out.x
  obtain ⟨_, y0, y1, y2, y3, y4, y5, y6⟩ := A7.out.y
  go_wp2_with fail
  clear x0 x1 x2 x3 x4 x5 x6 y0 y1 y2 y3 y4 y5 y6
  go_at_call 41
  refine (aw_who A7.out HP.out aw8v).mono ?_
  rintro en w8 ⟨v, rfl, how, h⟩
  have A8 := Lib.hid (A7.out.then h)
  obtain ⟨AA, cc, rfl, rdw⟩ := how.rd encI_len
  have NU := Lib.hid (numbers12_any AA (some ⟨g + 1 + 1 + 1, 0, none⟩) cc 1 [0] [0] w8 (by decide) (by decide) rdw A8.out.on)
  clear h how A7
  go_wp2_with fail
  go_at_call 30
  refine NU.out.mono ?_
  rintro en w9 ⟨rfl, h⟩
  have B9 := Lib.hid (A8.out.old.trans (h.mono A8.out.old.size))
  clear h A8 NU
  go_wp2_with fail
  go_ret
  exact ⟨rfl, B9.out⟩
end
section
/- Walks: neither If nor Unless; what a statement of truth makes (chandlerylaw14: plain, made). -/



open Go.RowKit Go.Shelf
set_option linter.unusedVariables false

theorem plainL_all (l : List RV) : Tr.plainL (treeL l) = l.all fun t => Tr.plain t.tree := by
  induction l with
  | nil => rfl
  | cons a l ih =>
    show (Tr.plain a.tree && Tr.plainL (treeL l)) = _
    rw [ih]; rfl
set_option maxRecDepth 100000 in
set_option maxHeartbeats 16000000 in
theorem tplain_any : ∀ (f : Nat) (t : RV) (w : World), t.ht ≤ f → RTree w.heap.size w t → Calls Tryz.prog 39 #[t.val] w fun e w' => e = .returned (.bool (Tr.plain t.tree)) ∧ Below w.heap.size w w'
  | 0, t, w, hf, _ => absurd hf (by rw [ht_args]; omega)
  | f + 1, t, w, hf, ha => by
    have IH := Lib.hid (fun x W h1 h2 => tplain_any f x W h1 h2)
    have HA := Lib.hid ha.rrow
    have HT := Lib.hid (fun a (h : a ∈ t.args) => ha.sub a h)
    have HF := Lib.hid (show htL t.args ≤ f by rw [ht_args] at hf; omega)
    have hm := ha.row.len
    have HP := Lib.hid (show Tr.plain t.tree = (!(t.kind == 4 || t.kind == 5) && (t.args.all fun x => Tr.plain x.tree)) by rw [tree_parts t, ← plainL_all]; rfl)
    have B1 := Lib.hid ((Below.refl w.heap.size w).alloc (Nat.le_refl _) (.cells #[.int .u8 t.kind, .string (bs t.dep.name), .int .u8 t.dep.op, .int .i64 t.dep.evr.epoch, .string (bs t.dep.evr.ver), .string (bs t.dep.evr.rel), .slice t.addr t.args.length t.cap] 39))
    have RB := Lib.hid (RBx.new t w)
    obtain ⟨res, hres⟩ : ∃ res, res = Tr.plain t.tree := ⟨_, rfl⟩
    rw [← hres] at HP ⊢
    clear hres ha hf
    unfold RV.val
    by_cases h4 : t.kind = 4
    · have HE := Lib.hid (show res = false by rw [HP.out, h4]; rfl)
      rw [h4] at B1 ⊢
      go_enter Tryz.func39, Tryz.ntmps39
      go_wp2_with fail
      go_ret
      exact ⟨by rw [HE.out]; rfl, B1.out⟩
    by_cases h5 : t.kind = 5
    · have HE := Lib.hid (show res = false by rw [HP.out, h5]; rfl)
      rw [h5] at B1 ⊢
      go_enter Tryz.func39, Tryz.ntmps39
      go_wp2_with fail
      go_ret
      exact ⟨by rw [HE.out]; rfl, B1.out⟩
    have HQ := Lib.hid (show res = t.args.all fun x => Tr.plain x.tree by rw [HP.out, beq_eq_false_iff_ne.2 h4, beq_eq_false_iff_ne.2 h5]; rfl)
    clear HP
    have k4 : (t.kind == 4) = false := beq_eq_false_iff_ne.2 h4
    have k5 : (t.kind == 5) = false := beq_eq_false_iff_ne.2 h5
    go_enter Tryz.func39, Tryz.ntmps39
    go_wp2_with fail
    obtain ⟨V, hV⟩ : ∃ V, V = w.alloc (.cells #[.int .u8 t.kind, .string (bs t.dep.name), .int .u8 t.dep.op, .int .i64 t.dep.evr.epoch, .string (bs t.dep.evr.ver), .string (bs t.dep.evr.rel), .slice t.addr t.args.length t.cap] 39) := ⟨_, rfl⟩
    rw [← hV] at B1 RB ⊢
    clear hV
    go_loopw [3] (fun iv wr => ∃ k : Nat, k ≤ t.args.length ∧ iv = .int .i64 (k : Int) ∧ Hid (∀ j (hj : j < t.args.length), j < k → Tr.plain t.args[j].tree = true) ∧ Below w.heap.size w wr ∧ RBx w.heap.size t wr) (fun iv _ => t.args.length - (intOf iv).toNat)
    case atStart => exact ⟨0, Nat.zero_le _, rfl, Lib.hid (by intro j hj h; omega), B1.out, RB.out⟩
    case round =>
      obtain ⟨k, hk, rfl, HS, hB, hR⟩ := hrel
      rename World => wr
      have HB := Lib.hid hB
      have RW := Lib.hid hR
      by_cases hlt : k < t.args.length
      · obtain ⟨b, o, hA, hb, e0, e1, e2, e3, e4, e5, e6⟩ := (HA.out.below hB).at_ hlt
        have CA := Lib.hid (IH.out t.args[k] wr (Nat.le_trans (ht_mem (List.getElem_mem hlt)) HF.out) (((HT.out _ (List.getElem_mem hlt)).keeps hB).more hB.size))
        have HX := Lib.hid (fun (h : Tr.plain t.args[k].tree = true) => show ∀ j (hj : j < t.args.length), j < k + 1 → Tr.plain t.args[j].tree = true from fun j hj hjk => by
          by_cases e : j = k
          · subst e; exact h
          · exact HS.out j hj (by omega))
        have HN := Lib.hid (fun (h : Tr.plain t.args[k].tree ≠ true) => show res = false from by
          rw [HQ.out, Bool.eq_false_iff]
          intro hc
          have := List.all_eq_true.1 hc _ (List.getElem_mem hlt)
          exact h this)
        obtain ⟨_, c0, c1, c2, c3, c4, c5, c6⟩ := hR
        rw [hA] at c6
        have i0 : (0 : Int) ≤ (k : Int) := by omega
        have i1 : (k : Int) < (t.args.length : Int) := by omega
        unfold RV.val at CA
        generalize Tr.plain t.args[k].tree = px at *
        generalize t.args[k] = x at *
        clear hB hA hlt
        go_wp2_with fail
        go_at_call 39
        refine CA.out.mono ?_
        rintro en w9 ⟨rfl, h⟩
        have HB9 := Lib.hid (HB.out.trans (h.mono HB.out.size))
        have RW9 := Lib.hid (RW.out.then h)
        clear h CA c0 c1 c2 c3 c4 c5 c6 e0 e1 e2 e3 e4 e5 e6 hb
        cases px
        · go_wp2_with fail
          go_ret
          exact ⟨by rw [HN.out (by simp)]; rfl, HB9.out⟩
        · go_wp2_with fail
          go_roundw
          case rel => exact ⟨k + 1, by omega, by go_num, Lib.hid (HX.out (by simp)), HB9.out, RW9.out⟩
          case measure => simp [intOf]; omega
      · obtain rfl : k = t.args.length := by omega
        have HE := Lib.hid (show res = true by
          rw [HQ.out, List.all_eq_true]
          intro x hx
          obtain ⟨j, hj, rfl⟩ := List.getElem_of_mem hx
          exact HS.out j hj hj)
        obtain ⟨_, c0, c1, c2, c3, c4, c5, c6⟩ := hR
        have i1 : ¬ (t.args.length : Int) < (t.args.length : Int) := by omega
        go_wp2_with fail
        go_ret
        exact ⟨by rw [HE.out]; rfl, HB.out⟩
def Made14Post (repos : List Rp) (ins : List Pk) (w : World) (e : Ending) (w' : World) : Prop :=
  ((∃ (T X P : Nat) (L : List Pr) (L2 : List Pk), e = .returned (.tuple #[.pointer (some ⟨T, 0, none⟩), .pointer (some ⟨P, 0, none⟩), .bool true]) ∧ TruthAt T X L.length L2 w' ∧ Pool P (ins.length : Int) L w' ∧ AlikeL (L.map Pr.pk) L2 ∧ L.length ≤ 100) ∨ e = .returned (.tuple #[.pointer none, .pointer none, .bool false])) ∧ Below w.heap.size w w'
set_option maxRecDepth 100000 in
set_option maxHeartbeats 16000000 in
theorem made14_any {RA : Option Addr} {rc : Nat} {repos : List Rp} {IA : Option Addr} {ic : Nat} {ins : List Pk} {w0 w : World} {k : Int} (hI : PkIn w) (hr : RpRow w.heap.size w RA rc repos) (hi : PRow w.heap.size w IA ic ins) (hN : Narrow repos ins k) (hrq : ∀ r ∈ repos, ∀ p ∈ r.pk, PkQ w0 p) (hiq : ∀ p ∈ ins, PkQ w0 p) :
    Calls Tryz.prog 38 #[.slice RA repos.length rc, .slice IA ins.length ic] w (Made14Post repos ins w) := by
  have MA := Lib.hid (made_any hI hr hi hN hrq hiq)
  clear hI hr hi hN hrq hiq
  unfold Made14Post
  generalize repos.length = rn at *
  go_enter Tryz.func38, Tryz.ntmps38
  go_wp2_with fail
  go_at_call 23
  refine MA.out.mono ?_
  rintro en w1 ⟨hcase, h⟩
  have B1 := Lib.hid h
  clear MA h
  rcases hcase with ⟨P, L, rfl, hP, _, hL⟩ | ⟨er, her, rfl⟩
  · have PO := Lib.hid hP
    have TN := Lib.hid (truthnew_any hP (by omega))
    have HL := Lib.hid hL
    clear hP hL
    go_wp2_with fail
    go_at_call 50
    refine TN.out.mono ?_
    rintro en w2 ⟨T, X, L2, rfl, ht, hal, h⟩
    have B2 := Lib.hid (B1.out.trans (h.mono B1.out.size))
    have TT := Lib.hid ht
    have AL := Lib.hid hal
    have PO2 := Lib.hid (PO.out.then h)
    clear ht hal h TN PO
    go_wp2_with fail
    go_ret3
    exact ⟨.inl ⟨T, X, P, L, L2, rfl, TT.out, PO2.out, AL.out, HL.out⟩, B2.out⟩
  · have her2 : ¬ er = 0 := fun e => by subst e; cases her
    go_wp2_with fail
    go_ret3
    exact ⟨.inr rfl, B1.out⟩
end
end Go.Proofs.YteobmfpbgnmffaaGreatDoor
