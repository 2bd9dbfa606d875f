/- TrTwo, TrIs -/
import Derived.Test.YteobmfpbgnmffaaGreatDoorTruthMoreRowG33
import Derived.Test.YteobmfpbgnmffaaGreatDoorTruthMoreRowG30
import Derived.Test.YteobmfpbgnmffaaGreatDoorTruthMoreRowG17
set_option linter.unusedSimpArgs false
set_option linter.unusedVariables false
namespace Go.Proofs.YteobmfpbgnmffaaGreatDoor
section
/- Walk: the truth of two packages (chandlerylaw14.two). -/



open Go.RowKit Go.Shelf
set_option linter.unusedVariables false

theorem alikeL_trans {a b c : List Pk} (h : AlikeL a b) (k : AlikeL b c) : AlikeL a c :=
  ⟨k.1.trans h.1, fun i h1 h2 => by
    have hb : i < b.length := by rw [h.1]; exact h1
    have p := h.2 i h1 hb
    have q := k.2 i hb h2
    exact ⟨q.name.trans p.name, q.epoch.trans p.epoch, q.ver.trans p.ver, q.rel.trans p.rel, q.arch.trans p.arch, q.vendor.trans p.vendor, q.prov.trans p.prov, q.obs.trans p.obs, q.files.trans p.files, q.req.trans p.req, q.con.trans p.con, q.rcm.trans p.rcm, q.sup.trans p.sup, q.sug.trans p.sug, q.enh.trans p.enh⟩⟩
set_option maxRecDepth 100000 in
set_option maxHeartbeats 16000000 in
theorem two_any (w : World) (hI : PkIn w) : Calls Tryz.prog 59 #[] w fun e w' => ∃ (T X : Nat) (L2 : List Pk), e = .returned (.tuple #[.pointer (some ⟨T, 0, none⟩), .bool true]) ∧ TruthAt T X 2 L2 w' ∧ (∀ n d, pvL L2 n d = pvL (twoP none none) n d) ∧ Below w.heap.size w w' := by
  have HI := Lib.hid hI
  clear hI
  go_enter Tryz.func59, Tryz.ntmps59
  go_wp2_with fail
  obtain ⟨W0, e0⟩ : ∃ W, W = w.alloc (.cells #[.string ⟨#[120]⟩, .int .u8 0, .int .i64 0, .string ⟨#[]⟩, .string ⟨#[]⟩] 37) := ⟨_, rfl⟩
  rw [← e0]
  have b0 : Below w.heap.size w W0 := by rw [e0]; exact (Below.refl _ _).alloc (Nat.le_refl _) _
  have s0 : W0.heap.size = w.heap.size + 1 := by rw [e0, World.size_alloc]
  obtain ⟨W1, e1⟩ : ∃ W, W = W0.alloc (.cells #[.string ⟨#[97]⟩, .int .i64 0, .string ⟨#[49]⟩, .string ⟨#[49]⟩, .int .u8 1, .string ⟨#[]⟩, .slice (some ⟨w.heap.size, 0, none⟩) 1 1, .slice none 0 0, .slice none 0 0, .slice none 0 0, .slice none 0 0, .slice none 0 0, .slice none 0 0, .slice none 0 0, .slice none 0 0] 28) := ⟨_, rfl⟩
  rw [← e1]
  have b1 : Below W0.heap.size W0 W1 := by rw [e1]; exact (Below.refl _ _).alloc (Nat.le_refl _) _
  have s1 : W1.heap.size = w.heap.size + 1 + 1 := by rw [e1, World.size_alloc, s0]
  obtain ⟨W2, e2⟩ : ∃ W, W = W1.alloc (.cells #[.string ⟨#[121]⟩, .int .u8 0, .int .i64 0, .string ⟨#[]⟩, .string ⟨#[]⟩, .string ⟨#[122]⟩, .int .u8 0, .int .i64 0, .string ⟨#[]⟩, .string ⟨#[]⟩] 37) := ⟨_, rfl⟩
  rw [← e2]
  have b2 : Below W1.heap.size W1 W2 := by rw [e2]; exact (Below.refl _ _).alloc (Nat.le_refl _) _
  have s2 : W2.heap.size = w.heap.size + 1 + 1 + 1 := by rw [e2, World.size_alloc, s1]
  obtain ⟨W3, e3⟩ : ∃ W, W = W2.alloc (.cells #[.string ⟨#[98]⟩, .int .i64 0, .string ⟨#[49]⟩, .string ⟨#[49]⟩, .int .u8 1, .string ⟨#[]⟩, .slice (some ⟨w.heap.size + 1 + 1, 0, none⟩) 2 2, .slice none 0 0, .slice none 0 0, .slice none 0 0, .slice none 0 0, .slice none 0 0, .slice none 0 0, .slice none 0 0, .slice none 0 0] 28) := ⟨_, rfl⟩
  rw [← e3]
  have b3 : Below W2.heap.size W2 W3 := by rw [e3]; exact (Below.refl _ _).alloc (Nat.le_refl _) _
  have s3 : W3.heap.size = w.heap.size + 1 + 1 + 1 + 1 := by rw [e3, World.size_alloc, s2]
  obtain ⟨W4, e4⟩ : ∃ W, W = W3.alloc (.cells #[.string ⟨#[98]⟩, .int .i64 0, .string ⟨#[49]⟩, .string ⟨#[49]⟩, .int .u8 1, .string ⟨#[]⟩, .slice (some ⟨w.heap.size + 1 + 1, 0, none⟩) 2 2, .slice none 0 0, .slice none 0 0, .slice none 0 0, .slice none 0 0, .slice none 0 0, .slice none 0 0, .slice none 0 0, .slice none 0 0] 28) := ⟨_, rfl⟩
  rw [← e4]
  have b4 : Below W3.heap.size W3 W4 := by rw [e4]; exact (Below.refl _ _).alloc (Nat.le_refl _) _
  have s4 : W4.heap.size = w.heap.size + 1 + 1 + 1 + 1 + 1 := by rw [e4, World.size_alloc, s3]
  obtain ⟨W5, e5⟩ : ∃ W, W = W4.alloc (.cells #[.int .i64 0, .slice (some ⟨w.heap.size + 1 + 1 + 1 + 1, 0, none⟩) 1 1] 66) := ⟨_, rfl⟩
  rw [← e5]
  have b5 : Below W4.heap.size W4 W5 := by rw [e5]; exact (Below.refl _ _).alloc (Nat.le_refl _) _
  have s5 : W5.heap.size = w.heap.size + 1 + 1 + 1 + 1 + 1 + 1 := by rw [e5, World.size_alloc, s4]
  obtain ⟨W6, e6⟩ : ∃ W, W = W5.alloc (.cells #[.string ⟨#[97]⟩, .int .i64 0, .string ⟨#[49]⟩, .string ⟨#[49]⟩, .int .u8 1, .string ⟨#[]⟩, .slice (some ⟨w.heap.size, 0, none⟩) 1 1, .slice none 0 0, .slice none 0 0, .slice none 0 0, .slice none 0 0, .slice none 0 0, .slice none 0 0, .slice none 0 0, .slice none 0 0] 28) := ⟨_, rfl⟩
  rw [← e6]
  have b6 : Below W5.heap.size W5 W6 := by rw [e6]; exact (Below.refl _ _).alloc (Nat.le_refl _) _
  have s6 : W6.heap.size = w.heap.size + 1 + 1 + 1 + 1 + 1 + 1 + 1 := by rw [e6, World.size_alloc, s5]
  have rA : Rd encD 5 W0.heap.size (some ⟨w.heap.size, 0, none⟩) 1 [dpT 120] W0 := by rw [e0]; exact rd_litT (enc := encD) (size := 5) (fun _ => rfl) [dpT 120] w 37 (by simp)
  have rB : Rd encD 5 W2.heap.size (some ⟨w.heap.size + 1 + 1, 0, none⟩) 2 [dpT 121, dpT 122] W2 := by have q := rd_litT (enc := encD) (size := 5) (fun _ => rfl) [dpT 121, dpT 122] W1 37 (by simp); rw [s1] at q; rw [e2]; exact q
  have wA : ∀ d ∈ [dpT 120], d.wf := fun d hd => by obtain rfl := List.mem_singleton.1 hd; exact dpT_wf _
  have wB : ∀ d ∈ [dpT 121, dpT 122], d.wf := fun d hd => by simp only [List.mem_cons, List.not_mem_nil, or_false] at hd; rcases hd with rfl | rfl <;> exact dpT_wf _
  have lA := pkT_laid (n := ⟨#[97]⟩) (by show (⟨#[97]⟩ : ByteArray).size ≤ maxLen; decide) rA wA
  have lB := pkT_laid (n := ⟨#[98]⟩) (by show (⟨#[98]⟩ : ByteArray).size ≤ maxLen; decide) rB wB
  have pR : PRow W4.heap.size W4 (some ⟨w.heap.size + 1 + 1 + 1 + 1, 0, none⟩) 1 [pkT ⟨#[98]⟩ (some ⟨w.heap.size + 1 + 1, 0, none⟩) [dpT 121, dpT 122]] := by have q := prow_litT [pkT ⟨#[98]⟩ (some ⟨w.heap.size + 1 + 1, 0, none⟩) [dpT 121, dpT 122]] W3 28 (by simp) (fun p hp => by obtain rfl := List.mem_singleton.1 hp; exact lB.calls b3); rw [s3] at q; rw [e4]; exact q
  have rR : RpRow W5.heap.size W5 (some ⟨w.heap.size + 1 + 1 + 1 + 1 + 1, 0, none⟩) 1 [repT (some ⟨w.heap.size + 1 + 1 + 1 + 1, 0, none⟩) (some ⟨w.heap.size + 1 + 1, 0, none⟩)] := by have q := rprow_litT (repT (some ⟨w.heap.size + 1 + 1 + 1 + 1, 0, none⟩) (some ⟨w.heap.size + 1 + 1, 0, none⟩)) W4 66 pR rfl (by simp [repT]); rw [s4] at q; rw [e5]; exact q
  have pI : PRow W6.heap.size W6 (some ⟨w.heap.size + 1 + 1 + 1 + 1 + 1 + 1, 0, none⟩) 1 [pkT ⟨#[97]⟩ (some ⟨w.heap.size, 0, none⟩) [dpT 120]] := by have q := prow_litT [pkT ⟨#[97]⟩ (some ⟨w.heap.size, 0, none⟩) [dpT 120]] W5 28 (by simp) (fun p hp => by obtain rfl := List.mem_singleton.1 hp; exact ((((lA.calls b1).calls b2).calls b3).calls b4).calls b5); rw [s5] at q; rw [e6]; exact q
  have b06 : Below w.heap.size w W6 := b0.trans ((b1.trans ((b2.trans ((b3.trans ((b4.trans ((b5.trans (b6.mono b5.size)).mono b4.size)).mono b3.size)).mono b2.size)).mono b1.size)).mono b0.size)
  have NW := Lib.hid (poolnew_any (some ⟨w.heap.size + 1 + 1 + 1 + 1 + 1, 0, none⟩) 1 [repT (some ⟨w.heap.size + 1 + 1 + 1 + 1, 0, none⟩) (some ⟨w.heap.size + 1 + 1, 0, none⟩)] (some ⟨w.heap.size + 1 + 1 + 1 + 1 + 1 + 1, 0, none⟩) 1 [pkT ⟨#[97]⟩ (some ⟨w.heap.size, 0, none⟩) [dpT 120]] W6 (HI.out.below b06) (rR.calls b6) pI (two_deep _ _ _) (by simp [pksOf, repT]) (by simp))
  have B6 := Lib.hid b06
  clear e0 b0 s0 e1 b1 s1 e2 b2 s2 e3 b3 s3 e4 b4 s4 e5 b5 s5 e6 b6 s6 rA rB wA wB lA lB pR rR pI b06
  go_at_call 23
  refine NW.out.mono ?_
  rintro en w9 ⟨h1, _, hb⟩
  obtain ⟨P, L, rfl, hat, hal⟩ := h1 (two_err _ _ _)
  have PO := Lib.hid (Pool.of hat hal (two_err _ _ _) (fun x hx => (two_deep _ _ _ x hx).2))
  have B9 := Lib.hid (B6.out.trans (hb.mono B6.out.size))
  have HL2 := Lib.hid (show L.length = 2 from hal.1)
  have AL := Lib.hid (show AlikeL (twoP (some ⟨w.heap.size, 0, none⟩) (some ⟨w.heap.size + 1 + 1, 0, none⟩)) (L.map Pr.pk) from ⟨by rw [List.length_map]; exact hal.1, fun i h1 h2 => by rw [List.getElem_map]; exact hal.2 i h1 (by rw [List.length_map] at h2; exact h2)⟩)
  clear h1 hat hal hb NW B6
  have TN := Lib.hid (truthnew_any PO.out (by have := HL2.out; omega))
  rw [HL2.out] at TN
  go_wp2_with fail
  go_at_call 50
  refine TN.out.mono ?_
  rintro en w10 ⟨T, X, L2, rfl, ht, ha2, hb⟩
  have B10 := Lib.hid (B9.out.trans (hb.mono B9.out.size))
  have TT := Lib.hid ht
  have A2 := Lib.hid (alikeL_trans AL.out ha2)
  clear ht ha2 hb TN
  go_wp2_with fail
  refine bodyPost_ret (v := .tuple #[.pointer (some ⟨T, 0, none⟩), .bool true]) (by simp [results, Tryz.results59, go_sem]) rfl ?_
  exact ⟨T, X, L2, rfl, TT.out, fun n d => two_prov A2.out n d, B10.out⟩
end
section
/- Walks: whether a state satisfies what is whole (truth.asked: atom, and, or, iff, unless, one, with, without, is). -/




open Go.RowKit Go.Shelf
set_option linter.unusedVariables false

section
variable {T X N : Nat} {L : List Pk}
/-- it is answered as the plain law says, wherever it is asked -/
def IsOk (T X N : Nat) (L : List Pk) (R : RV) : Prop := ∀ (rb : Nat) (f : Nat → Bool) (W : World), AskT T X N rb L f W → RTree W.heap.size W R →
  Calls Tryz.prog 95 #[askW T rb N, R.val] W fun e w' => e = .returned (.bool (Tr.sat N (pvL L) R.tree f)) ∧ Below W.heap.size W w'
/-- a box that holds what is asked -/
def ABox (b T rb N : Nat) (W : World) : Prop := b < W.heap.size ∧ W.cell? ⟨b, 0, none⟩ = some (.pointer (some ⟨T, 0, none⟩)) ∧ W.cell? ⟨b, 1, none⟩ = some (.slice (some ⟨rb, 0, none⟩) N N)
theorem ABox.then {b rb : Nat} {W W' : World} (h : ABox b T rb N W) (hb : Below W.heap.size W W') : ABox b T rb N W' :=
  ⟨Nat.lt_of_lt_of_le h.1 hb.size, (hb.cell (p := ⟨b, 0, none⟩) h.1).trans h.2.1, (hb.cell (p := ⟨b, 1, none⟩) h.1).trans h.2.2⟩
theorem ABox.new (T rb N : Nat) (W : World) (t : TypeId) : ABox W.heap.size T rb N (W.alloc (.cells #[.pointer (some ⟨T, 0, none⟩), .slice (some ⟨rb, 0, none⟩) N N] t)) := ⟨by simp, by simp [go_sem], by simp [go_sem]⟩
set_option maxRecDepth 100000 in
set_option maxHeartbeats 16000000 in
theorem and1_any (R : RV) (hR : IsOk T X N L R) (b rb : Nat) (f : Nat → Bool) (W : World) (hA : AskT T X N rb L f W) (hT : RTree W.heap.size W R) (hb : ABox b T rb N W) :
    Calls Tryz.prog 184 #[R.val, .pointer (some ⟨b, 0, none⟩)] W fun e w' => e = .returned (.bool (!Tr.sat N (pvL L) R.tree f)) ∧ Below W.heap.size W w' := by
  have b1 := (Below.refl W.heap.size W).alloc (Nat.le_refl _) (.cells #[.int .u8 R.kind, .string (bs R.dep.name), .int .u8 R.dep.op, .int .i64 R.dep.evr.epoch, .string (bs R.dep.evr.ver), .string (bs R.dep.evr.rel), .slice R.addr R.args.length R.cap] 39)
  have IS := Lib.hid (hR rb f _ (hA.then b1) ((hT.keeps b1).more b1.size))
  obtain ⟨_, c0, c1⟩ := hb.then b1
  unfold askW at IS
  unfold RV.val at *
  have B1 := Lib.hid b1
  clear hA hT hb hR b1
  generalize Tr.sat N (pvL L) R.tree f = r at *
  go_enter Tryz.func184, Tryz.ntmps184
  go_wp2_with fail
  go_at_call 95
  refine IS.out.mono ?_
  rintro e w2 ⟨rfl, h⟩
  have hB := B1.out.trans (h.mono (by simp))
  clear h
  go_wp2_with fail
  go_ret
  exact ⟨rfl, hB⟩
set_option maxRecDepth 100000 in
set_option maxHeartbeats 16000000 in
theorem and_any (R : RV) (hn : R.args.length ≤ 1000000) (hR : ∀ a ∈ R.args, IsOk T X N L a) (rb : Nat) (f : Nat → Bool) (W : World) (hA : AskT T X N rb L f W) (hT : RTree W.heap.size W R) :
    Calls Tryz.prog 137 #[askW T rb N, R.val] W fun e w' => e = .returned (.bool (R.args.all fun a => Tr.sat N (pvL L) a.tree f)) ∧ Below W.heap.size W w' := by
  have b1 := (Below.refl W.heap.size W).alloc (Nat.le_refl _) (.cells #[.pointer (some ⟨T, 0, none⟩), .slice (some ⟨rb, 0, none⟩) N N] 145)
  have b2 := b1.alloc (by simp) (.cells #[.int .u8 R.kind, .string (bs R.dep.name), .int .u8 R.dep.op, .int .i64 R.dep.evr.epoch, .string (bs R.dep.evr.ver), .string (bs R.dep.evr.rel), .slice R.addr R.args.length R.cap] 39)
  have a1 := (ABox.new T rb N W 145).then ((Below.refl _ _).alloc (Nat.le_refl _) (.cells #[.int .u8 R.kind, .string (bs R.dep.name), .int .u8 R.dep.op, .int .i64 R.dep.evr.epoch, .string (bs R.dep.evr.ver), .string (bs R.dep.evr.rel), .slice R.addr R.args.length R.cap] 39))
  have HC := Lib.hid (hasrow_any 184 (fun _ _ => rfl) #[.pointer (some ⟨W.heap.size, 0, none⟩)] (fun a => !Tr.sat N (pvL L) a.tree f) R.args R.addr R.cap _ (RRow.more (RRow.below ⟨hT.row, hT.sub⟩ b2) b2.size) hn
    (fun d hd W' hB => and1_any d (hR d hd) W.heap.size rb f W' (hA.then (b2.trans (hB.mono b2.size))) (((hT.sub d hd).keeps (b2.trans (hB.mono b2.size))).more (b2.trans (hB.mono b2.size)).size) (a1.then hB)))
  rw [List.all_eq_not_any_not]
  unfold askW
  unfold RV.val
  have B2 := Lib.hid b2
  clear hA hT hR b1 b2 a1 hn
  generalize (R.args.any fun a => !Tr.sat N (pvL L) a.tree f) = r at *
  generalize R.args.length = n at *
  go_enter Tryz.func137, Tryz.ntmps137
  go_wp2_with fail
  go_at_call 165
  refine HC.out.mono ?_
  rintro e w2 ⟨rfl, h⟩
  have hB := B2.out.trans (h.mono B2.out.size)
  clear h
  go_wp2_with fail
  go_ret
  exact ⟨rfl, hB⟩
/-- where the function value holds its first argument -/
def PredH (w : World) (g : FuncId) (hd : Array Value) (p : RV → Bool) (l : List RV) : Prop := ∀ d ∈ l, ∀ W, Below w.heap.size w W → Calls Tryz.prog g (hd ++ #[d.val]) W fun e w' => e = .returned (.bool (p d)) ∧ Below W.heap.size W w'
end
end
end Go.Proofs.YteobmfpbgnmffaaGreatDoor
