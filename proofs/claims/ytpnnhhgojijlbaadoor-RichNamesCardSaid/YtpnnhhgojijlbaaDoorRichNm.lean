/- RichNames, walked. -/
import Derived.Test.YtpnnhhgojijlbaaDoorRichNmL
import Derived.Test.YtpnnhhgojijlbaaDoorRcD
import Derived.Test.YtpnnhhgojijlbaaDoorRegInv
import Derived.Laws.MakeOwn
namespace Go.Proofs.YtpnnhhgojijlbaaDoor
open Go.RowKit Go.Shelf
set_option linter.unusedVariables false

def NmCells (g : Nat) (W : World) : Prop := g < W.heap.size ∧ ∀ k (hk : k < nmG.length), W.cell? ⟨g, k, none⟩ = some (.string (bs nmG[k].1))
theorem NmCells.then {g : Nat} {W W' : World} (h : NmCells g W) (hb : Below W.heap.size W W') : NmCells g W' := ⟨Nat.lt_of_lt_of_le h.1 hb.size, fun k hk => (hb.cell (p := ⟨g, k, none⟩) h.1).trans (h.2 k hk)⟩
theorem NmCells.new (w : World) : NmCells w.heap.size (w.alloc (.cells #[.string ⟨#[97]⟩, .string ⟨#[47, 102]⟩, .string ⟨#[97, 32, 62, 61, 32, 49, 58, 50, 45, 51]⟩, .string ⟨#[40, 97, 32, 97, 110, 100, 32, 98, 41]⟩, .string ⟨#[40, 97, 32, 97, 110, 100, 32, 98, 32, 97, 110, 100, 32, 99, 41]⟩, .string ⟨#[40, 97, 32, 111, 114, 32, 40, 98, 32, 119, 105, 116, 104, 32, 99, 41, 41]⟩, .string ⟨#[40, 97, 32, 105, 102, 32, 98, 41]⟩, .string ⟨#[40, 97, 32, 117, 110, 108, 101, 115, 115, 32, 98, 32, 101, 108, 115, 101, 32, 99, 41]⟩, .string ⟨#[40, 97, 32, 119, 105, 116, 104, 32, 98, 32, 119, 105, 116, 104, 32, 99, 41]⟩, .string ⟨#[40, 97, 32, 119, 105, 116, 104, 111, 117, 116, 32, 98, 41]⟩, .string ⟨#[40, 40, 97, 32, 97, 110, 100, 32, 98, 41, 32, 105, 102, 32, 40, 99, 32, 111, 114, 32, 100, 41, 32, 101, 108, 115, 101, 32, 40, 101, 32, 119, 105, 116, 104, 111, 117, 116, 32, 102, 32, 60, 32, 49, 41, 41]⟩] 9)) := by
  refine ⟨by simp, fun k hk => ?_⟩
  have hk' : k < 11 := hk
  obtain rfl | rfl | rfl | rfl | rfl | rfl | rfl | rfl | rfl | rfl | rfl : k = 0 ∨ k = 1 ∨ k = 2 ∨ k = 3 ∨ k = 4 ∨ k = 5 ∨ k = 6 ∨ k = 7 ∨ k = 8 ∨ k = 9 ∨ k = 10 := by omega
  all_goals exact (World.cell?_alloc_at _ _ _ _ rfl).trans rfl
def NbCells (g : Nat) (W : World) : Prop := g < W.heap.size ∧ ∀ k (hk : k < nmB.length), W.cell? ⟨g, k * 2, none⟩ = some (.string (bs nmB[k].1)) ∧ W.cell? ⟨g, k * 2 + 1, none⟩ = some (.int .i64 (nmB[k].2 : Int))
theorem NbCells.then {g : Nat} {W W' : World} (h : NbCells g W) (hb : Below W.heap.size W W') : NbCells g W' := ⟨Nat.lt_of_lt_of_le h.1 hb.size, fun k hk => ⟨(hb.cell (p := ⟨g, k * 2, none⟩) h.1).trans (h.2 k hk).1, (hb.cell (p := ⟨g, k * 2 + 1, none⟩) h.1).trans (h.2 k hk).2⟩⟩
theorem NbCells.new (w : World) : NbCells w.heap.size (w.alloc (.cells #[.string ⟨#[]⟩, .int .i64 0, .string ⟨#[32, 32]⟩, .int .i64 2, .string ⟨#[41]⟩, .int .i64 0, .string ⟨#[40]⟩, .int .i64 1, .string ⟨#[40, 41]⟩, .int .i64 1, .string ⟨#[40, 97]⟩, .int .i64 2, .string ⟨#[40, 97, 41]⟩, .int .i64 2, .string ⟨#[40, 97, 32, 97, 110, 100]⟩, .int .i64 6, .string ⟨#[40, 97, 32, 97, 110, 100, 41]⟩, .int .i64 6, .string ⟨#[40, 97, 32, 97, 110, 100, 32, 98]⟩, .int .i64 8, .string ⟨#[40, 97, 32, 97, 110, 100, 32, 98, 32, 111, 114, 32, 99, 41]⟩, .int .i64 9, .string ⟨#[40, 97, 32, 97, 110, 100, 32, 98, 32, 101, 108, 115, 101, 32, 99, 41]⟩, .int .i64 9, .string ⟨#[40, 97, 32, 119, 105, 116, 104, 111, 117, 116, 32, 98, 32, 119, 105, 116, 104, 111, 117, 116, 32, 99, 41]⟩, .int .i64 13, .string ⟨#[40, 97, 32, 105, 102, 32, 98, 32, 105, 102, 32, 99, 41]⟩, .int .i64 8, .string ⟨#[40, 97, 32, 105, 102, 32, 98, 32, 101, 108, 115, 101, 32, 99, 32, 101, 108, 115, 101, 32, 100, 41]⟩, .int .i64 15, .string ⟨#[40, 97, 32, 117, 110, 108, 101, 115, 115, 32, 98, 32, 117, 110, 108, 101, 115, 115, 32, 99, 41]⟩, .int .i64 12, .string ⟨#[40, 97, 110, 100, 32, 98, 41]⟩, .int .i64 1, .string ⟨#[97, 32, 97, 110, 100, 32, 98]⟩, .int .i64 2, .string ⟨#[40, 97, 32, 97, 110, 100, 32, 98, 41, 32, 99]⟩, .int .i64 10, .string ⟨#[97, 32, 62]⟩, .int .i64 0, .string ⟨#[97, 32, 62, 32, 62, 32, 49]⟩, .int .i64 0, .string ⟨#[97, 32, 61, 32, 49, 32, 50]⟩, .int .i64 6, .string ⟨#[40, 97, 44, 32, 98, 41]⟩, .int .i64 1, .string ⟨#[40, 97, 32, 97, 110, 100, 32, 98, 41, 41]⟩, .int .i64 9, .string ⟨#[40, 97, 32, 61, 32, 97, 110, 100, 32, 98, 41]⟩, .int .i64 9, .string ⟨#[40, 97, 32, 61, 32, 41]⟩, .int .i64 1, .string ⟨#[97, 9, 98]⟩, .int .i64 1] 35)) := by
  refine ⟨by simp, fun k hk => ?_⟩
  have hk' : k < 27 := hk
  obtain rfl | rfl | rfl | rfl | rfl | rfl | rfl | rfl | rfl | rfl | rfl | rfl | rfl | rfl | rfl | rfl | rfl | rfl | rfl | rfl | rfl | rfl | rfl | rfl | rfl | rfl | rfl : k = 0 ∨ k = 1 ∨ k = 2 ∨ k = 3 ∨ k = 4 ∨ k = 5 ∨ k = 6 ∨ k = 7 ∨ k = 8 ∨ k = 9 ∨ k = 10 ∨ k = 11 ∨ k = 12 ∨ k = 13 ∨ k = 14 ∨ k = 15 ∨ k = 16 ∨ k = 17 ∨ k = 18 ∨ k = 19 ∨ k = 20 ∨ k = 21 ∨ k = 22 ∨ k = 23 ∨ k = 24 ∨ k = 25 ∨ k = 26 := by omega
  all_goals exact ⟨(World.cell?_alloc_at _ _ _ _ rfl).trans rfl, (World.cell?_alloc_at _ _ _ _ rfl).trans rfl⟩
theorem nm_show (rv : RV) (s : Bytes) (h : showR rv.tree = (s, 0)) (hp : rv.tree.parts ≤ 1000000) (W : World) (hT : RTree W.heap.size W rv) (hW : RichIn W) : Calls Tryd.prog 8 #[rv.val] W fun e w' => e = .returned (.tuple #[.string (bs s), .int .i64 0]) ∧ Below W.heap.size W w' := by
  have := rshow_any rv W hp hT hW
  rw [h] at this
  exact this
theorem nmG_parts : ∀ x ∈ nmG, x.2.parts ≤ 100 := by decide +kernel
theorem bs_app (a b : Bytes) : bs a ++ bs b = bs (a ++ b) := by
  apply ByteArray.ext
  show (bs a ++ bs b).data = _
  rw [ByteArray.data_append]
  simp [bs]
theorem nmD_step (k : Nat) : bs (nmD (k + 1)) = ⟨#[40]⟩ ++ bs (nmD k) ++ ⟨#[32, 111, 114, 32, 98, 41]⟩ := by
  show bs (40 :: (nmD k ++ [32, 111, 114, 32, 98, 41])) = bs [40] ++ bs (nmD k) ++ bs [32, 111, 114, 32, 98, 41]
  rw [bs_app, bs_app]; simp
theorem nmM_step (k : Nat) : bs (nmM (k + 1)) = bs (nmM k) ++ ⟨#[32, 97, 110, 100, 32, 97]⟩ := by
  show bs (nmM k ++ [32, 97, 110, 100, 32, 97]) = bs (nmM k) ++ bs [32, 97, 110, 100, 32, 97]
  rw [bs_app]
theorem nmD_len : ∀ k, (nmD k).length = 1 + 7 * k
  | 0 => rfl
  | k + 1 => by rw [nmD, List.length_cons, List.length_append, nmD_len k]; simp; omega
theorem nmM_len : ∀ k, (nmM k).length = 1 + 6 * k
  | 0 => rfl
  | k + 1 => by rw [nmM, List.length_append, nmM_len k]; simp; omega
theorem nmD_size (k : Nat) (h : k ≤ 8) : (bs (nmD k)).size ≤ 100 := by rw [bs_size, nmD_len]; omega
theorem nmM_size (k : Nat) (h : k ≤ 22) : (bs (nmM k)).size ≤ 150 := by rw [bs_size, nmM_len]; omega
theorem nmC_step : bs (40 :: (nmM 22 ++ [41])) = ⟨#[40]⟩ ++ bs (nmM 22) ++ ⟨#[41]⟩ := by
  show bs (40 :: (nmM 22 ++ [41])) = bs [40] ++ bs (nmM 22) ++ bs [41]
  rw [bs_app, bs_app]; simp
theorem nmE_step : bs (40 :: (nmM 23 ++ [41])) = ⟨#[40]⟩ ++ bs (nmM 22) ++ ⟨#[32, 97, 110, 100, 32, 97, 41]⟩ := by
  show bs (40 :: ((nmM 22 ++ [32, 97, 110, 100, 32, 97]) ++ [41])) = bs [40] ++ bs (nmM 22) ++ bs [32, 97, 110, 100, 32, 97, 41]
  rw [bs_app, bs_app]; simp
def TreeV (t : RT) (v : Value) (w : World) : Prop := ∃ rv : RV, v = rv.val ∧ rv.tree = t ∧ RTree w.heap.size w rv
def RowV (L : List RT) (v : Value) (w : World) : Prop := ∃ (g : Nat) (l : List RV), v = .slice (some ⟨g, 0, none⟩) l.length l.length ∧ treeL l = L ∧ RRow w.heap.size w (some ⟨g, 0, none⟩) l.length l
theorem TreeV.then {t : RT} {v : Value} {w w' : World} (h : TreeV t v w) (hb : Below w.heap.size w w') : TreeV t v w' := by
  obtain ⟨rv, h1, h2, h3⟩ := h
  exact ⟨rv, h1, h2, (h3.keeps hb).more hb.size⟩
theorem RowV.then {L : List RT} {v : Value} {w w' : World} (h : RowV L v w) (hb : Below w.heap.size w w') : RowV L v w' := by
  obtain ⟨g, l, h1, h2, h3⟩ := h
  exact ⟨g, l, h1, h2, (h3.below hb).more hb.size⟩
theorem RowV.new {w : World} {l : List RV} {cs : Array Value} {e : TypeId} {L : List RT} (hcs : cs.toList = l.flatMap encR) (hm : l.length ≤ maxLen) (hl : ∀ t ∈ l, RTree w.heap.size w t) (hL : treeL l = L) : RowV L (.slice (some ⟨w.heap.size, 0, none⟩) l.length l.length) (w.alloc (.cells cs e)) := by
  have hz : (w.alloc (.cells cs e)).heap.size = w.heap.size + 1 := by simp
  exact ⟨_, l, rfl, hL, by rw [hz]; exact lit_rd rfl hcs hm, fun t ht => ((hl t ht).keeps ((Below.refl _ _).alloc (Nat.le_refl _) _)).more (by simp)⟩
theorem TreeV.row {L : List RT} {k : Int} {d : Dp} {w : World} {g : Nat} {l : List RV} (hd : d.wf) (h2 : treeL l = L) (h3 : RRow w.heap.size w (some ⟨g, 0, none⟩) l.length l) : TreeV (.mk k d L) (RV.node k d (some ⟨g, 0, none⟩) l.length l).val w :=
  ⟨_, rfl, by simp only [RV.tree]; rw [h2], .mk hd h3.1 h3.2⟩
theorem TreeV.nil {k : Int} {d : Dp} {w : World} (hd : d.wf) : TreeV (.mk k d []) (RV.node k d none 0 []).val w := ⟨_, rfl, rfl, .mk hd (Rd.nil_ (Nat.zero_le _)) (fun a ha => by simp [RV.args] at ha)⟩
theorem put_some {t : Array Value} {ds : List Deferred} {d : Tmp} {v : Value} : Act.put ⟨t, ds⟩ (some d) v = ⟨t.setIfInBounds d v, ds⟩ := rfl
theorem row_at {W : World} {g n k : Nat} {l : List RV} (h : RRow W.heap.size W (some ⟨g, 0, none⟩) n l) (hk : k < l.length) : W.cell? ⟨g, k * 7, none⟩ = some (.int .u8 l[k].kind) ∧ W.cell? ⟨g, k * 7 + 1, none⟩ = some (.string (bs l[k].dep.name)) ∧ W.cell? ⟨g, k * 7 + 2, none⟩ = some (.int .u8 l[k].dep.op) ∧ W.cell? ⟨g, k * 7 + 3, none⟩ = some (.int .i64 l[k].dep.evr.epoch) ∧ W.cell? ⟨g, k * 7 + 4, none⟩ = some (.string (bs l[k].dep.evr.ver)) ∧ W.cell? ⟨g, k * 7 + 5, none⟩ = some (.string (bs l[k].dep.evr.rel)) ∧ W.cell? ⟨g, k * 7 + 6, none⟩ = some (.slice l[k].addr l[k].args.length l[k].cap) := by
  obtain ⟨b, o, hadr, hbb, e0, e1, e2, e3, e4, e5, e6⟩ := h.at_ hk
  cases hadr
  simp only [Nat.zero_add] at e0 e1 e2 e3 e4 e5 e6
  exact ⟨e0, e1, e2, e3, e4, e5, e6⟩
theorem bad_show (rv : RV) (h : rv.tree.whole = false) (hp : rv.tree.parts ≤ 1000000) (W : World) (hT : RTree W.heap.size W rv) (hW : RichIn W) : Calls Tryd.prog 8 #[rv.val] W fun e w' => e = .returned (.tuple #[.string ⟨#[]⟩, .int .i64 4]) ∧ Below W.heap.size W w' := by
  have := rshow_any rv W hp hT hW
  rw [show showR rv.tree = ([], 4) by unfold showR; rw [h]; rfl] at this
  exact this
theorem bad_words (rv : RV) (h : rv.tree.whole = false) (hp : rv.tree.parts ≤ 1000000) (W : World) (hT : RTree W.heap.size W rv) (hW : RichIn W) : Calls Tryd.prog 10 #[rv.val] W fun e w' => e = .returned (.tuple #[.slice none 0 0, .int .i64 4]) ∧ Below W.heap.size W w' := by
  have := rwordsW_any rv W hp hT hW
  unfold WPost at this
  rw [h] at this
  simpa using this
theorem bad_whole (rv : RV) (h : rv.tree.whole = false) (hp : rv.tree.parts ≤ 1000000) (W : World) (hT : RTree W.heap.size W rv) (hW : RichIn W) : Calls Tryd.prog 11 #[rv.val] W fun e w' => e = .returned (.bool false) ∧ Below W.heap.size W w' := by
  have := rwhole_any rv W hp hT hW
  rw [h] at this
  exact this
def badT : List RT := [zeroRT, .mk 8 zeroT [], .mk 1 zeroT [], .mk 2 zeroT [atomT [97]], .mk 7 zeroT [atomT [97], atomT [98], atomT [99]], .mk 4 zeroT [zeroRT, zeroRT, zeroRT, zeroRT], .mk 3 ⟨[97], 0, zeroE⟩ [atomT [97], atomT [98]], .mk 1 ⟨[97], 0, zeroE⟩ [atomT [98]], .mk 3 zeroT [atomT [97], zeroRT]]
theorem badT_no : ∀ t ∈ badT, t.whole = false ∧ t.parts ≤ 100 := by decide +kernel
def nmP : Nat → Value → World → Prop
  | 0 => TreeV (zeroRT)
  | 1 => TreeV (.mk 8 zeroT [])
  | 2 => TreeV (.mk 1 zeroT [])
  | 3 => TreeV (atomT [97])
  | 4 => RowV [atomT [97]]
  | 5 => TreeV (.mk 2 zeroT [atomT [97]])
  | 6 => TreeV (atomT [97])
  | 7 => TreeV (atomT [98])
  | 8 => TreeV (atomT [99])
  | 9 => RowV [atomT [97], atomT [98], atomT [99]]
  | 10 => TreeV (.mk 7 zeroT [atomT [97], atomT [98], atomT [99]])
  | 11 => RowV [zeroRT, zeroRT, zeroRT, zeroRT]
  | 12 => TreeV (.mk 4 zeroT [zeroRT, zeroRT, zeroRT, zeroRT])
  | 13 => fun v _ => v = .agg #[.string ⟨#[97]⟩, .int .u8 0, .int .i64 0, .string ⟨#[]⟩, .string ⟨#[]⟩]
  | 14 => TreeV (atomT [97])
  | 15 => TreeV (atomT [98])
  | 16 => RowV [atomT [97], atomT [98]]
  | 17 => TreeV (.mk 3 ⟨[97], 0, zeroE⟩ [atomT [97], atomT [98]])
  | 18 => fun v _ => v = .agg #[.string ⟨#[97]⟩, .int .u8 0, .int .i64 0, .string ⟨#[]⟩, .string ⟨#[]⟩]
  | 19 => TreeV (atomT [98])
  | 20 => RowV [atomT [98]]
  | 21 => TreeV (.mk 1 ⟨[97], 0, zeroE⟩ [atomT [98]])
  | 22 => TreeV (atomT [97])
  | 23 => TreeV (zeroRT)
  | 24 => RowV [atomT [97], zeroRT]
  | 25 => TreeV (.mk 3 zeroT [atomT [97], zeroRT])
  | 26 => RowV badT
  | 27 => RowV badT
  | _ => fun _ _ => True
theorem nmP_mono (i : Nat) (v : Value) (w w' : World) (h : nmP i v w) (hb : Below w.heap.size w w') : nmP i v w' := by
  unfold nmP at h ⊢
  split <;> first | exact TreeV.then h hb | exact RowV.then h hb | exact True.intro | exact h
theorem infoRich : (Tryd.prog.info? 29).map (fun i => (i.zero, i.size, i.bytes)) = some (some (.agg #[.int .u8 0, .string ByteArray.empty, .int .u8 0, .int .i64 0, .string ByteArray.empty, .string ByteArray.empty, .slice none 0 0]), 7, 96) := by kernel_rfl
def rich4 : Array Value := madeCells (Value.agg #[.int .u8 0, .string ByteArray.empty, .int .u8 0, .int .i64 0, .string ByteArray.empty, .string ByteArray.empty, .slice none 0 0]).cells 28
theorem rich4_list : rich4.toList = [zRV, zRV, zRV, zRV].flatMap encR := by kernel_rfl
theorem make4 (W : World) : (Instr.makeSlice 27 (.int .i64 4) (.int .i64 4)).run Tryd.prog W = .ok (.slice (some ⟨W.heap.size, 0, none⟩) 4 4) (W.alloc (.cells rich4 29)) := by
  obtain ⟨i0, hi, h0, h1, h2⟩ := info_parts infoRich
  have h := run_makeSlice (P := Tryd.prog) W 27 29 i0 _ Tryd.underlying27 hi h0 .i64 .i64 4 4 (by decide) (by decide) (by rw [h1]; decide) (by rw [h2]; decide) (by decide)
  rw [h1] at h
  exact h
theorem zeroT_wf : zeroT.wf := ⟨Nat.zero_le _, rfl, rfl, Nat.zero_le _, Nat.zero_le _⟩
set_option maxRecDepth 100000 in
set_option maxHeartbeats 16000000 in
theorem richNames_row (w : World) (hI : RichIn w) : Calls Tryd.prog 3 #[] w fun e w' => e = .returned (.bool true) ∧ Below w.heap.size w w' := by
  have HI := Lib.hid hI
  have N0 := Lib.hid (NmCells.new w)
  clear hI
  go_enter Tryd.func3, Tryd.ntmps3
  go_wp2_with fail
  go_loopw [37] (fun iv wr => ∃ k : Nat, k ≤ 11 ∧ iv = .int .i64 (k : Int) ∧ NmCells w.heap.size wr ∧ Below w.heap.size w wr) (fun iv _ => 11 - (intOf iv).toNat)
  case atStart => exact ⟨0, by omega, rfl, N0.out, (Below.refl _ _).alloc (Nat.le_refl _) _⟩
  case round =>
    obtain ⟨k, hk, rfl, hN, hB⟩ := hrel
    rename World => wr
    have NM := Lib.hid hN
    have BW := Lib.hid hB
    clear hN hB N0
    by_cases hlt : k < 11
    · have hmem : nmG[k] ∈ nmG := List.getElem_mem hlt
      have hc := NM.out.2 k hlt
      obtain ⟨h1, h2⟩ := nmG_ok _ hmem
      have h3 := nmG_len _ hmem
      have h4 := nmG_parts _ hmem
      have P1 := Lib.hid (parse_yes nmG[k].1 nmG[k].2 h1 (by unfold maxLen; omega) wr (HI.out.below BW.out))
      have S1 := Lib.hid (fun (rv : RV) (ht : rv.tree = nmG[k].2) W hT hW => nm_show rv nmG[k].1 (by rw [ht]; exact h2) (by rw [ht]; omega) W hT hW)
      generalize bs nmG[k].1 = st at *
      generalize nmG[k].2 = tr at *
      clear h1 h2 h3 h4 hmem
      unfold RV.val at P1 S1
      have i0 : (0 : Int) ≤ (k : Int) := by omega
      have i1 : (k : Int) < 11 := by omega
      go_wp2_with fail
      go_at_call 7
      refine P1.out.mono ?_
      rintro en w1 ⟨rv, hrt, rfl, hT1, hb1⟩
      have S2 := Lib.hid (S1.out rv hrt (w1.alloc (.cells #[.int .u8 rv.kind, .string (bs rv.dep.name), .int .u8 rv.dep.op, .int .i64 rv.dep.evr.epoch, .string (bs rv.dep.evr.ver), .string (bs rv.dep.evr.rel), .slice rv.addr rv.args.length rv.cap] 29)) ((hT1.keeps ((Below.refl _ _).alloc (Nat.le_refl _) _)).more (by simp)) (((HI.out.below BW.out).below hb1).below ((Below.refl _ _).alloc (Nat.le_refl _) _)))
      have B1 := Lib.hid ((hb1.alloc hb1.size (.cells #[.int .u8 rv.kind, .string (bs rv.dep.name), .int .u8 rv.dep.op, .int .i64 rv.dep.evr.epoch, .string (bs rv.dep.evr.ver), .string (bs rv.dep.evr.rel), .slice rv.addr rv.args.length rv.cap] 29)))
      clear hrt hT1 hb1 P1 S1 hc
      go_wp2_with fail
      go_at_call 8
      refine S2.out.mono ?_
      rintro en w2 ⟨rfl, hb2⟩
      have B2 := Lib.hid (B1.out.trans (hb2.mono B1.out.size))
      clear hb2 S2 B1
      go_wp2_with fail
      go_roundw
      case rel => exact ⟨k + 1, by omega, by go_num, NM.out.then B2.out, BW.out.trans (B2.out.mono BW.out.size)⟩
      case measure => simp [intOf]; omega
    · obtain rfl : k = 11 := by omega
      clear hlt hk NM
      have NB := Lib.hid (NbCells.new wr)
      go_wp2_with fail
      go_loopw [93] (fun iv ws => ∃ k : Nat, k ≤ 27 ∧ iv = .int .i64 (k : Int) ∧ NbCells wr.heap.size ws ∧ Below w.heap.size w ws) (fun iv _ => 27 - (intOf iv).toNat)
      case atStart => exact ⟨0, by omega, rfl, NB.out, BW.out.alloc BW.out.size _⟩
      case round =>
        obtain ⟨k, hk, rfl, hN, hB⟩ := hrel
        rename World => ws
        have NM := Lib.hid hN
        have BW := Lib.hid hB
        clear hN hB NB
        by_cases hlt : k < 27
        · have hmem : nmB[k] ∈ nmB := List.getElem_mem hlt
          obtain ⟨hc1, hc2⟩ := NM.out.2 k hlt
          have h1 := nmB_ok _ hmem
          have h3 := nmB_len _ hmem
          have P1 := Lib.hid (fun W hW => parse_no nmB[k].1 nmB[k].2 4 h1 (by unfold maxLen; omega) W hW)
          generalize bs nmB[k].1 = st at *
          generalize nmB[k].2 = pl at *
          clear h1 h3 hmem
          unfold RV.val at P1
          have i0 : (0 : Int) ≤ (k : Int) := by omega
          have i1 : (k : Int) < 27 := by omega
          go_wp2_with fail
          go_at_call 7
          refine (P1.out _ ((HI.out.below BW.out).below ((Below.refl _ _).alloc (Nat.le_refl _) _))).mono ?_
          rintro en w8 ⟨rv2, _, rfl, _, hb8⟩
          have f1 := (hb8.cell (p := ⟨ws.heap.size, 1, none⟩) (by simp)).trans ((World.cell?_alloc_at _ _ _ _ rfl).trans rfl)
          have B8 := Lib.hid (((Below.refl ws.heap.size ws).alloc (Nat.le_refl _) (.cells #[.string st, .int .i64 (pl : Int)] 35)).trans (hb8.mono (by simp)))
          have hz9 : ws.heap.size < w8.heap.size := by have := hb8.size; simp at this; omega
          have f2 : ∀ ob : Obj, (w8.alloc ob).cell? ⟨ws.heap.size, 1, none⟩ = some (.int .i64 (pl : Int)) := fun ob => (World.cell?_alloc_lt w8 ob ⟨ws.heap.size, 1, none⟩ hz9).trans f1
          have hz8 := B8.out.size
          clear hb8 hc1 hc2 P1
          go_wp2_with fail
          go_roundw
          case rel => exact ⟨k + 1, by omega, by go_num, NM.out.then (B8.out.alloc hz8 _), (BW.out.trans (B8.out.mono BW.out.size)).alloc (Nat.le_trans BW.out.size hz8) _⟩
          case measure => simp [intOf]; omega
        · obtain rfl : k = 27 := by omega
          clear hlt hk NM
          go_wp2_with fail
          go_loopw [13, 15] (fun dv iv wt => ∃ k : Nat, k ≤ 8 ∧ iv = .int .i64 (k : Int) ∧ dv = .string (bs (nmD k)) ∧ Below w.heap.size w wt) (fun _ iv _ => 8 - (intOf iv).toNat)
          case atStart => exact ⟨0, by omega, rfl, rfl, BW.out⟩
          case round =>
            obtain ⟨k, hk, rfl, rfl, hB⟩ := hrel
            rename World => wt
            have BW := Lib.hid hB
            clear hB
            by_cases hlt : k < 8
            · have e1 := Lib.hid (nmD_step k)
              have z1 := nmD_size k hk
              have i1 : (k : Int) < 8 := by omega
              generalize bs (nmD k) = st at *
              have z2 : (⟨#[40]⟩ ++ st : ByteArray).size ≤ 200 := by rw [ByteArray.size_append]; show 1 + st.size ≤ 200; omega
              go_wp2_with fail
              go_roundw
              case rel => exact ⟨k + 1, by omega, by go_num, by rw [e1.out], BW.out⟩
              case measure => simp [intOf]; omega
            · obtain rfl : k = 8 := by omega
              clear hlt hk
              go_wp2_with fail
              go_loopw [14, 16] (fun dv iv wt => ∃ k : Nat, k ≤ 22 ∧ iv = .int .i64 (k : Int) ∧ dv = .string (bs (nmM k)) ∧ Below w.heap.size w wt) (fun _ iv _ => 22 - (intOf iv).toNat)
              case atStart => exact ⟨0, by omega, rfl, rfl, BW.out⟩
              case round =>
                obtain ⟨k, hk, rfl, rfl, hB⟩ := hrel
                rename World => wt
                have BW := Lib.hid hB
                clear hB
                by_cases hlt : k < 22
                · have e1 := Lib.hid (nmM_step k)
                  have z1 := nmM_size k hk
                  have i1 : (k : Int) < 22 := by omega
                  generalize bs (nmM k) = st at *
                  go_wp2_with fail
                  go_roundw
                  case rel => exact ⟨k + 1, by omega, by go_num, by rw [e1.out], BW.out⟩
                  case measure => simp [intOf]; omega
                · obtain rfl : k = 22 := by omega
                  clear hlt hk
                  have PA := Lib.hid (fun W hW => parse_yes (nmD 8) (nmDT 8) nmD8 (by decide +kernel) W hW)
                  have PB := Lib.hid (fun W hW => parse_no (nmD 9) 8 21 nmD9 (by decide +kernel) W hW)
                  have PC := Lib.hid (fun W hW => parse_yes (40 :: (nmM 22 ++ [41])) _ nmM22 (by decide +kernel) W hW)
                  have PD := Lib.hid (fun W hW => parse_no (40 :: (nmM 23 ++ [41])) 139 40 nmM23 (by decide +kernel) W hW)
                  have zd := nmD_size 8 (Nat.le_refl _)
                  have zm := nmM_size 22 (Nat.le_refl _)
                  rw [nmD_step] at PB
                  rw [nmC_step] at PC
                  rw [nmE_step] at PD
                  unfold RV.val at PA PB PC PD
                  generalize bs (nmD 8) = sd at *
                  generalize bs (nmM 22) = sm at *
                  have zd1 : (⟨#[40]⟩ ++ sd : ByteArray).size ≤ 200 := by rw [ByteArray.size_append]; show 1 + sd.size ≤ 200; omega
                  have zm1 : (⟨#[40]⟩ ++ sm : ByteArray).size ≤ 200 := by rw [ByteArray.size_append]; show 1 + sm.size ≤ 200; omega
                  skip
                  go_wp2_with fail
                  go_at_call 7
                  refine (PA.out _ (HI.out.below BW.out)).mono ?_
                  rintro en y0 ⟨ra, _, rfl, _, hb⟩
                  have BW0 := Lib.hid ((BW.out.trans (hb.mono BW.out.size)).alloc (BW.out.trans (hb.mono BW.out.size)).size (.cells #[.int .u8 ra.kind, .string (bs ra.dep.name), .int .u8 ra.dep.op, .int .i64 ra.dep.evr.epoch, .string (bs ra.dep.evr.ver), .string (bs ra.dep.evr.rel), .slice ra.addr ra.args.length ra.cap] 29))
                  clear hb PA
                  go_wp2_with fail
                  go_at_call 7
                  refine (PB.out _ (HI.out.below BW0.out)).mono ?_
                  rintro en y1 ⟨rb, _, rfl, _, hb⟩
                  have BW1 := Lib.hid ((BW0.out.trans (hb.mono BW0.out.size)).alloc (BW0.out.trans (hb.mono BW0.out.size)).size (.cells #[.int .u8 rb.kind, .string (bs rb.dep.name), .int .u8 rb.dep.op, .int .i64 rb.dep.evr.epoch, .string (bs rb.dep.evr.ver), .string (bs rb.dep.evr.rel), .slice rb.addr rb.args.length rb.cap] 29))
                  clear hb PB
                  go_wp2_with fail
                  go_at_call 7
                  refine (PC.out _ (HI.out.below BW1.out)).mono ?_
                  rintro en y2 ⟨rc, _, rfl, _, hb⟩
                  have BW2 := Lib.hid ((BW1.out.trans (hb.mono BW1.out.size)).alloc (BW1.out.trans (hb.mono BW1.out.size)).size (.cells #[.int .u8 rc.kind, .string (bs rc.dep.name), .int .u8 rc.dep.op, .int .i64 rc.dep.evr.epoch, .string (bs rc.dep.evr.ver), .string (bs rc.dep.evr.rel), .slice rc.addr rc.args.length rc.cap] 29))
                  clear hb PC
                  go_wp2_with fail
                  go_at_call 7
                  refine (PD.out _ (HI.out.below BW2.out)).mono ?_
                  rintro en y3 ⟨rd, _, rfl, _, hb⟩
                  have BW3 := Lib.hid ((BW2.out.trans (hb.mono BW2.out.size)).alloc (BW2.out.trans (hb.mono BW2.out.size)).size (.cells #[.int .u8 rd.kind, .string (bs rd.dep.name), .int .u8 rd.dep.op, .int .i64 rd.dep.evr.epoch, .string (bs rd.dep.evr.ver), .string (bs rd.dep.evr.rel), .slice rd.addr rd.args.length rd.cap] 29))
                  clear hb PD
                  go_wp2_with fail
                  skip
                  refine wp_region_vals (PP := nmP) rfl (by kernel_rfl) (by decide) nmP_mono (fun _ => undef) (by simp only [fillV, put_some, List.setIfInBounds_toArray, List.set_cons_zero, List.set_cons_succ]) ?_ ?_
                  · intro i o vs W hi ho he hBW K hK
                    simp only [fillV, put_some, List.setIfInBounds_toArray, List.set_cons_zero, List.set_cons_succ] at hK ⊢
                    obtain rfl | rfl | rfl | rfl | rfl | rfl | rfl | rfl | rfl | rfl | rfl | rfl | rfl | rfl | rfl | rfl | rfl | rfl | rfl | rfl | rfl | rfl | rfl | rfl | rfl | rfl | rfl | rfl := (show i = 0 ∨ i = 1 ∨ i = 2 ∨ i = 3 ∨ i = 4 ∨ i = 5 ∨ i = 6 ∨ i = 7 ∨ i = 8 ∨ i = 9 ∨ i = 10 ∨ i = 11 ∨ i = 12 ∨ i = 13 ∨ i = 14 ∨ i = 15 ∨ i = 16 ∨ i = 17 ∨ i = 18 ∨ i = 19 ∨ i = 20 ∨ i = 21 ∨ i = 22 ∨ i = 23 ∨ i = 24 ∨ i = 25 ∨ i = 26 ∨ i = 27 by have : i < 28 := hi; omega)
                    · simp only [List.getElem?_toArray, List.getElem?_cons_zero, List.getElem?_cons_succ, Option.some.injEq] at ho
                      subst ho
                      rw [if_pos (by rfl)]
                      simp only [put_some, List.setIfInBounds_toArray, List.set_cons_zero, List.set_cons_succ] at hK
                      have HK := Lib.hid hK
                      clear hK he hi hBW
                      go_simp
                      exact HK.out _ _ (TreeV.nil zeroT_wf) (Below.refl _ _)
                    · simp only [List.getElem?_toArray, List.getElem?_cons_zero, List.getElem?_cons_succ, Option.some.injEq] at ho
                      subst ho
                      rw [if_pos (by rfl)]
                      simp only [put_some, List.setIfInBounds_toArray, List.set_cons_zero, List.set_cons_succ] at hK
                      have HK := Lib.hid hK
                      clear hK he hi hBW
                      go_simp
                      exact HK.out _ _ (TreeV.nil zeroT_wf) (Below.refl _ _)
                    · simp only [List.getElem?_toArray, List.getElem?_cons_zero, List.getElem?_cons_succ, Option.some.injEq] at ho
                      subst ho
                      rw [if_pos (by rfl)]
                      simp only [put_some, List.setIfInBounds_toArray, List.set_cons_zero, List.set_cons_succ] at hK
                      have HK := Lib.hid hK
                      clear hK he hi hBW
                      go_simp
                      exact HK.out _ _ (TreeV.nil zeroT_wf) (Below.refl _ _)
                    · simp only [List.getElem?_toArray, List.getElem?_cons_zero, List.getElem?_cons_succ, Option.some.injEq] at ho
                      subst ho
                      rw [if_pos (by rfl)]
                      simp only [put_some, List.setIfInBounds_toArray, List.set_cons_zero, List.set_cons_succ] at hK
                      have HK := Lib.hid hK
                      clear hK he hi hBW
                      go_simp
                      go_at_call 9
                      refine (ratom_any _ _).mono ?_
                      rintro e w2 ⟨rfl, hbb⟩
                      exact HK.out _ _ ⟨atomR [97], rfl, rfl, atomR_rtree _ _ _ (by decide)⟩ hbb
                    · simp only [List.getElem?_toArray, List.getElem?_cons_zero, List.getElem?_cons_succ, Option.some.injEq] at ho
                      subst ho
                      rw [if_pos (by rfl)]
                      simp only [put_some, List.setIfInBounds_toArray, List.set_cons_zero, List.set_cons_succ] at hK
                      have h3 : TreeV (atomT [97]) (vs 3) W := he ⟨3, .data⟩ (by simp) rfl
                      obtain ⟨r3, e3, t3, T3⟩ := h3
                      unfold RV.val at e3
                      rw [e3] at hK ⊢
                      have HK := Lib.hid hK
                      clear hK he hi hBW
                      go_simp
                      refine HK.out _ _ (RowV.new (l := [r3]) rfl (by simp [maxLen]) (fun t ht => ?_) ?_) ((Below.refl _ _).alloc (Nat.le_refl _) _)
                      · simp only [List.mem_cons, List.not_mem_nil, or_false] at ht
                        rcases ht with rfl
                        · exact T3
                      · first | (simp only [treeL, t3]; done) | (simp only [treeL, t3]; rfl)
                    · simp only [List.getElem?_toArray, List.getElem?_cons_zero, List.getElem?_cons_succ, Option.some.injEq] at ho
                      subst ho
                      rw [if_pos (by rfl)]
                      simp only [put_some, List.setIfInBounds_toArray, List.set_cons_zero, List.set_cons_succ] at hK
                      have h4 : RowV [atomT [97]] (vs 4) W := he ⟨4, .data⟩ (by simp) rfl
                      obtain ⟨g4, l4, e4, t4, T4⟩ := h4
                      rw [e4] at hK ⊢
                      have HK := Lib.hid hK
                      clear hK he hi hBW
                      go_simp
                      exact HK.out _ _ (TreeV.row zeroT_wf t4 T4) (Below.refl _ _)
                    · simp only [List.getElem?_toArray, List.getElem?_cons_zero, List.getElem?_cons_succ, Option.some.injEq] at ho
                      subst ho
                      rw [if_pos (by rfl)]
                      simp only [put_some, List.setIfInBounds_toArray, List.set_cons_zero, List.set_cons_succ] at hK
                      have HK := Lib.hid hK
                      clear hK he hi hBW
                      go_simp
                      go_at_call 9
                      refine (ratom_any _ _).mono ?_
                      rintro e w2 ⟨rfl, hbb⟩
                      exact HK.out _ _ ⟨atomR [97], rfl, rfl, atomR_rtree _ _ _ (by decide)⟩ hbb
                    · simp only [List.getElem?_toArray, List.getElem?_cons_zero, List.getElem?_cons_succ, Option.some.injEq] at ho
                      subst ho
                      rw [if_pos (by rfl)]
                      simp only [put_some, List.setIfInBounds_toArray, List.set_cons_zero, List.set_cons_succ] at hK
                      have HK := Lib.hid hK
                      clear hK he hi hBW
                      go_simp
                      go_at_call 9
                      refine (ratom_any _ _).mono ?_
                      rintro e w2 ⟨rfl, hbb⟩
                      exact HK.out _ _ ⟨atomR [98], rfl, rfl, atomR_rtree _ _ _ (by decide)⟩ hbb
                    · simp only [List.getElem?_toArray, List.getElem?_cons_zero, List.getElem?_cons_succ, Option.some.injEq] at ho
                      subst ho
                      rw [if_pos (by rfl)]
                      simp only [put_some, List.setIfInBounds_toArray, List.set_cons_zero, List.set_cons_succ] at hK
                      have HK := Lib.hid hK
                      clear hK he hi hBW
                      go_simp
                      go_at_call 9
                      refine (ratom_any _ _).mono ?_
                      rintro e w2 ⟨rfl, hbb⟩
                      exact HK.out _ _ ⟨atomR [99], rfl, rfl, atomR_rtree _ _ _ (by decide)⟩ hbb
                    · simp only [List.getElem?_toArray, List.getElem?_cons_zero, List.getElem?_cons_succ, Option.some.injEq] at ho
                      subst ho
                      rw [if_pos (by rfl)]
                      simp only [put_some, List.setIfInBounds_toArray, List.set_cons_zero, List.set_cons_succ] at hK
                      have h6 : TreeV (atomT [97]) (vs 6) W := he ⟨6, .data⟩ (by simp) rfl
                      obtain ⟨r6, e6, t6, T6⟩ := h6
                      unfold RV.val at e6
                      rw [e6] at hK ⊢
                      have h7 : TreeV (atomT [98]) (vs 7) W := he ⟨7, .data⟩ (by simp) rfl
                      obtain ⟨r7, e7, t7, T7⟩ := h7
                      unfold RV.val at e7
                      rw [e7] at hK ⊢
                      have h8 : TreeV (atomT [99]) (vs 8) W := he ⟨8, .data⟩ (by simp) rfl
                      obtain ⟨r8, e8, t8, T8⟩ := h8
                      unfold RV.val at e8
                      rw [e8] at hK ⊢
                      have HK := Lib.hid hK
                      clear hK he hi hBW
                      go_simp
                      refine HK.out _ _ (RowV.new (l := [r6, r7, r8]) rfl (by simp [maxLen]) (fun t ht => ?_) ?_) ((Below.refl _ _).alloc (Nat.le_refl _) _)
                      · simp only [List.mem_cons, List.not_mem_nil, or_false] at ht
                        rcases ht with rfl | rfl | rfl
                        · exact T6
                        · exact T7
                        · exact T8
                      · first | (simp only [treeL, t6, t7, t8]; done) | (simp only [treeL, t6, t7, t8]; rfl)
                    · simp only [List.getElem?_toArray, List.getElem?_cons_zero, List.getElem?_cons_succ, Option.some.injEq] at ho
                      subst ho
                      rw [if_pos (by rfl)]
                      simp only [put_some, List.setIfInBounds_toArray, List.set_cons_zero, List.set_cons_succ] at hK
                      have h9 : RowV [atomT [97], atomT [98], atomT [99]] (vs 9) W := he ⟨9, .data⟩ (by simp) rfl
                      obtain ⟨g9, l9, e9, t9, T9⟩ := h9
                      rw [e9] at hK ⊢
                      have HK := Lib.hid hK
                      clear hK he hi hBW
                      go_simp
                      exact HK.out _ _ (TreeV.row zeroT_wf t9 T9) (Below.refl _ _)
                    · simp only [List.getElem?_toArray, List.getElem?_cons_zero, List.getElem?_cons_succ, Option.some.injEq] at ho
                      subst ho
                      rw [if_pos (by rfl)]
                      simp only [put_some, List.setIfInBounds_toArray, List.set_cons_zero, List.set_cons_succ] at hK
                      have HK := Lib.hid hK
                      clear hK he hi hBW
                      have hmk := make4
                      go_simp
                      exact HK.out _ _ (RowV.new (l := [zRV, zRV, zRV, zRV]) rich4_list (by simp [maxLen]) (fun t ht => by simp only [List.mem_cons, List.not_mem_nil, or_false, or_self] at ht; subst ht; exact .mk zeroT_wf (Rd.nil_ (Nat.zero_le _)) (fun a ha => by simp [zRV, RV.args] at ha)) rfl) ((Below.refl _ _).alloc (Nat.le_refl _) _)
                    · simp only [List.getElem?_toArray, List.getElem?_cons_zero, List.getElem?_cons_succ, Option.some.injEq] at ho
                      subst ho
                      rw [if_pos (by rfl)]
                      simp only [put_some, List.setIfInBounds_toArray, List.set_cons_zero, List.set_cons_succ] at hK
                      have h11 : RowV [zeroRT, zeroRT, zeroRT, zeroRT] (vs 11) W := he ⟨11, .data⟩ (by simp) rfl
                      obtain ⟨g11, l11, e11, t11, T11⟩ := h11
                      rw [e11] at hK ⊢
                      have HK := Lib.hid hK
                      clear hK he hi hBW
                      go_simp
                      exact HK.out _ _ (TreeV.row zeroT_wf t11 T11) (Below.refl _ _)
                    · simp only [List.getElem?_toArray, List.getElem?_cons_zero, List.getElem?_cons_succ, Option.some.injEq] at ho
                      subst ho
                      rw [if_pos (by rfl)]
                      simp only [put_some, List.setIfInBounds_toArray, List.set_cons_zero, List.set_cons_succ] at hK
                      have HK := Lib.hid hK
                      clear hK he hi hBW
                      go_simp
                      exact HK.out _ _ rfl (Below.refl _ _)
                    · simp only [List.getElem?_toArray, List.getElem?_cons_zero, List.getElem?_cons_succ, Option.some.injEq] at ho
                      subst ho
                      rw [if_pos (by rfl)]
                      simp only [put_some, List.setIfInBounds_toArray, List.set_cons_zero, List.set_cons_succ] at hK
                      have HK := Lib.hid hK
                      clear hK he hi hBW
                      go_simp
                      go_at_call 9
                      refine (ratom_any _ _).mono ?_
                      rintro e w2 ⟨rfl, hbb⟩
                      exact HK.out _ _ ⟨atomR [97], rfl, rfl, atomR_rtree _ _ _ (by decide)⟩ hbb
                    · simp only [List.getElem?_toArray, List.getElem?_cons_zero, List.getElem?_cons_succ, Option.some.injEq] at ho
                      subst ho
                      rw [if_pos (by rfl)]
                      simp only [put_some, List.setIfInBounds_toArray, List.set_cons_zero, List.set_cons_succ] at hK
                      have HK := Lib.hid hK
                      clear hK he hi hBW
                      go_simp
                      go_at_call 9
                      refine (ratom_any _ _).mono ?_
                      rintro e w2 ⟨rfl, hbb⟩
                      exact HK.out _ _ ⟨atomR [98], rfl, rfl, atomR_rtree _ _ _ (by decide)⟩ hbb
                    · simp only [List.getElem?_toArray, List.getElem?_cons_zero, List.getElem?_cons_succ, Option.some.injEq] at ho
                      subst ho
                      rw [if_pos (by rfl)]
                      simp only [put_some, List.setIfInBounds_toArray, List.set_cons_zero, List.set_cons_succ] at hK
                      have h14 : TreeV (atomT [97]) (vs 14) W := he ⟨14, .data⟩ (by simp) rfl
                      obtain ⟨r14, e14, t14, T14⟩ := h14
                      unfold RV.val at e14
                      rw [e14] at hK ⊢
                      have h15 : TreeV (atomT [98]) (vs 15) W := he ⟨15, .data⟩ (by simp) rfl
                      obtain ⟨r15, e15, t15, T15⟩ := h15
                      unfold RV.val at e15
                      rw [e15] at hK ⊢
                      have HK := Lib.hid hK
                      clear hK he hi hBW
                      go_simp
                      refine HK.out _ _ (RowV.new (l := [r14, r15]) rfl (by simp [maxLen]) (fun t ht => ?_) ?_) ((Below.refl _ _).alloc (Nat.le_refl _) _)
                      · simp only [List.mem_cons, List.not_mem_nil, or_false] at ht
                        rcases ht with rfl | rfl
                        · exact T14
                        · exact T15
                      · first | (simp only [treeL, t14, t15]; done) | (simp only [treeL, t14, t15]; rfl)
                    · simp only [List.getElem?_toArray, List.getElem?_cons_zero, List.getElem?_cons_succ, Option.some.injEq] at ho
                      subst ho
                      rw [if_pos (by rfl)]
                      simp only [put_some, List.setIfInBounds_toArray, List.set_cons_zero, List.set_cons_succ] at hK
                      have e13 : vs 13 = .agg #[.string ⟨#[97]⟩, .int .u8 0, .int .i64 0, .string ⟨#[]⟩, .string ⟨#[]⟩] := he ⟨13, .data⟩ (by simp) rfl
                      rw [e13] at hK ⊢
                      have h16 : RowV [atomT [97], atomT [98]] (vs 16) W := he ⟨16, .data⟩ (by simp) rfl
                      obtain ⟨g16, l16, e16, t16, T16⟩ := h16
                      rw [e16] at hK ⊢
                      have HK := Lib.hid hK
                      clear hK he hi hBW
                      go_simp
                      exact HK.out _ _ (TreeV.row (atom_wf [97] (by decide)) t16 T16) (Below.refl _ _)
                    · simp only [List.getElem?_toArray, List.getElem?_cons_zero, List.getElem?_cons_succ, Option.some.injEq] at ho
                      subst ho
                      rw [if_pos (by rfl)]
                      simp only [put_some, List.setIfInBounds_toArray, List.set_cons_zero, List.set_cons_succ] at hK
                      have HK := Lib.hid hK
                      clear hK he hi hBW
                      go_simp
                      exact HK.out _ _ rfl (Below.refl _ _)
                    · simp only [List.getElem?_toArray, List.getElem?_cons_zero, List.getElem?_cons_succ, Option.some.injEq] at ho
                      subst ho
                      rw [if_pos (by rfl)]
                      simp only [put_some, List.setIfInBounds_toArray, List.set_cons_zero, List.set_cons_succ] at hK
                      have HK := Lib.hid hK
                      clear hK he hi hBW
                      go_simp
                      go_at_call 9
                      refine (ratom_any _ _).mono ?_
                      rintro e w2 ⟨rfl, hbb⟩
                      exact HK.out _ _ ⟨atomR [98], rfl, rfl, atomR_rtree _ _ _ (by decide)⟩ hbb
                    · simp only [List.getElem?_toArray, List.getElem?_cons_zero, List.getElem?_cons_succ, Option.some.injEq] at ho
                      subst ho
                      rw [if_pos (by rfl)]
                      simp only [put_some, List.setIfInBounds_toArray, List.set_cons_zero, List.set_cons_succ] at hK
                      have h19 : TreeV (atomT [98]) (vs 19) W := he ⟨19, .data⟩ (by simp) rfl
                      obtain ⟨r19, e19, t19, T19⟩ := h19
                      unfold RV.val at e19
                      rw [e19] at hK ⊢
                      have HK := Lib.hid hK
                      clear hK he hi hBW
                      go_simp
                      refine HK.out _ _ (RowV.new (l := [r19]) rfl (by simp [maxLen]) (fun t ht => ?_) ?_) ((Below.refl _ _).alloc (Nat.le_refl _) _)
                      · simp only [List.mem_cons, List.not_mem_nil, or_false] at ht
                        rcases ht with rfl
                        · exact T19
                      · first | (simp only [treeL, t19]; done) | (simp only [treeL, t19]; rfl)
                    · simp only [List.getElem?_toArray, List.getElem?_cons_zero, List.getElem?_cons_succ, Option.some.injEq] at ho
                      subst ho
                      rw [if_pos (by rfl)]
                      simp only [put_some, List.setIfInBounds_toArray, List.set_cons_zero, List.set_cons_succ] at hK
                      have e18 : vs 18 = .agg #[.string ⟨#[97]⟩, .int .u8 0, .int .i64 0, .string ⟨#[]⟩, .string ⟨#[]⟩] := he ⟨18, .data⟩ (by simp) rfl
                      rw [e18] at hK ⊢
                      have h20 : RowV [atomT [98]] (vs 20) W := he ⟨20, .data⟩ (by simp) rfl
                      obtain ⟨g20, l20, e20, t20, T20⟩ := h20
                      rw [e20] at hK ⊢
                      have HK := Lib.hid hK
                      clear hK he hi hBW
                      go_simp
                      exact HK.out _ _ (TreeV.row (atom_wf [97] (by decide)) t20 T20) (Below.refl _ _)
                    · simp only [List.getElem?_toArray, List.getElem?_cons_zero, List.getElem?_cons_succ, Option.some.injEq] at ho
                      subst ho
                      rw [if_pos (by rfl)]
                      simp only [put_some, List.setIfInBounds_toArray, List.set_cons_zero, List.set_cons_succ] at hK
                      have HK := Lib.hid hK
                      clear hK he hi hBW
                      go_simp
                      go_at_call 9
                      refine (ratom_any _ _).mono ?_
                      rintro e w2 ⟨rfl, hbb⟩
                      exact HK.out _ _ ⟨atomR [97], rfl, rfl, atomR_rtree _ _ _ (by decide)⟩ hbb
                    · simp only [List.getElem?_toArray, List.getElem?_cons_zero, List.getElem?_cons_succ, Option.some.injEq] at ho
                      subst ho
                      rw [if_pos (by rfl)]
                      simp only [put_some, List.setIfInBounds_toArray, List.set_cons_zero, List.set_cons_succ] at hK
                      have HK := Lib.hid hK
                      clear hK he hi hBW
                      go_simp
                      exact HK.out _ _ (TreeV.nil zeroT_wf) (Below.refl _ _)
                    · simp only [List.getElem?_toArray, List.getElem?_cons_zero, List.getElem?_cons_succ, Option.some.injEq] at ho
                      subst ho
                      rw [if_pos (by rfl)]
                      simp only [put_some, List.setIfInBounds_toArray, List.set_cons_zero, List.set_cons_succ] at hK
                      have h22 : TreeV (atomT [97]) (vs 22) W := he ⟨22, .data⟩ (by simp) rfl
                      obtain ⟨r22, e22, t22, T22⟩ := h22
                      unfold RV.val at e22
                      rw [e22] at hK ⊢
                      have h23 : TreeV (zeroRT) (vs 23) W := he ⟨23, .data⟩ (by simp) rfl
                      obtain ⟨r23, e23, t23, T23⟩ := h23
                      unfold RV.val at e23
                      rw [e23] at hK ⊢
                      have HK := Lib.hid hK
                      clear hK he hi hBW
                      go_simp
                      refine HK.out _ _ (RowV.new (l := [r22, r23]) rfl (by simp [maxLen]) (fun t ht => ?_) ?_) ((Below.refl _ _).alloc (Nat.le_refl _) _)
                      · simp only [List.mem_cons, List.not_mem_nil, or_false] at ht
                        rcases ht with rfl | rfl
                        · exact T22
                        · exact T23
                      · first | (simp only [treeL, t22, t23]; done) | (simp only [treeL, t22, t23]; rfl)
                    · simp only [List.getElem?_toArray, List.getElem?_cons_zero, List.getElem?_cons_succ, Option.some.injEq] at ho
                      subst ho
                      rw [if_pos (by rfl)]
                      simp only [put_some, List.setIfInBounds_toArray, List.set_cons_zero, List.set_cons_succ] at hK
                      have h24 : RowV [atomT [97], zeroRT] (vs 24) W := he ⟨24, .data⟩ (by simp) rfl
                      obtain ⟨g24, l24, e24, t24, T24⟩ := h24
                      rw [e24] at hK ⊢
                      have HK := Lib.hid hK
                      clear hK he hi hBW
                      go_simp
                      exact HK.out _ _ (TreeV.row zeroT_wf t24 T24) (Below.refl _ _)
                    · simp only [List.getElem?_toArray, List.getElem?_cons_zero, List.getElem?_cons_succ, Option.some.injEq] at ho
                      subst ho
                      rw [if_pos (by rfl)]
                      simp only [put_some, List.setIfInBounds_toArray, List.set_cons_zero, List.set_cons_succ] at hK
                      have h0 : TreeV (zeroRT) (vs 0) W := he ⟨0, .data⟩ (by simp) rfl
                      obtain ⟨r0, e0, t0, T0⟩ := h0
                      unfold RV.val at e0
                      rw [e0] at hK ⊢
                      have h1 : TreeV (.mk 8 zeroT []) (vs 1) W := he ⟨1, .data⟩ (by simp) rfl
                      obtain ⟨r1, e1, t1, T1⟩ := h1
                      unfold RV.val at e1
                      rw [e1] at hK ⊢
                      have h2 : TreeV (.mk 1 zeroT []) (vs 2) W := he ⟨2, .data⟩ (by simp) rfl
                      obtain ⟨r2, e2, t2, T2⟩ := h2
                      unfold RV.val at e2
                      rw [e2] at hK ⊢
                      have h5 : TreeV (.mk 2 zeroT [atomT [97]]) (vs 5) W := he ⟨5, .data⟩ (by simp) rfl
                      obtain ⟨r5, e5, t5, T5⟩ := h5
                      unfold RV.val at e5
                      rw [e5] at hK ⊢
                      have h10 : TreeV (.mk 7 zeroT [atomT [97], atomT [98], atomT [99]]) (vs 10) W := he ⟨10, .data⟩ (by simp) rfl
                      obtain ⟨r10, e10, t10, T10⟩ := h10
                      unfold RV.val at e10
                      rw [e10] at hK ⊢
                      have h12 : TreeV (.mk 4 zeroT [zeroRT, zeroRT, zeroRT, zeroRT]) (vs 12) W := he ⟨12, .data⟩ (by simp) rfl
                      obtain ⟨r12, e12, t12, T12⟩ := h12
                      unfold RV.val at e12
                      rw [e12] at hK ⊢
                      have h17 : TreeV (.mk 3 ⟨[97], 0, zeroE⟩ [atomT [97], atomT [98]]) (vs 17) W := he ⟨17, .data⟩ (by simp) rfl
                      obtain ⟨r17, e17, t17, T17⟩ := h17
                      unfold RV.val at e17
                      rw [e17] at hK ⊢
                      have h21 : TreeV (.mk 1 ⟨[97], 0, zeroE⟩ [atomT [98]]) (vs 21) W := he ⟨21, .data⟩ (by simp) rfl
                      obtain ⟨r21, e21, t21, T21⟩ := h21
                      unfold RV.val at e21
                      rw [e21] at hK ⊢
                      have h25 : TreeV (.mk 3 zeroT [atomT [97], zeroRT]) (vs 25) W := he ⟨25, .data⟩ (by simp) rfl
                      obtain ⟨r25, e25, t25, T25⟩ := h25
                      unfold RV.val at e25
                      rw [e25] at hK ⊢
                      have HK := Lib.hid hK
                      clear hK he hi hBW
                      go_simp
                      refine HK.out _ _ (RowV.new (l := [r0, r1, r2, r5, r10, r12, r17, r21, r25]) rfl (by simp [maxLen]) (fun t ht => ?_) ?_) ((Below.refl _ _).alloc (Nat.le_refl _) _)
                      · simp only [List.mem_cons, List.not_mem_nil, or_false] at ht
                        rcases ht with rfl | rfl | rfl | rfl | rfl | rfl | rfl | rfl | rfl
                        · exact T0
                        · exact T1
                        · exact T2
                        · exact T5
                        · exact T10
                        · exact T12
                        · exact T17
                        · exact T21
                        · exact T25
                      · first | (simp only [treeL, t0, t1, t2, t5, t10, t12, t17, t21, t25]; done) | (simp only [treeL, t0, t1, t2, t5, t10, t12, t17, t21, t25]; rfl)
                    · simp only [List.getElem?_toArray, List.getElem?_cons_zero, List.getElem?_cons_succ, Option.some.injEq] at ho
                      subst ho
                      rw [if_pos (by rfl)]
                      simp only [put_some, List.setIfInBounds_toArray, List.set_cons_zero, List.set_cons_succ] at hK
                      have h26 : RowV badT (vs 26) W := he ⟨26, .data⟩ (by simp) rfl
                      have HK := Lib.hid hK
                      clear hK he hi hBW
                      go_simp
                      exact HK.out _ _ h26 (Below.refl _ _)
                  · intro vs wz hall hBz
                    have h27 : RowV badT (vs 27) wz := hall 27 (by decide)
                    obtain ⟨g, l, hv, ht, hr⟩ := h27
                    have hl9 : l.length = 9 := by
                      have := congrArg List.length ht
                      rw [treeL_len] at this
                      exact this
                    simp only [fillV, put_some, List.setIfInBounds_toArray, List.set_cons_zero, List.set_cons_succ, Nat.zero_add, Nat.reduceAdd]
                    rw [hv, hl9]
                    rw [hl9] at hr
                    have HR := Lib.hid hr
                    have BZ := Lib.hid (BW3.out.trans (hBz.mono BW3.out.size))
                    have HTT := Lib.hid ht
                    have HL9 := Lib.hid hl9
                    clear hall hBz hv hr ht hl9 BW BW0 BW1 BW2 BW3
                    go_wp2_with fail
                    go_loopw [30] (fun iv wt => ∃ k : Nat, k ≤ 9 ∧ iv = .int .i64 (k : Int) ∧ RRow wt.heap.size wt (some ⟨g, 0, none⟩) 9 l ∧ Below w.heap.size w wt) (fun iv _ => 9 - (intOf iv).toNat)
                    case atStart => exact ⟨0, by omega, rfl, HR.out, BZ.out⟩
                    case round =>
                      obtain ⟨k, hk, rfl, hR, hB⟩ := hrel
                      rename World => wx
                      have HR := Lib.hid hR
                      have BX := Lib.hid hB
                      clear hR hB
                      by_cases hlt : k < 9
                      · have hkl : k < l.length := by rw [HL9.out]; exact hlt
                        have hkt : k < badT.length := hlt
                        have hx : l[k].tree = badT[k] := by
                          have h1 := treeL_get l k hkl
                          rw [← h1]
                          exact List.getElem_of_eq HTT.out (by rw [treeL_len]; exact hkl)
                        obtain ⟨hw0, hp0⟩ := badT_no _ (List.getElem_mem hkt)
                        rw [← hx] at hw0 hp0
                        have HX := Lib.hid (fun W (h : RRow W.heap.size W (some ⟨g, 0, none⟩) 9 l) => row_at h hkl)
                        have HS := Lib.hid (fun W (h : RRow W.heap.size W (some ⟨g, 0, none⟩) 9 l) (hb : Below w.heap.size w W) => bad_show l[k] hw0 (by omega) W (h.2 _ (List.getElem_mem hkl)) (HI.out.below hb))
                        have HW := Lib.hid (fun W (h : RRow W.heap.size W (some ⟨g, 0, none⟩) 9 l) (hb : Below w.heap.size w W) => bad_words l[k] hw0 (by omega) W (h.2 _ (List.getElem_mem hkl)) (HI.out.below hb))
                        have HV := Lib.hid (fun W (h : RRow W.heap.size W (some ⟨g, 0, none⟩) 9 l) (hb : Below w.heap.size w W) => bad_whole l[k] hw0 (by omega) W (h.2 _ (List.getElem_mem hkl)) (HI.out.below hb))
                        clear hx hw0 hp0 hkt
                        unfold RV.val at HS HW HV
                        generalize l[k] = x at *
                        clear hkl
                        have i0 : (0 : Int) ≤ (k : Int) := by omega
                        have i1 : (k : Int) < 9 := by omega
                        obtain ⟨e0, e1, e2, e3, e4, e5, e6⟩ := HX.out _ HR.out
                        go_wp2_with fail
                        go_at_call 8
                        refine (HS.out _ HR.out BX.out).mono ?_
                        rintro en z0 ⟨rfl, hb⟩
                        have HR0 := Lib.hid ((HR.out.below hb).more hb.size)
                        have BX0 := Lib.hid (BX.out.trans (hb.mono BX.out.size))
                        clear hb e0 e1 e2 e3 e4 e5 e6 HS
                        obtain ⟨e0, e1, e2, e3, e4, e5, e6⟩ := HX.out _ HR0.out
                        go_wp2_with fail
                        go_at_call 10
                        refine (HW.out _ HR0.out BX0.out).mono ?_
                        rintro en z1 ⟨rfl, hb⟩
                        have HR1 := Lib.hid ((HR0.out.below hb).more hb.size)
                        have BX1 := Lib.hid (BX0.out.trans (hb.mono BX0.out.size))
                        clear hb e0 e1 e2 e3 e4 e5 e6 HW
                        obtain ⟨e0, e1, e2, e3, e4, e5, e6⟩ := HX.out _ HR1.out
                        go_wp2_with fail
                        go_at_call 11
                        refine (HV.out _ HR1.out BX1.out).mono ?_
                        rintro en z2 ⟨rfl, hb⟩
                        have HR2 := Lib.hid ((HR1.out.below hb).more hb.size)
                        have BX2 := Lib.hid (BX1.out.trans (hb.mono BX1.out.size))
                        clear hb e0 e1 e2 e3 e4 e5 e6 HV
                        go_wp2_with fail
                        go_roundw
                        case rel => exact ⟨k + 1, by omega, by go_num, HR2.out, BX2.out⟩
                        case measure => simp [intOf]; omega
                      · obtain rfl : k = 9 := by omega
                        clear hlt hk HR
                        go_wp2_with fail
                        go_at_call 12
                        refine (rawake _ (HI.out.below BX.out)).mono ?_
                        rintro en z9 ⟨rfl, hb⟩
                        have B9 := Lib.hid (BX.out.trans (hb.mono BX.out.size))
                        clear hb
                        go_wp2_with fail
                        go_ret
                        exact ⟨rfl, B9.out⟩
end Go.Proofs.YtpnnhhgojijlbaaDoor
