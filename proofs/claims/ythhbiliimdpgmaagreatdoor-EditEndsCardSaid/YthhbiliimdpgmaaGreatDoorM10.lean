/- Walk: ops.bare of a right text. -/
import Derived.Test.YthhbiliimdpgmaaGreatDoorM09
import Derived.Test.YthhbiliimdpgmaaGreatDoorM02
import Derived.Test.YthhbiliimdpgmaaGreatDoorM06
namespace Go.Proofs.YthhbiliimdpgmaaGreatDoor
open Go.RowKit Go.Lib

/-- a text. -/
def tOp (i l r : QId) (t : ByteArray) : QOp := ⟨i, 1, 0, l, r, t, valZero, ⟨#[]⟩, idZero, idZero, false, idZero, false⟩
/-- may it be a text? -/
def okT (t : ByteArray) : Bool := okB t && decide (0 < t.size) && decide ((runesB t).length ≤ 4096)
theorem okT_iff {t : ByteArray} (h : okT t = true) : okB t = true ∧ 0 < t.size ∧ (runesB t).length ≤ 4096 := by
  simp only [okT, Bool.and_eq_true, decide_eq_true_eq] at h
  exact ⟨h.1.1, h.1.2, h.2⟩
theorem OpBox.setText {w : World} {b : Nat} {o : QOp} (h : OpBox w b o) (t : ByteArray) : OpBox (w.setCell ⟨b, 8, none⟩ (.string t)) b { o with text := t } := by
  unfold OpBox at *
  simp [World.setCell, Array.getElem?_modify, h, encOp]
theorem OpBox.setL {w : World} {b : Nat} {o : QOp} (h : OpBox w b o) (i : QId) : OpBox ((w.setCell ⟨b, 4, none⟩ (.int .u64 i.c)).setCell ⟨b, 5, none⟩ (.int .u64 i.k)) b { o with left := i } := by
  unfold OpBox at *
  simp [World.setCell, Array.getElem?_modify, h, encOp]
theorem OpBox.setR {w : World} {b : Nat} {o : QOp} (h : OpBox w b o) (i : QId) : OpBox ((w.setCell ⟨b, 6, none⟩ (.int .u64 i.c)).setCell ⟨b, 7, none⟩ (.int .u64 i.k)) b { o with right := i } := by
  unfold OpBox at *
  simp [World.setCell, Array.getElem?_modify, h, encOp]
set_option maxRecDepth 100000 in
set_option maxHeartbeats 4000000 in
theorem bare_t (i l r : QId) (t : ByteArray) (w : World) (ht : okT t = true) (hs : t.size < 9223372036854775807) (hT : Tabs w) :
    Calls Tryz.prog 55 #[opV (tOp i l r t)] w fun e w' => e = .returned (.tuple #[opV (tOp i l r t), .bool true]) ∧ Below w.heap.size w w' := by
  obtain ⟨h1, h2, h3⟩ := okT_iff ht
  have hv := utfCheck_any t
  rw [h1] at hv
  have hl := utfLen_any t
  generalize (runesB t).length = N at hl h3
  have h3z : decide ((N : Int) ≤ 4096) = true := by simp; omega
  clear ht h1
  change Calls Tryz.prog 55 #[.agg #[.int .u64 i.c, .int .u64 i.k, .int .i64 1, .int .u64 0, .int .u64 l.c, .int .u64 l.k, .int .u64 r.c, .int .u64 r.k, .string t, .int .i64 0, .int .i64 0, .float .f64 0, .string ⟨#[]⟩, .string ⟨#[]⟩, .int .u64 0, .int .u64 0, .int .u64 0, .int .u64 0, .bool false, .int .u64 0, .int .u64 0, .bool false]] w _
  go_enter Tryz.func55, Tryz.ntmps55
  go_upto_region 1 with fail
  obtain ⟨W, hW⟩ : ∃ W, (w.alloc (.cells (encOp (tOp i l r t)).toArray 35)).alloc (.cells (encOp opZero).toArray 35) = W := ⟨_, rfl⟩
  have hB : Below w.heap.size w W := by rw [← hW]; exact ((Below.refl _ _).alloc (Nat.le_refl _) _).alloc (by simp) _
  have hbx : OpBox W w.heap.size (tOp i l r t) := by rw [← hW]; exact (OpBox.new w (tOp i l r t)).below ((Below.refl _ _).alloc (Nat.le_refl _) _) (by simp)
  have hby : OpBox W (w.heap.size + 1) opZero := by rw [← hW]; have := OpBox.new (w.alloc (.cells (encOp (tOp i l r t)).toArray 35)) opZero; rwa [World.size_alloc] at this
  change Code.wp _ _ _ _ ((w.alloc (.cells (encOp (tOp i l r t)).toArray 35)).alloc (.cells (encOp opZero).toArray 35))
  rw [hW]
  clear hW
  have hz0 : w.heap.size < W.heap.size := hbx.lt
  have hz1 : w.heap.size + 1 < W.heap.size := hby.lt
  have q0 : W.cell? ⟨w.heap.size, 0, none⟩ = some (.int .u64 i.c) := hbx.cells 0 _ rfl
  have q1 : W.cell? ⟨w.heap.size, 1, none⟩ = some (.int .u64 i.k) := hbx.cells 1 _ rfl
  have q2 : W.cell? ⟨w.heap.size, 2, none⟩ = some (.int .i64 1) := hbx.cells 2 _ rfl
  have q3 : W.cell? ⟨w.heap.size, 3, none⟩ = some (.int .u64 0) := hbx.cells 3 _ rfl
  have q4 : W.cell? ⟨w.heap.size, 4, none⟩ = some (.int .u64 l.c) := hbx.cells 4 _ rfl
  have q5 : W.cell? ⟨w.heap.size, 5, none⟩ = some (.int .u64 l.k) := hbx.cells 5 _ rfl
  have q6 : W.cell? ⟨w.heap.size, 6, none⟩ = some (.int .u64 r.c) := hbx.cells 6 _ rfl
  have q7 : W.cell? ⟨w.heap.size, 7, none⟩ = some (.int .u64 r.k) := hbx.cells 7 _ rfl
  have q8 : W.cell? ⟨w.heap.size, 8, none⟩ = some (.string t) := hbx.cells 8 _ rfl
  have q9 : W.cell? ⟨w.heap.size, 9, none⟩ = some (.int .i64 0) := hbx.cells 9 _ rfl
  have q10 : W.cell? ⟨w.heap.size, 10, none⟩ = some (.int .i64 0) := hbx.cells 10 _ rfl
  have q11 : W.cell? ⟨w.heap.size, 11, none⟩ = some (.float .f64 0) := hbx.cells 11 _ rfl
  have q12 : W.cell? ⟨w.heap.size, 12, none⟩ = some (.string ⟨#[]⟩) := hbx.cells 12 _ rfl
  have q13 : W.cell? ⟨w.heap.size, 13, none⟩ = some (.string ⟨#[]⟩) := hbx.cells 13 _ rfl
  have q14 : W.cell? ⟨w.heap.size, 14, none⟩ = some (.int .u64 0) := hbx.cells 14 _ rfl
  have q15 : W.cell? ⟨w.heap.size, 15, none⟩ = some (.int .u64 0) := hbx.cells 15 _ rfl
  have q16 : W.cell? ⟨w.heap.size, 16, none⟩ = some (.int .u64 0) := hbx.cells 16 _ rfl
  have q17 : W.cell? ⟨w.heap.size, 17, none⟩ = some (.int .u64 0) := hbx.cells 17 _ rfl
  have q18 : W.cell? ⟨w.heap.size, 18, none⟩ = some (.bool false) := hbx.cells 18 _ rfl
  have q19 : W.cell? ⟨w.heap.size, 19, none⟩ = some (.int .u64 0) := hbx.cells 19 _ rfl
  have q20 : W.cell? ⟨w.heap.size, 20, none⟩ = some (.int .u64 0) := hbx.cells 20 _ rfl
  have q21 : W.cell? ⟨w.heap.size, 21, none⟩ = some (.bool false) := hbx.cells 21 _ rfl
  have bz := OpBox.new W opZero
  have hb3 : Below W.heap.size W (putOp (W.alloc (.cells (encOp opZero).toArray 35)) W.heap.size { opZero with id := i, kind := 1 }) := below_putOp ((Below.refl _ _).alloc (Nat.le_refl _) _) (Nat.le_refl _) _
  have hbn := bz.put { opZero with id := i, kind := 1 }
  have Hb3 := Lib.hid hb3
  have Hbn := Lib.hid hbn
  clear hb3 hbn
  go_upto_region 2 with (refine wpList_store_eq (T := 35) (v := opV { opZero with id := i, kind := 1 }) rfl rfl rfl rfl (OpBox.store bz { opZero with id := i, kind := 1 }) ?_)
  have hb3 := Hb3.out
  have hbn := Hbn.out
  obtain ⟨W3, hW3⟩ : ∃ W3, putOp (W.alloc (.cells (encOp opZero).toArray 35)) W.heap.size { opZero with id := i, kind := 1 } = W3 := ⟨_, rfl⟩
  rw [hW3] at hb3 hbn ⊢
  clear hW3 Hb3 Hbn bz q0 q1 q2 q3 q4 q5 q6 q7 q8 q9 q10 q11 q12 q13 q14 q15 q16 q17 q18 q19 q20 q21
  have hbx3 := hbx.below hb3 hz0
  have hby3 := hby.below hb3 hz1
  obtain ⟨X, hX⟩ : ∃ X, W.heap.size = X := ⟨_, rfl⟩
  have hB3 := belowTrans hB hb3
  have hwX : w.heap.size + 1 < X := by omega
  rw [hX] at hbn ⊢
  clear hX hb3 hbx hby hB hz0 hz1
  have q0 : W3.cell? ⟨w.heap.size, 0, none⟩ = some (.int .u64 i.c) := hbx3.cells 0 _ rfl
  have q1 : W3.cell? ⟨w.heap.size, 1, none⟩ = some (.int .u64 i.k) := hbx3.cells 1 _ rfl
  have q2 : W3.cell? ⟨w.heap.size, 2, none⟩ = some (.int .i64 1) := hbx3.cells 2 _ rfl
  have q3 : W3.cell? ⟨w.heap.size, 3, none⟩ = some (.int .u64 0) := hbx3.cells 3 _ rfl
  have q4 : W3.cell? ⟨w.heap.size, 4, none⟩ = some (.int .u64 l.c) := hbx3.cells 4 _ rfl
  have q5 : W3.cell? ⟨w.heap.size, 5, none⟩ = some (.int .u64 l.k) := hbx3.cells 5 _ rfl
  have q6 : W3.cell? ⟨w.heap.size, 6, none⟩ = some (.int .u64 r.c) := hbx3.cells 6 _ rfl
  have q7 : W3.cell? ⟨w.heap.size, 7, none⟩ = some (.int .u64 r.k) := hbx3.cells 7 _ rfl
  have q8 : W3.cell? ⟨w.heap.size, 8, none⟩ = some (.string t) := hbx3.cells 8 _ rfl
  have q9 : W3.cell? ⟨w.heap.size, 9, none⟩ = some (.int .i64 0) := hbx3.cells 9 _ rfl
  have q10 : W3.cell? ⟨w.heap.size, 10, none⟩ = some (.int .i64 0) := hbx3.cells 10 _ rfl
  have q11 : W3.cell? ⟨w.heap.size, 11, none⟩ = some (.float .f64 0) := hbx3.cells 11 _ rfl
  have q12 : W3.cell? ⟨w.heap.size, 12, none⟩ = some (.string ⟨#[]⟩) := hbx3.cells 12 _ rfl
  have q13 : W3.cell? ⟨w.heap.size, 13, none⟩ = some (.string ⟨#[]⟩) := hbx3.cells 13 _ rfl
  have q14 : W3.cell? ⟨w.heap.size, 14, none⟩ = some (.int .u64 0) := hbx3.cells 14 _ rfl
  have q15 : W3.cell? ⟨w.heap.size, 15, none⟩ = some (.int .u64 0) := hbx3.cells 15 _ rfl
  have q16 : W3.cell? ⟨w.heap.size, 16, none⟩ = some (.int .u64 0) := hbx3.cells 16 _ rfl
  have q17 : W3.cell? ⟨w.heap.size, 17, none⟩ = some (.int .u64 0) := hbx3.cells 17 _ rfl
  have q18 : W3.cell? ⟨w.heap.size, 18, none⟩ = some (.bool false) := hbx3.cells 18 _ rfl
  have q19 : W3.cell? ⟨w.heap.size, 19, none⟩ = some (.int .u64 0) := hbx3.cells 19 _ rfl
  have q20 : W3.cell? ⟨w.heap.size, 20, none⟩ = some (.int .u64 0) := hbx3.cells 20 _ rfl
  have q21 : W3.cell? ⟨w.heap.size, 21, none⟩ = some (.bool false) := hbx3.cells 21 _ rfl
  have hX3 : X < W3.heap.size := hbn.lt
  have x8 : W3.cell? ⟨X, 8, none⟩ = some (.string ⟨#[]⟩) := hbn.cells 8 _ rfl
  have xf8 := hbn.f 8
  go_upto_region 9 with fail
  have hbn4 := hbn.setText t
  have hB4 := hB3.setCell (p := ⟨X, 8, none⟩) (by show w.heap.size ≤ X; omega) (.string t)
  have hbx4 : OpBox (W3.setCell ⟨X, 8, none⟩ (.string t)) w.heap.size (tOp i l r t) := (Below.heap_setCell _ _ _ _ (by show ¬ w.heap.size = X; omega)).trans hbx3
  have hby4 : OpBox (W3.setCell ⟨X, 8, none⟩ (.string t)) (w.heap.size + 1) opZero := (Below.heap_setCell _ _ _ _ (by show ¬ w.heap.size + 1 = X; omega)).trans hby3
  obtain ⟨W4, hW4⟩ : ∃ W4, W3.setCell ⟨X, 8, none⟩ (.string t) = W4 := ⟨_, rfl⟩
  rw [hW4] at hbn4 hB4 hbx4 hby4 ⊢
  clear hW4 hbn hB3 hbx3 hby3 hX3 x8 xf8 q0 q1 q2 q3 q4 q5 q6 q7 q8 q9 q10 q11 q12 q13 q14 q15 q16 q17 q18 q19 q20 q21
  clear W3
  have q8 : W4.cell? ⟨w.heap.size, 8, none⟩ = some (.string t) := hbx4.cells 8 _ rfl
  have hx4 := hbx4.lt
  have hy4 := hby4.lt
  have hn4 := hbn4.lt
  have htn : t.toList.isEmpty = false := by
    rw [Lib.toList_data, List.isEmpty_eq_false_iff]
    exact nonempty_bytes h2
  go_upto_region 10 with (first | (go_at_call 44; refine (hv _ (by omega) (hT.below hB4)).mono ?_; rintro e w5 ⟨rfl, hb5⟩; obtain ⟨hc5, hf5⟩ := bcell hb5) | (go_at_call 45; refine (hl _ hs ((hT.below hB4).below hb5)).mono ?_; rintro e w6 ⟨rfl, hb6⟩))
  have hb46 := belowTrans hb5 hb6
  have hB6 := belowTrans hB4 hb46
  have hbx6 := hbx4.below hb46 hx4
  have hby6 := hby4.below hb46 hy4
  have hbn6 := hbn4.below hb46 hn4
  clear hb5 hb6 hc5 hf5 hb46 hB4 hbx4 hby4 hbn4 q8 hx4 hy4 hn4 htn hv hl
  have hx6 := hbx6.lt
  have hy6 := hby6.lt
  have hn6 := hbn6.lt
  have hXw : w.heap.size ≠ X := by omega
  have q4 : ∀ s : MStep (fun b => b = X) w6, s.val.cell? ⟨w.heap.size, 4, none⟩ = some (.int .u64 l.c) := MStep.cell hx6 hXw (hbx6.cells 4 _ rfl)
  have q5 : ∀ s : MStep (fun b => b = X) w6, s.val.cell? ⟨w.heap.size, 5, none⟩ = some (.int .u64 l.k) := MStep.cell hx6 hXw (hbx6.cells 5 _ rfl)
  have q6 : ∀ s : MStep (fun b => b = X) w6, s.val.cell? ⟨w.heap.size, 6, none⟩ = some (.int .u64 r.c) := MStep.cell hx6 hXw (hbx6.cells 6 _ rfl)
  have q7 : ∀ s : MStep (fun b => b = X) w6, s.val.cell? ⟨w.heap.size, 7, none⟩ = some (.int .u64 r.k) := MStep.cell hx6 hXw (hbx6.cells 7 _ rfl)
  refine wp_region_flow3 6 [0, 1, 2, 3, 4] [5, 6, 7] (fun w' => ∃ s : MStep (fun b => b = X) w6, w' = s.val) (by kernel_rfl) (by kernel_rfl) (fun _ _ d _ _ h => by cases d <;> exact h) (MStep.to (Mods.refl _ _).drew) ?_
  simp only [List.map_cons, List.map_nil, List.getElem?_cons_succ, List.getElem?_cons_zero, Option.getD_some]
  repeat (first | go_big_quiet_skip | (go_big_quiet_want; first | (fail; go_frame; go_big_quiet_on) | (go_big_quiet_op; go_big_quiet_on)))
  refine wpQuiet_nil ?_
  have x4 : w6.cell? ⟨X, 4, none⟩ = some (.int .u64 0) := hbn6.cells 4 _ rfl
  have x5 : w6.cell? ⟨X, 5, none⟩ = some (.int .u64 0) := hbn6.cells 5 _ rfl
  have x6 : w6.cell? ⟨X, 6, none⟩ = some (.int .u64 0) := hbn6.cells 6 _ rfl
  have x7 : w6.cell? ⟨X, 7, none⟩ = some (.int .u64 0) := hbn6.cells 7 _ rfl
  have f4 := hbn6.f 4
  have f5 := hbn6.f 5
  have f6 := hbn6.f 6
  have f7 := hbn6.f 7
  refine wpSeqF_step rfl ?_; simp only [List.getElem_toArray, List.getElem_cons_succ, List.getElem_cons_zero]
  go_wp2_with fail
  have hm7 : Mods (fun b => b = X) w6 ((w6.drew.setCell ⟨X, 4, none⟩ (.int .u64 l.c)).setCell ⟨X, 5, none⟩ (.int .u64 l.k)) := ⟨rfl, rfl, rfl, by simp, fun b _ hne => (Below.heap_setCell _ _ _ _ hne).trans (Below.heap_setCell _ _ _ _ hne)⟩
  refine ⟨MStep.to hm7, ?_⟩
  refine wpSeqF_step rfl ?_; simp only [List.getElem_toArray, List.getElem_cons_succ, List.getElem_cons_zero]
  go_wp2_with fail
  refine wpSeqF_step rfl ?_; simp only [List.getElem_toArray, List.getElem_cons_succ, List.getElem_cons_zero]
  go_wp2_with fail
  refine wpSeqF_nil ?_
  have hbn7 : OpBox ((((w6.setCell ⟨X, 4, none⟩ (.int .u64 l.c)).setCell ⟨X, 5, none⟩ (.int .u64 l.k)).setCell ⟨X, 6, none⟩ (.int .u64 r.c)).setCell ⟨X, 7, none⟩ (.int .u64 r.k)).drew X (tOp i l r t) := (hbn6.setL l).setR r
  have hm8 : Mods (fun b => b = X) w6 ((((w6.setCell ⟨X, 4, none⟩ (.int .u64 l.c)).setCell ⟨X, 5, none⟩ (.int .u64 l.k)).setCell ⟨X, 6, none⟩ (.int .u64 r.c)).setCell ⟨X, 7, none⟩ (.int .u64 r.k)).drew := ⟨rfl, rfl, rfl, by simp, fun b _ hne => (((Below.heap_setCell _ _ _ _ hne).trans (Below.heap_setCell _ _ _ _ hne)).trans (Below.heap_setCell _ _ _ _ hne)).trans (Below.heap_setCell _ _ _ _ hne)⟩
  obtain ⟨W7, hW7⟩ : ∃ W7, ((((w6.setCell ⟨X, 4, none⟩ (.int .u64 l.c)).setCell ⟨X, 5, none⟩ (.int .u64 l.k)).setCell ⟨X, 6, none⟩ (.int .u64 r.c)).setCell ⟨X, 7, none⟩ (.int .u64 r.k)).drew = W7 := ⟨_, rfl⟩
  rw [hW7] at hbn7 hm8 ⊢
  have hby7 : OpBox W7 (w.heap.size + 1) opZero := (hm8.block _ hy6 (by omega)).trans hby6
  have hB7 : Below w.heap.size w W7 := hB6.trans ⟨hm8.os, hm8.tape, hm8.output, hm8.size, fun k hk => hm8.block k (Nat.lt_of_lt_of_le hk hB6.size) (by omega)⟩
  have hput := hby7.put (tOp i l r t)
  have hres := Lib.hid hput.load
  clear hput hW7 hm8 hm7 q4 q5 q6 q7 x4 x5 x6 x7 f4 f5 f6 f7 hbx6 hby6 hbn6 hx6 hy6 hn6
  go_wp2_with (first | (refine wpList_load_eq (T := 35) (v := opV (tOp i l r t)) rfl rfl rfl hbn7.load ?_) | (refine wpList_store_eq (T := 35) (v := opV (tOp i l r t)) rfl rfl rfl rfl (OpBox.store hby7 (tOp i l r t)) ?_))
  refine bodyPost_ret (v := .tuple #[opV (tOp i l r t), .bool true]) ?_ rfl ⟨rfl, below_putOp hB7 (by omega) _⟩
  have h9 := hres.out
  simp [results, Tryz.results55, asAddr, Act.put, h9]
end Go.Proofs.YthhbiliimdpgmaaGreatDoor
/- Walk: ops.Check of a right text. -/
namespace Go.Proofs.YthhbiliimdpgmaaGreatDoor
open Go.RowKit Go.Lib Go.Shelf

def badB (own : QRng) (x : QId) : Bool := !x.namedB || hasRngs [own] x
/-- the box of a range. -/
def RngBox (w : World) (b : Nat) (r : QRng) : Prop := w.heap[b]? = some (.cells (encRng r).toArray 95 (0, 0))
theorem RngBox.lt {w : World} {b : Nat} {r : QRng} (h : RngBox w b r) : b < w.heap.size := (Array.getElem?_eq_some_iff.1 h).1
theorem RngBox.cells {w : World} {b : Nat} {r : QRng} (h : RngBox w b r) : w.cell? ⟨b, 0, none⟩ = some (.int .u64 r.c) ∧ w.cell? ⟨b, 1, none⟩ = some (.int .u64 r.a) ∧ w.cell? ⟨b, 2, none⟩ = some (.int .u64 r.b) := by
  unfold RngBox at h
  simp [World.cell?, h, encRng]
theorem RngBox.below {n : Nat} {w w' : World} {b : Nat} {r : QRng} (h : RngBox w b r) (hb : Below n w w') (hn : b < n) : RngBox w' b r := (hb.block b hn).trans h
theorem rng_one (W : World) (r : QRng) : SliceAt 3 encRng (W.alloc (.cells #[.int .u64 r.c, .int .u64 r.a, .int .u64 r.b] 95)) (.slice (some ⟨W.heap.size, 0, none⟩) 1 1) [r] := by
  refine .inr ⟨W.heap.size, 0, 1, rfl, by simp, by simp, fun j x hj i y hi => ?_⟩
  have hj0 : j = 0 := by have := (List.getElem?_eq_some_iff.1 hj).1; simp at this; omega
  subst hj0
  obtain rfl : r = x := by simpa using hj
  rw [World.cell?, heap_alloc_new]
  simpa [encRng] using hi
set_option maxHeartbeats 1000000 in
theorem check1_any (x : QId) (own : QRng) (b : Nat) (w : World) (hb : RngBox w b own) :
    Calls Tryz.prog 58 #[.agg #[.int .u64 x.c, .int .u64 x.k], .pointer (some ⟨b, 0, none⟩)] w fun e w' => e = .returned (.bool (badB own x)) ∧ Below w.heap.size w w' := by
  have hi := opsId_any x
  unfold badB
  obtain ⟨c0, c1, c2⟩ := hb.cells
  have hbl := hb.lt
  cases hn : x.namedB
  · rw [hn] at hi
    rw [Bool.not_false, Bool.true_or]
    clear hn
    go_enter Tryz.func58, Tryz.ntmps58
    go_wp2_with fail
    refine (hi _).mono ?_
    rintro e w1 ⟨rfl, hb1⟩
    go_wp2_with fail
    go_ret
    exact ⟨rfl, belowTrans ((Below.refl _ _).alloc (Nat.le_refl _) _) hb1⟩
  · rw [hn] at hi
    rw [Bool.not_true, Bool.false_or]
    have hh := idsHas_any x
    generalize hA : hasRngs [own] x = ans
    have HA := Lib.hid hA
    clear hn hA
    go_enter Tryz.func58, Tryz.ntmps58
    go_wp2_with fail
    refine (hi _).mono ?_
    rintro e w1 ⟨rfl, hb1⟩
    obtain ⟨hc1, hf1⟩ := bcell hb1
    have hz1 : w.heap.size < w1.heap.size := by have := hb1.size; simp at this; omega
    have hbw : Below w.heap.size w w1 := belowTrans ((Below.refl _ _).alloc (Nat.le_refl _) _) hb1
    go_wp2_with fail
    refine Calls.mono (hh _ [own] _ (rng_one _ own)) ?_
    rintro e w2 ⟨rfl, hb2⟩
    rw [HA.out]
    go_wp2_with fail
    go_ret
    exact ⟨rfl, hbw.trans ((((Below.refl _ _).alloc (Nat.le_refl _) _).trans (hb2.mono (by simp))).mono hbw.size)⟩
theorem bad_below (own : QRng) (b : Nat) (w : World) (h : RngBox w b own) : PredBelow Tryz.prog 58 #[.pointer (some ⟨b, 0, none⟩)] (fun x => .agg (encIdv x).toArray) (badB own) w := by
  intro W x hW
  refine (check1_any x own b W (h.below hW h.lt)).mono ?_
  exact fun e w' ⟨he, hb'⟩ => ⟨he, hW.trans (hb'.mono hW.size)⟩
theorem containsId_any (own : QRng) (b bb : Nat) (l : List QId) (w : World) (h : RngBox w b own) (hl : w.heap[bb]? = some (.cells (l.flatMap encIdv).toArray 28 (0, 0))) (hn : l.length ≤ 1000) :
    Calls Tryz.prog 61 #[.slice (some ⟨bb, 0, none⟩) l.length l.length, .func (.func 58) #[] #[.pointer (some ⟨b, 0, none⟩)]] w fun e w' => e = .returned (.bool (l.any (badB own))) ∧ Below w.heap.size w w' := by
  have := AnyQ.slices_ContainsFunc Tryz.containsId 2 (fun w => by kernel_rfl) (fun w => by kernel_rfl) encIdv (fun _ => rfl) (badB own) 58 #[.pointer (some ⟨b, 0, none⟩)] (enters_of Tryz.func58 (by kernel_rfl) rfl) bb 0 l.length l.length l w (bad_below own b w h) (Nat.le_refl _) (by omega) (Array.getElem?_eq_some_iff.1 hl).1
    (fun j hj k v hv => by
      have hk : k < 2 := (List.getElem?_eq_some_iff.1 hv).1
      have h1 := flat_get (enc := encIdv) (k := 2) (fun _ => rfl) l j k l[j] (by simp) hk
      rw [World.cell?, hl]
      simp only [Option.isSome_none, Bool.false_eq_true, if_false, Nat.zero_add, List.getElem?_toArray]
      rw [h1]
      simpa [hj] using hv)
  rw [List.take_length] at this
  exact this

/-- a text's clocks. -/
def tRng (i : QId) (t : ByteArray) : QRng := ⟨i.c, i.k, i.k + (runesB t).length⟩
/-- a text that is an operation. -/
structure GoodT (i l r : QId) (t : ByteArray) : Prop where
  id : i.rightB = true
  ok : okT t = true
  fits : i.k + (runesB t).length - 1 ≤ 9007199254740991
  ln : l.namedB = true
  rn : r.namedB = true
  lo : hasRngs [tRng i t] l = false
  ro : hasRngs [tRng i t] r = false
theorem GoodT.names {i l r : QId} {t : ByteArray} (h : GoodT i l r t) : (tOp i l r t).names.any (badB (tRng i t)) = false := by
  have hz : badB (tRng i t) idZero = false := by simp [badB, QId.namedB, hasRngs, QId.rightB, numB, idZero]
  simp only [QOp.names, tOp, List.any_cons, List.any_nil, hz, Bool.or_false]
  simp [badB, h.ln, h.rn, h.lo, h.ro]
theorem tOp_len (i l r : QId) (t : ByteArray) : (tOp i l r t).len = (runesB t).length := by simp [QOp.len, tOp]
theorem tOp_rng (i l r : QId) (t : ByteArray) : (tOp i l r t).rng = tRng i t := by simp only [QOp.rng, tOp_len]; rfl
set_option maxRecDepth 100000 in
set_option maxHeartbeats 4000000 in
theorem opsCheck_t (i l r : QId) (t : ByteArray) (w : World) (hg : GoodT i l r t) (hs : t.size ≤ 1000000000000) (hT : Tabs w) :
    Calls Tryz.prog 30 #[opV (tOp i l r t)] w fun e w' => e = .returned (.int .i64 0) ∧ Below w.heap.size w w' := by
  have hbare := fun w hT => bare_t i l r t w hg.ok (by omega) hT
  have hsame := opsSame_self (tOp i l r t)
  have hright := right_any i
  rw [hg.id] at hright
  have hi0 : 1 ≤ i.k := by have := hg.id; simp [QId.rightB, numB] at this; omega
  have hfit := hg.fits
  have hrange := fun w hT => opsRange_any (tOp i l r t) w (by show t.size < _; omega) (by show 0 ≤ i.k; omega) (by rw [tOp_len]; show i.k + _ < _; omega) hT
  rw [tOp_rng] at hrange
  unfold tRng at hrange
  have hnames := opsNames_any (tOp i l r t)
  have hany := hg.names
  have hcont := fun b bb w h hl => containsId_any (tRng i t) b bb (tOp i l r t).names w h hl (by simp [QOp.names])
  rw [hany] at hcont
  have Hc := Lib.hid hcont
  clear hany hg hcont
  have hN0 : 0 ≤ ((runesB t).length : Int) := by omega
  unfold tRng at Hc
  generalize ((runesB t).length : Int) = N at hfit hrange Hc hN0
  change Calls Tryz.prog 30 #[.agg #[.int .u64 i.c, .int .u64 i.k, .int .i64 1, .int .u64 0, .int .u64 l.c, .int .u64 l.k, .int .u64 r.c, .int .u64 r.k, .string t, .int .i64 0, .int .i64 0, .float .f64 0, .string ⟨#[]⟩, .string ⟨#[]⟩, .int .u64 0, .int .u64 0, .int .u64 0, .int .u64 0, .bool false, .int .u64 0, .int .u64 0, .bool false]] w _
  go_enter Tryz.func30, Tryz.ntmps30
  go_upto_region 1 with fail
  obtain ⟨W, hW⟩ : ∃ W, w.alloc (.cells (encOp (tOp i l r t)).toArray 35) = W := ⟨_, rfl⟩
  have hB : Below w.heap.size w W := by rw [← hW]; exact (Below.refl _ _).alloc (Nat.le_refl _) _
  have hbx : OpBox W w.heap.size (tOp i l r t) := by rw [← hW]; exact OpBox.new _ _
  change Code.wp _ _ _ _ (w.alloc (.cells (encOp (tOp i l r t)).toArray 35))
  rw [hW]
  clear hW
  go_wp2_with (refine wpList_load_eq (T := 35) (v := opV (tOp i l r t)) rfl rfl rfl hbx.load ?_)
  refine (hbare _ (hT.below hB)).mono ?_
  rintro e w1 ⟨rfl, hb1⟩
  have hbx1 := hbx.below hb1 hbx.lt
  have hB1 := belowTrans hB hb1
  clear hbare hbx hb1 hB
  clear W
  have bz := OpBox.new w1 opZero
  have Hput := Lib.hid (bz.put (tOp i l r t))
  have HbP := Lib.hid (below_putOp ((Below.refl w1.heap.size w1).alloc (Nat.le_refl _) (.cells (encOp opZero).toArray 35)) (Nat.le_refl _) (tOp i l r t))
  go_upto_region 2 with (refine wpList_store_eq (T := 35) (v := opV (tOp i l r t)) rfl rfl rfl rfl (OpBox.store bz (tOp i l r t)) ?_)
  have hby := Hput.out
  have hb2 := HbP.out
  obtain ⟨w2, hw2⟩ : ∃ w2, putOp (w1.alloc (.cells (encOp opZero).toArray 35)) w1.heap.size (tOp i l r t) = w2 := ⟨_, rfl⟩
  rw [hw2] at hby hb2 ⊢
  have hbx2 := hbx1.below hb2 hbx1.lt
  have hB2 := belowTrans hB1 hb2
  clear hw2 Hput HbP bz hbx1 hB1
  go_wp2_with (first | (refine wpList_load_g 35 ⟨w1.heap.size, 0, none⟩ rfl rfl hby.load (by rfl) ?_) | (refine wpList_load_g 35 ⟨w.heap.size, 0, none⟩ rfl rfl hbx2.load (by rfl) ?_))
  refine (hsame _).mono ?_
  rintro e w3 ⟨rfl, hb3⟩
  have hbx3 := hbx2.below hb3 hbx2.lt
  have hB3 := belowTrans hB2 hb3
  have hx0 : w3.cell? ⟨w.heap.size, 0, none⟩ = some (.int .u64 i.c) := hbx3.cells 0 _ rfl
  have hx1 : w3.cell? ⟨w.heap.size, 1, none⟩ = some (.int .u64 i.k) := hbx3.cells 1 _ rfl
  clear hsame hbx2 hby hb2 hb3 hB2
  clear w2 
  go_wp2_with fail
  refine (hright _).mono ?_
  rintro e w4 ⟨rfl, hb4⟩
  have hbx4 := hbx3.below hb4 hbx3.lt
  have hB4 := belowTrans hB3 hb4
  clear hx0 hx1 hright hbx3 hB3 hb4
  clear w3
  go_wp2_with (refine wpList_load_eq (T := 35) (v := opV (tOp i l r t)) rfl rfl rfl hbx4.load ?_)
  refine (hrange _ (hT.below hB4)).mono ?_
  rintro e w5 ⟨rfl, hb5⟩
  have hbx5 := hbx4.below hb5 hbx4.lt
  have hB5 := belowTrans hB4 hb5
  clear hrange hbx4 hB4 hb5
  clear w4
  go_upto_region 5 with fail
  have hrb : RngBox (w5.alloc (.cells #[.int .u64 i.c, .int .u64 i.k, .int .u64 (i.k + N)] 95)) w5.heap.size ⟨i.c, i.k, i.k + N⟩ := heap_alloc_new w5 _
  have hb6 : Below w5.heap.size w5 (w5.alloc (.cells #[.int .u64 i.c, .int .u64 i.k, .int .u64 (i.k + N)] 95)) := (Below.refl _ _).alloc (Nat.le_refl _) _
  obtain ⟨w6, hw6⟩ : ∃ w6, w5.alloc (.cells #[.int .u64 i.c, .int .u64 i.k, .int .u64 (i.k + N)] 95) = w6 := ⟨_, rfl⟩
  rw [hw6] at hrb hb6 ⊢
  have hbx6 := hbx5.below hb6 hbx5.lt
  have hB6 := belowTrans hB5 hb6
  have r2 := hrb.cells.2.2
  clear hw6 hbx5 hB5 hb6
  go_wp2_with (refine wpList_load_eq (T := 35) (v := opV (tOp i l r t)) rfl rfl rfl hbx6.load ?_)
  refine Calls.mono (hnames _) ?_
  rintro e w7 ⟨nb, rfl, hb7, _, hnb⟩
  have hrb7 := hrb.below hb7 hrb.lt
  have hB7 := belowTrans hB6 hb7
  have hcc := Hc.out w5.heap.size nb w7 hrb7 hnb
  clear hnames hrb hbx6 hB6 hb7 r2 hnb hrb7
  go_wp2_with fail
  refine Calls.mono hcc ?_
  rintro e w8 ⟨rfl, hb8⟩
  go_wp2_with fail
  go_ret
  exact ⟨rfl, belowTrans hB7 hb8⟩
end Go.Proofs.YthhbiliimdpgmaaGreatDoor
/- Rows and maps in memory: their blocks. -/
namespace Go.Proofs.YthhbiliimdpgmaaGreatDoor
open Go.RowKit

theorem ownsRow_blk {w w' : World} {base e size n : Nat} {v : Value} {xs : List Value} (h : w.ownsRow base e size v n xs) (hb : ∀ b, v.ownBlock = some b → w'.heap[b]? = w.heap[b]?) : w'.ownsRow base e size v n xs := by
  obtain ⟨h1, h2 | ⟨g, cap, cur, hv, hg, hcur, rest⟩⟩ := h
  · exact ⟨h1, .inl h2⟩
  · exact ⟨h1, .inr ⟨g, cap, cur, hv, hg, (hb g (by rw [hv]; rfl)).trans hcur, rest⟩⟩
theorem MapK.blk {κ : Type} {enc : κ → Value} {w w' : World} {r : Nat} {l : List (κ × Value)} (h : MapK enc w r l) (hb : w'.heap[r]? = w.heap[r]?) : MapK enc w' r l := by
  obtain ⟨es, clock, h1, h2⟩ := h
  exact ⟨es, clock, hb.trans h1, h2⟩

theorem MapK.lt {κ : Type} {enc : κ → Value} {w : World} {r : Nat} {l : List (κ × Value)} (h : MapK enc w r l) : r < w.heap.size := by
  obtain ⟨es, clock, h1, _⟩ := h
  exact (Array.getElem?_eq_some_iff.1 h1).1
theorem ownsRow_lt {w : World} {base e size n : Nat} {v : Value} {xs : List Value} (h : w.ownsRow base e size v n xs) : ∀ b, v.ownBlock = some b → b < w.heap.size := by
  intro b hb
  rcases h.2 with ⟨hv, _⟩ | ⟨g, cap, cur, hv, hg, hcur, _⟩
  · rw [hv] at hb; cases hb
  · rw [hv] at hb; cases hb; exact (Array.getElem?_eq_some_iff.1 hcur).1
end Go.Proofs.YthhbiliimdpgmaaGreatDoor
