/- Walk: ops.bare of a right text. -/
import Derived.Test.YtaeebgljcdfolaaGreatDoorM12
namespace Go.Proofs.YtaeebgljcdfolaaGreatDoor
open Go.RowKit Go.Lib

/-- a text. -/
def tOp (i l r : QId) (t : ByteArray) : QOp := ⟨i, 1, 0, l, r, t, valZero, ⟨#[]⟩, idZero, idZero, false, idZero, false⟩
/-- may it be a text? -/
def okT (t : ByteArray) : Bool := okB t && decide (0 < t.size) && decide ((runesB t).length ≤ 4096)
theorem okT_iff {t : ByteArray} (h : okT t = true) : okB t = true ∧ 0 < t.size ∧ (runesB t).length ≤ 4096 := by
  simp only [okT, Bool.and_eq_true, decide_eq_true_eq] at h
  exact ⟨h.1.1, h.1.2, h.2⟩
theorem OpBox.setText {w : World} {b : Nat} {o : QOp} (h : OpBox w b o) (t : ByteArray) : OpBox (w.setCell ⟨b, 8, none⟩ (.string t)) b { o with text := t } := by
  unfold OpBox at *
  simp [World.setCell, Array.getElem?_modify, h, encOp]
theorem OpBox.setL {w : World} {b : Nat} {o : QOp} (h : OpBox w b o) (i : QId) : OpBox ((w.setCell ⟨b, 4, none⟩ (.int .u64 i.c)).setCell ⟨b, 5, none⟩ (.int .u64 i.k)) b { o with left := i } := by
  unfold OpBox at *
  simp [World.setCell, Array.getElem?_modify, h, encOp]
theorem OpBox.setR {w : World} {b : Nat} {o : QOp} (h : OpBox w b o) (i : QId) : OpBox ((w.setCell ⟨b, 6, none⟩ (.int .u64 i.c)).setCell ⟨b, 7, none⟩ (.int .u64 i.k)) b { o with right := i } := by
  unfold OpBox at *
  simp [World.setCell, Array.getElem?_modify, h, encOp]
set_option maxRecDepth 100000 in
set_option maxHeartbeats 4000000 in
theorem bare_t (i l r : QId) (t : ByteArray) (w : World) (ht : okT t = true) (hs : t.size < 9223372036854775807) (hT : Tabs w) :
    Calls Tryz.prog 55 #[opV (tOp i l r t)] w fun e w' => e = .returned (.tuple #[opV (tOp i l r t), .bool true]) ∧ Below w.heap.size w w' := by
  obtain ⟨h1, h2, h3⟩ := okT_iff ht
  have hv := utfCheck_any t
  rw [h1] at hv
  have hl := utfLen_any t
  generalize (runesB t).length = N at hl h3
  have h3z : decide ((N : Int) ≤ 4096) = true := by simp; omega
  clear ht h1
  change Calls Tryz.prog 55 #[.agg #[.int .u64 i.c, .int .u64 i.k, .int .i64 1, .int .u64 0, .int .u64 l.c, .int .u64 l.k, .int .u64 r.c, .int .u64 r.k, .string t, .int .i64 0, .int .i64 0, .float .f64 0, .string ⟨#[]⟩, .string ⟨#[]⟩, .int .u64 0, .int .u64 0, .int .u64 0, .int .u64 0, .bool false, .int .u64 0, .int .u64 0, .bool false]] w _
  go_enter Tryz.func55, Tryz.ntmps55
  go_upto_region 1 with fail
  obtain ⟨W, hW⟩ : ∃ W, (w.alloc (.cells (encOp (tOp i l r t)).toArray 35)).alloc (.cells (encOp opZero).toArray 35) = W := ⟨_, rfl⟩
  have hB : Below w.heap.size w W := by rw [← hW]; exact ((Below.refl _ _).alloc (Nat.le_refl _) _).alloc (by simp) _
  have hbx : OpBox W w.heap.size (tOp i l r t) := by rw [← hW]; exact (OpBox.new w (tOp i l r t)).below ((Below.refl _ _).alloc (Nat.le_refl _) _) (by simp)
  have hby : OpBox W (w.heap.size + 1) opZero := by rw [← hW]; have := OpBox.new (w.alloc (.cells (encOp (tOp i l r t)).toArray 35)) opZero; rwa [World.size_alloc] at this
  change Code.wp _ _ _ _ ((w.alloc (.cells (encOp (tOp i l r t)).toArray 35)).alloc (.cells (encOp opZero).toArray 35))
  rw [hW]
  clear hW
  have hz0 : w.heap.size < W.heap.size := hbx.lt
  have hz1 : w.heap.size + 1 < W.heap.size := hby.lt
  have q0 : W.cell? ⟨w.heap.size, 0, none⟩ = some (.int .u64 i.c) := hbx.cells 0 _ rfl
  have q1 : W.cell? ⟨w.heap.size, 1, none⟩ = some (.int .u64 i.k) := hbx.cells 1 _ rfl
  have q2 : W.cell? ⟨w.heap.size, 2, none⟩ = some (.int .i64 1) := hbx.cells 2 _ rfl
  have q3 : W.cell? ⟨w.heap.size, 3, none⟩ = some (.int .u64 0) := hbx.cells 3 _ rfl
  have q4 : W.cell? ⟨w.heap.size, 4, none⟩ = some (.int .u64 l.c) := hbx.cells 4 _ rfl
  have q5 : W.cell? ⟨w.heap.size, 5, none⟩ = some (.int .u64 l.k) := hbx.cells 5 _ rfl
  have q6 : W.cell? ⟨w.heap.size, 6, none⟩ = some (.int .u64 r.c) := hbx.cells 6 _ rfl
  have q7 : W.cell? ⟨w.heap.size, 7, none⟩ = some (.int .u64 r.k) := hbx.cells 7 _ rfl
  have q8 : W.cell? ⟨w.heap.size, 8, none⟩ = some (.string t) := hbx.cells 8 _ rfl
  have q9 : W.cell? ⟨w.heap.size, 9, none⟩ = some (.int .i64 0) := hbx.cells 9 _ rfl
  have q10 : W.cell? ⟨w.heap.size, 10, none⟩ = some (.int .i64 0) := hbx.cells 10 _ rfl
  have q11 : W.cell? ⟨w.heap.size, 11, none⟩ = some (.float .f64 0) := hbx.cells 11 _ rfl
  have q12 : W.cell? ⟨w.heap.size, 12, none⟩ = some (.string ⟨#[]⟩) := hbx.cells 12 _ rfl
  have q13 : W.cell? ⟨w.heap.size, 13, none⟩ = some (.string ⟨#[]⟩) := hbx.cells 13 _ rfl
  have q14 : W.cell? ⟨w.heap.size, 14, none⟩ = some (.int .u64 0) := hbx.cells 14 _ rfl
  have q15 : W.cell? ⟨w.heap.size, 15, none⟩ = some (.int .u64 0) := hbx.cells 15 _ rfl
  have q16 : W.cell? ⟨w.heap.size, 16, none⟩ = some (.int .u64 0) := hbx.cells 16 _ rfl
  have q17 : W.cell? ⟨w.heap.size, 17, none⟩ = some (.int .u64 0) := hbx.cells 17 _ rfl
  have q18 : W.cell? ⟨w.heap.size, 18, none⟩ = some (.bool false) := hbx.cells 18 _ rfl
  have q19 : W.cell? ⟨w.heap.size, 19, none⟩ = some (.int .u64 0) := hbx.cells 19 _ rfl
  have q20 : W.cell? ⟨w.heap.size, 20, none⟩ = some (.int .u64 0) := hbx.cells 20 _ rfl
  have q21 : W.cell? ⟨w.heap.size, 21, none⟩ = some (.bool false) := hbx.cells 21 _ rfl
  have bz := OpBox.new W opZero
  have hb3 : Below W.heap.size W (putOp (W.alloc (.cells (encOp opZero).toArray 35)) W.heap.size { opZero with id := i, kind := 1 }) := below_putOp ((Below.refl _ _).alloc (Nat.le_refl _) _) (Nat.le_refl _) _
  have hbn := bz.put { opZero with id := i, kind := 1 }
  have Hb3 := Lib.hid hb3
  have Hbn := Lib.hid hbn
  clear hb3 hbn
  go_upto_region 2 with (refine wpList_store_eq (T := 35) (v := opV { opZero with id := i, kind := 1 }) rfl rfl rfl rfl (OpBox.store bz { opZero with id := i, kind := 1 }) ?_)
  have hb3 := Hb3.out
  have hbn := Hbn.out
  obtain ⟨W3, hW3⟩ : ∃ W3, putOp (W.alloc (.cells (encOp opZero).toArray 35)) W.heap.size { opZero with id := i, kind := 1 } = W3 := ⟨_, rfl⟩
  rw [hW3] at hb3 hbn ⊢
  clear hW3 Hb3 Hbn bz q0 q1 q2 q3 q4 q5 q6 q7 q8 q9 q10 q11 q12 q13 q14 q15 q16 q17 q18 q19 q20 q21
  have hbx3 := hbx.below hb3 hz0
  have hby3 := hby.below hb3 hz1
  obtain ⟨X, hX⟩ : ∃ X, W.heap.size = X := ⟨_, rfl⟩
  have hB3 := belowTrans hB hb3
  have hwX : w.heap.size + 1 < X := by omega
  rw [hX] at hbn ⊢
  clear hX hb3 hbx hby hB hz0 hz1
  have q0 : W3.cell? ⟨w.heap.size, 0, none⟩ = some (.int .u64 i.c) := hbx3.cells 0 _ rfl
  have q1 : W3.cell? ⟨w.heap.size, 1, none⟩ = some (.int .u64 i.k) := hbx3.cells 1 _ rfl
  have q2 : W3.cell? ⟨w.heap.size, 2, none⟩ = some (.int .i64 1) := hbx3.cells 2 _ rfl
  have q3 : W3.cell? ⟨w.heap.size, 3, none⟩ = some (.int .u64 0) := hbx3.cells 3 _ rfl
  have q4 : W3.cell? ⟨w.heap.size, 4, none⟩ = some (.int .u64 l.c) := hbx3.cells 4 _ rfl
  have q5 : W3.cell? ⟨w.heap.size, 5, none⟩ = some (.int .u64 l.k) := hbx3.cells 5 _ rfl
  have q6 : W3.cell? ⟨w.heap.size, 6, none⟩ = some (.int .u64 r.c) := hbx3.cells 6 _ rfl
  have q7 : W3.cell? ⟨w.heap.size, 7, none⟩ = some (.int .u64 r.k) := hbx3.cells 7 _ rfl
  have q8 : W3.cell? ⟨w.heap.size, 8, none⟩ = some (.string t) := hbx3.cells 8 _ rfl
  have q9 : W3.cell? ⟨w.heap.size, 9, none⟩ = some (.int .i64 0) := hbx3.cells 9 _ rfl
  have q10 : W3.cell? ⟨w.heap.size, 10, none⟩ = some (.int .i64 0) := hbx3.cells 10 _ rfl
  have q11 : W3.cell? ⟨w.heap.size, 11, none⟩ = some (.float .f64 0) := hbx3.cells 11 _ rfl
  have q12 : W3.cell? ⟨w.heap.size, 12, none⟩ = some (.string ⟨#[]⟩) := hbx3.cells 12 _ rfl
  have q13 : W3.cell? ⟨w.heap.size, 13, none⟩ = some (.string ⟨#[]⟩) := hbx3.cells 13 _ rfl
  have q14 : W3.cell? ⟨w.heap.size, 14, none⟩ = some (.int .u64 0) := hbx3.cells 14 _ rfl
  have q15 : W3.cell? ⟨w.heap.size, 15, none⟩ = some (.int .u64 0) := hbx3.cells 15 _ rfl
  have q16 : W3.cell? ⟨w.heap.size, 16, none⟩ = some (.int .u64 0) := hbx3.cells 16 _ rfl
  have q17 : W3.cell? ⟨w.heap.size, 17, none⟩ = some (.int .u64 0) := hbx3.cells 17 _ rfl
  have q18 : W3.cell? ⟨w.heap.size, 18, none⟩ = some (.bool false) := hbx3.cells 18 _ rfl
  have q19 : W3.cell? ⟨w.heap.size, 19, none⟩ = some (.int .u64 0) := hbx3.cells 19 _ rfl
  have q20 : W3.cell? ⟨w.heap.size, 20, none⟩ = some (.int .u64 0) := hbx3.cells 20 _ rfl
  have q21 : W3.cell? ⟨w.heap.size, 21, none⟩ = some (.bool false) := hbx3.cells 21 _ rfl
  have hX3 : X < W3.heap.size := hbn.lt
  have x8 : W3.cell? ⟨X, 8, none⟩ = some (.string ⟨#[]⟩) := hbn.cells 8 _ rfl
  have xf8 := hbn.f 8
  go_upto_region 9 with fail
  have hbn4 := hbn.setText t
  have hB4 := hB3.setCell (p := ⟨X, 8, none⟩) (by show w.heap.size ≤ X; omega) (.string t)
  have hbx4 : OpBox (W3.setCell ⟨X, 8, none⟩ (.string t)) w.heap.size (tOp i l r t) := (Below.heap_setCell _ _ _ _ (by show ¬ w.heap.size = X; omega)).trans hbx3
  have hby4 : OpBox (W3.setCell ⟨X, 8, none⟩ (.string t)) (w.heap.size + 1) opZero := (Below.heap_setCell _ _ _ _ (by show ¬ w.heap.size + 1 = X; omega)).trans hby3
  obtain ⟨W4, hW4⟩ : ∃ W4, W3.setCell ⟨X, 8, none⟩ (.string t) = W4 := ⟨_, rfl⟩
  rw [hW4] at hbn4 hB4 hbx4 hby4 ⊢
  clear hW4 hbn hB3 hbx3 hby3 hX3 x8 xf8 q0 q1 q2 q3 q4 q5 q6 q7 q8 q9 q10 q11 q12 q13 q14 q15 q16 q17 q18 q19 q20 q21
  clear W3
  have q8 : W4.cell? ⟨w.heap.size, 8, none⟩ = some (.string t) := hbx4.cells 8 _ rfl
  have hx4 := hbx4.lt
  have hy4 := hby4.lt
  have hn4 := hbn4.lt
  have htn : t.toList.isEmpty = false := by
    rw [Lib.toList_data, List.isEmpty_eq_false_iff]
    exact nonempty_bytes h2
  go_upto_region 10 with (first | (go_at_call 83; refine (hv _ (by omega) (hT.below hB4)).mono ?_; rintro e w5 ⟨rfl, hb5⟩; obtain ⟨hc5, hf5⟩ := bcell hb5) | (go_at_call 72; refine (hl _ hs ((hT.below hB4).below hb5)).mono ?_; rintro e w6 ⟨rfl, hb6⟩))
  have hb46 := belowTrans hb5 hb6
  have hB6 := belowTrans hB4 hb46
  have hbx6 := hbx4.below hb46 hx4
  have hby6 := hby4.below hb46 hy4
  have hbn6 := hbn4.below hb46 hn4
  clear hb5 hb6 hc5 hf5 hb46 hB4 hbx4 hby4 hbn4 q8 hx4 hy4 hn4 htn hv hl
  have hx6 := hbx6.lt
  have hy6 := hby6.lt
  have hn6 := hbn6.lt
  have hXw : w.heap.size ≠ X := by omega
  have q4 : ∀ s : MStep (fun b => b = X) w6, s.val.cell? ⟨w.heap.size, 4, none⟩ = some (.int .u64 l.c) := MStep.cell hx6 hXw (hbx6.cells 4 _ rfl)
  have q5 : ∀ s : MStep (fun b => b = X) w6, s.val.cell? ⟨w.heap.size, 5, none⟩ = some (.int .u64 l.k) := MStep.cell hx6 hXw (hbx6.cells 5 _ rfl)
  have q6 : ∀ s : MStep (fun b => b = X) w6, s.val.cell? ⟨w.heap.size, 6, none⟩ = some (.int .u64 r.c) := MStep.cell hx6 hXw (hbx6.cells 6 _ rfl)
  have q7 : ∀ s : MStep (fun b => b = X) w6, s.val.cell? ⟨w.heap.size, 7, none⟩ = some (.int .u64 r.k) := MStep.cell hx6 hXw (hbx6.cells 7 _ rfl)
  refine wp_region_flow3 6 [0, 1, 2, 3, 4] [5, 6, 7] (fun w' => ∃ s : MStep (fun b => b = X) w6, w' = s.val) (by kernel_rfl) (by kernel_rfl) (fun _ _ d _ _ h => by cases d <;> exact h) (MStep.to (Mods.refl _ _).drew) ?_
  simp only [List.map_cons, List.map_nil, List.getElem?_cons_succ, List.getElem?_cons_zero, Option.getD_some]
  repeat (first | go_big_quiet_skip | (go_big_quiet_want; first | (fail; go_frame; go_big_quiet_on) | (go_big_quiet_op; go_big_quiet_on)))
  refine wpQuiet_nil ?_
  have x4 : w6.cell? ⟨X, 4, none⟩ = some (.int .u64 0) := hbn6.cells 4 _ rfl
  have x5 : w6.cell? ⟨X, 5, none⟩ = some (.int .u64 0) := hbn6.cells 5 _ rfl
  have x6 : w6.cell? ⟨X, 6, none⟩ = some (.int .u64 0) := hbn6.cells 6 _ rfl
  have x7 : w6.cell? ⟨X, 7, none⟩ = some (.int .u64 0) := hbn6.cells 7 _ rfl
  have f4 := hbn6.f 4
  have f5 := hbn6.f 5
  have f6 := hbn6.f 6
  have f7 := hbn6.f 7
  refine wpSeqF_step rfl ?_; simp only [List.getElem_toArray, List.getElem_cons_succ, List.getElem_cons_zero]
  go_wp2_with fail
  have hm7 : Mods (fun b => b = X) w6 ((w6.drew.setCell ⟨X, 4, none⟩ (.int .u64 l.c)).setCell ⟨X, 5, none⟩ (.int .u64 l.k)) := ⟨rfl, rfl, rfl, by simp, fun b _ hne => (Below.heap_setCell _ _ _ _ hne).trans (Below.heap_setCell _ _ _ _ hne)⟩
  refine ⟨MStep.to hm7, ?_⟩
  refine wpSeqF_step rfl ?_; simp only [List.getElem_toArray, List.getElem_cons_succ, List.getElem_cons_zero]
  go_wp2_with fail
  refine wpSeqF_step rfl ?_; simp only [List.getElem_toArray, List.getElem_cons_succ, List.getElem_cons_zero]
  go_wp2_with fail
  refine wpSeqF_nil ?_
  have hbn7 : OpBox ((((w6.setCell ⟨X, 4, none⟩ (.int .u64 l.c)).setCell ⟨X, 5, none⟩ (.int .u64 l.k)).setCell ⟨X, 6, none⟩ (.int .u64 r.c)).setCell ⟨X, 7, none⟩ (.int .u64 r.k)).drew X (tOp i l r t) := (hbn6.setL l).setR r
  have hm8 : Mods (fun b => b = X) w6 ((((w6.setCell ⟨X, 4, none⟩ (.int .u64 l.c)).setCell ⟨X, 5, none⟩ (.int .u64 l.k)).setCell ⟨X, 6, none⟩ (.int .u64 r.c)).setCell ⟨X, 7, none⟩ (.int .u64 r.k)).drew := ⟨rfl, rfl, rfl, by simp, fun b _ hne => (((Below.heap_setCell _ _ _ _ hne).trans (Below.heap_setCell _ _ _ _ hne)).trans (Below.heap_setCell _ _ _ _ hne)).trans (Below.heap_setCell _ _ _ _ hne)⟩
  obtain ⟨W7, hW7⟩ : ∃ W7, ((((w6.setCell ⟨X, 4, none⟩ (.int .u64 l.c)).setCell ⟨X, 5, none⟩ (.int .u64 l.k)).setCell ⟨X, 6, none⟩ (.int .u64 r.c)).setCell ⟨X, 7, none⟩ (.int .u64 r.k)).drew = W7 := ⟨_, rfl⟩
  rw [hW7] at hbn7 hm8 ⊢
  have hby7 : OpBox W7 (w.heap.size + 1) opZero := (hm8.block _ hy6 (by omega)).trans hby6
  have hB7 : Below w.heap.size w W7 := hB6.trans ⟨hm8.os, hm8.tape, hm8.output, hm8.size, fun k hk => hm8.block k (Nat.lt_of_lt_of_le hk hB6.size) (by omega)⟩
  have hput := hby7.put (tOp i l r t)
  have hres := Lib.hid hput.load
  clear hput hW7 hm8 hm7 q4 q5 q6 q7 x4 x5 x6 x7 f4 f5 f6 f7 hbx6 hby6 hbn6 hx6 hy6 hn6
  go_wp2_with (first | (refine wpList_load_eq (T := 35) (v := opV (tOp i l r t)) rfl rfl rfl hbn7.load ?_) | (refine wpList_store_eq (T := 35) (v := opV (tOp i l r t)) rfl rfl rfl rfl (OpBox.store hby7 (tOp i l r t)) ?_))
  refine bodyPost_ret (v := .tuple #[opV (tOp i l r t), .bool true]) ?_ rfl ⟨rfl, below_putOp hB7 (by omega) _⟩
  have h9 := hres.out
  simp [results, Tryz.results55, asAddr, Act.put, h9]
end Go.Proofs.YtaeebgljcdfolaaGreatDoor
