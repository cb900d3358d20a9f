/- Walk: ops.follows, ops.Fits at texts. -/
import Derived.Test.YthhbiliimdpgmaaGreatDoorM13
import Derived.Test.YthhbiliimdpgmaaGreatDoorM07
import Derived.Test.YthhbiliimdpgmaaGreatDoorM11
import Derived.Test.YthhbiliimdpgmaaGreatDoorM06
namespace Go.Proofs.YthhbiliimdpgmaaGreatDoor
open Go.RowKit Go.Lib

set_option maxRecDepth 100000 in
set_option maxHeartbeats 4000000 in
theorem follows_yes (i l r : QId) (t u : ByteArray) (N : Int) (w : World) (hN : N = (runesB t).length) (hs : t.size ≤ 1000000000000) (hi0 : 1 ≤ i.k) (hi : i.k + N < 18446744073709551616) (hT : Tabs w) :
    Calls Tryz.prog 145 #[opV (tOp i l r t), opV (tOp ⟨i.c, i.k + N⟩ ⟨i.c, i.k + N - 1⟩ r u)] w fun x w' => x = .returned (.bool true) ∧ Below w.heap.size w w' := by
  have hrange := fun w hT => opsRange_any (tOp i l r t) w (by show t.size < _; omega) (by show 0 ≤ i.k; omega) (by rw [tOp_len]; show i.k + _ < _; omega) hT
  rw [tOp_rng] at hrange
  unfold tRng at hrange
  rw [← hN] at hrange
  have hN0 : 0 ≤ N := by omega
  clear hN
  have he1 := eqlId ⟨i.c, i.k + N - 1⟩ ⟨i.c, i.k + N - 1⟩
  have he2 := eqlId r r
  rw [decide_eq_true rfl] at he1 he2
  change Calls Tryz.prog 145 #[.agg #[.int .u64 i.c, .int .u64 i.k, .int .i64 1, .int .u64 0, .int .u64 l.c, .int .u64 l.k, .int .u64 r.c, .int .u64 r.k, .string t, .int .i64 0, .int .i64 0, .float .f64 0, .string ⟨#[]⟩, .string ⟨#[]⟩, .int .u64 0, .int .u64 0, .int .u64 0, .int .u64 0, .bool false, .int .u64 0, .int .u64 0, .bool false], .agg #[.int .u64 (⟨i.c, i.k + N⟩ : QId).c, .int .u64 (⟨i.c, i.k + N⟩ : QId).k, .int .i64 1, .int .u64 0, .int .u64 (⟨i.c, i.k + N - 1⟩ : QId).c, .int .u64 (⟨i.c, i.k + N - 1⟩ : QId).k, .int .u64 r.c, .int .u64 r.k, .string u, .int .i64 0, .int .i64 0, .float .f64 0, .string ⟨#[]⟩, .string ⟨#[]⟩, .int .u64 0, .int .u64 0, .int .u64 0, .int .u64 0, .bool false, .int .u64 0, .int .u64 0, .bool false]] w _
  go_enter Tryz.func145, Tryz.ntmps145
  go_upto_region 1 with fail
  obtain ⟨W, hW⟩ : ∃ W, (w.alloc (.cells (encOp (tOp i l r t)).toArray 35)).alloc (.cells (encOp (tOp ⟨i.c, i.k + N⟩ ⟨i.c, i.k + N - 1⟩ r u)).toArray 35) = W := ⟨_, rfl⟩
  have hB : Below w.heap.size w W := by rw [← hW]; exact ((Below.refl _ _).alloc (Nat.le_refl _) _).alloc (by simp) _
  have hbx : OpBox W w.heap.size (tOp i l r t) := by rw [← hW]; exact (OpBox.new w (tOp i l r t)).below ((Below.refl _ _).alloc (Nat.le_refl _) _) (by simp)
  have hby : OpBox W (w.heap.size + 1) (tOp ⟨i.c, i.k + N⟩ ⟨i.c, i.k + N - 1⟩ r u) := by rw [← hW]; have := OpBox.new (w.alloc (.cells (encOp (tOp i l r t)).toArray 35)) (tOp ⟨i.c, i.k + N⟩ ⟨i.c, i.k + N - 1⟩ r u); rwa [World.size_alloc] at this
  change Code.wp _ _ _ _ ((w.alloc (.cells (encOp (tOp i l r t)).toArray 35)).alloc (.cells (encOp (tOp ⟨i.c, i.k + N⟩ ⟨i.c, i.k + N - 1⟩ r u)).toArray 35))
  rw [hW]
  clear hW
  have hz0 : w.heap.size < W.heap.size := hbx.lt
  have hz1 : w.heap.size + 1 < W.heap.size := hby.lt
  go_upto_region 2 with (first | (refine wpList_load_eq (T := 35) (v := opV (tOp i l r t)) rfl rfl rfl hbx.load ?_) | (go_at_call 31; refine (hrange _ (hT.below hB)).mono ?_; rintro e1 w1 ⟨rfl, hb1⟩))
  have hrb : RngBox (w1.alloc (.cells #[.int .u64 i.c, .int .u64 i.k, .int .u64 (i.k + N)] 95)) w1.heap.size ⟨i.c, i.k, i.k + N⟩ := heap_alloc_new w1 _
  have hb2 : Below W.heap.size W (w1.alloc (.cells #[.int .u64 i.c, .int .u64 i.k, .int .u64 (i.k + N)] 95)) := hb1.alloc hb1.size _
  obtain ⟨w2, hw2⟩ : ∃ w2, w1.alloc (.cells #[.int .u64 i.c, .int .u64 i.k, .int .u64 (i.k + N)] 95) = w2 := ⟨_, rfl⟩
  rw [hw2] at hrb hb2 ⊢
  have hbx2 := hbx.below hb2 hz0
  have hby2 := hby.below hb2 hz1
  have hB2 := belowTrans hB hb2
  have hx2 := hbx2.lt
  have hy2 := hby2.lt
  have hr2 := hrb.lt
  obtain ⟨c0, c1, c2⟩ := hrb.cells
  obtain ⟨X, hX⟩ : ∃ X, w1.heap.size = X := ⟨_, rfl⟩
  rw [hX] at c0 c1 c2 hr2 ⊢
  clear hw2 hb1 hb2 hrb hbx hby hB hz0 hz1 hX hrange
  clear W
  clear w1
  have p0 : w2.cell? ⟨w.heap.size, 0, none⟩ = some (.int .u64 i.c) := hbx2.cells 0 _ rfl
  have p1 : w2.cell? ⟨w.heap.size, 1, none⟩ = some (.int .u64 i.k) := hbx2.cells 1 _ rfl
  have p2 : w2.cell? ⟨w.heap.size, 2, none⟩ = some (.int .i64 1) := hbx2.cells 2 _ rfl
  have p3 : w2.cell? ⟨w.heap.size, 3, none⟩ = some (.int .u64 0) := hbx2.cells 3 _ rfl
  have p4 : w2.cell? ⟨w.heap.size, 4, none⟩ = some (.int .u64 l.c) := hbx2.cells 4 _ rfl
  have p5 : w2.cell? ⟨w.heap.size, 5, none⟩ = some (.int .u64 l.k) := hbx2.cells 5 _ rfl
  have p6 : w2.cell? ⟨w.heap.size, 6, none⟩ = some (.int .u64 r.c) := hbx2.cells 6 _ rfl
  have p7 : w2.cell? ⟨w.heap.size, 7, none⟩ = some (.int .u64 r.k) := hbx2.cells 7 _ rfl
  have p8 : w2.cell? ⟨w.heap.size, 8, none⟩ = some (.string t) := hbx2.cells 8 _ rfl
  have p9 : w2.cell? ⟨w.heap.size, 9, none⟩ = some (.int .i64 0) := hbx2.cells 9 _ rfl
  have p10 : w2.cell? ⟨w.heap.size, 10, none⟩ = some (.int .i64 0) := hbx2.cells 10 _ rfl
  have p11 : w2.cell? ⟨w.heap.size, 11, none⟩ = some (.float .f64 0) := hbx2.cells 11 _ rfl
  have p12 : w2.cell? ⟨w.heap.size, 12, none⟩ = some (.string ⟨#[]⟩) := hbx2.cells 12 _ rfl
  have p13 : w2.cell? ⟨w.heap.size, 13, none⟩ = some (.string ⟨#[]⟩) := hbx2.cells 13 _ rfl
  have p14 : w2.cell? ⟨w.heap.size, 14, none⟩ = some (.int .u64 0) := hbx2.cells 14 _ rfl
  have p15 : w2.cell? ⟨w.heap.size, 15, none⟩ = some (.int .u64 0) := hbx2.cells 15 _ rfl
  have p16 : w2.cell? ⟨w.heap.size, 16, none⟩ = some (.int .u64 0) := hbx2.cells 16 _ rfl
  have p17 : w2.cell? ⟨w.heap.size, 17, none⟩ = some (.int .u64 0) := hbx2.cells 17 _ rfl
  have p18 : w2.cell? ⟨w.heap.size, 18, none⟩ = some (.bool false) := hbx2.cells 18 _ rfl
  have p19 : w2.cell? ⟨w.heap.size, 19, none⟩ = some (.int .u64 0) := hbx2.cells 19 _ rfl
  have p20 : w2.cell? ⟨w.heap.size, 20, none⟩ = some (.int .u64 0) := hbx2.cells 20 _ rfl
  have p21 : w2.cell? ⟨w.heap.size, 21, none⟩ = some (.bool false) := hbx2.cells 21 _ rfl
  have q0 : w2.cell? ⟨(w.heap.size + 1), 0, none⟩ = some (.int .u64 (⟨i.c, i.k + N⟩ : QId).c) := hby2.cells 0 _ rfl
  have q1 : w2.cell? ⟨(w.heap.size + 1), 1, none⟩ = some (.int .u64 (⟨i.c, i.k + N⟩ : QId).k) := hby2.cells 1 _ rfl
  have q2 : w2.cell? ⟨(w.heap.size + 1), 2, none⟩ = some (.int .i64 1) := hby2.cells 2 _ rfl
  have q3 : w2.cell? ⟨(w.heap.size + 1), 3, none⟩ = some (.int .u64 0) := hby2.cells 3 _ rfl
  have q4 : w2.cell? ⟨(w.heap.size + 1), 4, none⟩ = some (.int .u64 (⟨i.c, i.k + N - 1⟩ : QId).c) := hby2.cells 4 _ rfl
  have q5 : w2.cell? ⟨(w.heap.size + 1), 5, none⟩ = some (.int .u64 (⟨i.c, i.k + N - 1⟩ : QId).k) := hby2.cells 5 _ rfl
  have q6 : w2.cell? ⟨(w.heap.size + 1), 6, none⟩ = some (.int .u64 r.c) := hby2.cells 6 _ rfl
  have q7 : w2.cell? ⟨(w.heap.size + 1), 7, none⟩ = some (.int .u64 r.k) := hby2.cells 7 _ rfl
  have q8 : w2.cell? ⟨(w.heap.size + 1), 8, none⟩ = some (.string u) := hby2.cells 8 _ rfl
  have q9 : w2.cell? ⟨(w.heap.size + 1), 9, none⟩ = some (.int .i64 0) := hby2.cells 9 _ rfl
  have q10 : w2.cell? ⟨(w.heap.size + 1), 10, none⟩ = some (.int .i64 0) := hby2.cells 10 _ rfl
  have q11 : w2.cell? ⟨(w.heap.size + 1), 11, none⟩ = some (.float .f64 0) := hby2.cells 11 _ rfl
  have q12 : w2.cell? ⟨(w.heap.size + 1), 12, none⟩ = some (.string ⟨#[]⟩) := hby2.cells 12 _ rfl
  have q13 : w2.cell? ⟨(w.heap.size + 1), 13, none⟩ = some (.string ⟨#[]⟩) := hby2.cells 13 _ rfl
  have q14 : w2.cell? ⟨(w.heap.size + 1), 14, none⟩ = some (.int .u64 0) := hby2.cells 14 _ rfl
  have q15 : w2.cell? ⟨(w.heap.size + 1), 15, none⟩ = some (.int .u64 0) := hby2.cells 15 _ rfl
  have q16 : w2.cell? ⟨(w.heap.size + 1), 16, none⟩ = some (.int .u64 0) := hby2.cells 16 _ rfl
  have q17 : w2.cell? ⟨(w.heap.size + 1), 17, none⟩ = some (.int .u64 0) := hby2.cells 17 _ rfl
  have q18 : w2.cell? ⟨(w.heap.size + 1), 18, none⟩ = some (.bool false) := hby2.cells 18 _ rfl
  have q19 : w2.cell? ⟨(w.heap.size + 1), 19, none⟩ = some (.int .u64 0) := hby2.cells 19 _ rfl
  have q20 : w2.cell? ⟨(w.heap.size + 1), 20, none⟩ = some (.int .u64 0) := hby2.cells 20 _ rfl
  have q21 : w2.cell? ⟨(w.heap.size + 1), 21, none⟩ = some (.bool false) := hby2.cells 21 _ rfl
  clear p3 p4 p5 p8 p9 p10 p11 p12 p13 p14 p15 p16 p17 p18 p19 p20 p21 q3 q8 q9 q10 q11 q12 q13 q14 q15 q16 q17 q18 q19 q20 q21 hbx2 hby2
  go_wp2_with fail
  go_ret
  exact ⟨rfl, hB2⟩
set_option maxRecDepth 100000 in
set_option maxHeartbeats 4000000 in
theorem follows_no (i l r j m s : QId) (t u : ByteArray) (w : World) (hs : t.size ≤ 1000000000000) (hi0 : 1 ≤ i.k) (hi : i.k + (runesB t).length < 18446744073709551616) (hij : i.c ≠ j.c) (hT : Tabs w) :
    Calls Tryz.prog 145 #[opV (tOp i l r t), opV (tOp j m s u)] w fun x w' => x = .returned (.bool false) ∧ Below w.heap.size w w' := by
  have hrange := fun w hT => opsRange_any (tOp i l r t) w (by show t.size < _; omega) (by show 0 ≤ i.k; omega) (by rw [tOp_len]; show i.k + _ < _; omega) hT
  rw [tOp_rng] at hrange
  unfold tRng at hrange
  generalize ((runesB t).length : Int) = N at hi hrange
  have d1 : decide (i.c = j.c) = false := by simp [hij]
  change Calls Tryz.prog 145 #[.agg #[.int .u64 i.c, .int .u64 i.k, .int .i64 1, .int .u64 0, .int .u64 l.c, .int .u64 l.k, .int .u64 r.c, .int .u64 r.k, .string t, .int .i64 0, .int .i64 0, .float .f64 0, .string ⟨#[]⟩, .string ⟨#[]⟩, .int .u64 0, .int .u64 0, .int .u64 0, .int .u64 0, .bool false, .int .u64 0, .int .u64 0, .bool false], .agg #[.int .u64 j.c, .int .u64 j.k, .int .i64 1, .int .u64 0, .int .u64 m.c, .int .u64 m.k, .int .u64 s.c, .int .u64 s.k, .string u, .int .i64 0, .int .i64 0, .float .f64 0, .string ⟨#[]⟩, .string ⟨#[]⟩, .int .u64 0, .int .u64 0, .int .u64 0, .int .u64 0, .bool false, .int .u64 0, .int .u64 0, .bool false]] w _
  go_enter Tryz.func145, Tryz.ntmps145
  go_upto_region 1 with fail
  obtain ⟨W, hW⟩ : ∃ W, (w.alloc (.cells (encOp (tOp i l r t)).toArray 35)).alloc (.cells (encOp (tOp j m s u)).toArray 35) = W := ⟨_, rfl⟩
  have hB : Below w.heap.size w W := by rw [← hW]; exact ((Below.refl _ _).alloc (Nat.le_refl _) _).alloc (by simp) _
  have hbx : OpBox W w.heap.size (tOp i l r t) := by rw [← hW]; exact (OpBox.new w (tOp i l r t)).below ((Below.refl _ _).alloc (Nat.le_refl _) _) (by simp)
  have hby : OpBox W (w.heap.size + 1) (tOp j m s u) := by rw [← hW]; have := OpBox.new (w.alloc (.cells (encOp (tOp i l r t)).toArray 35)) (tOp j m s u); rwa [World.size_alloc] at this
  change Code.wp _ _ _ _ ((w.alloc (.cells (encOp (tOp i l r t)).toArray 35)).alloc (.cells (encOp (tOp j m s u)).toArray 35))
  rw [hW]
  clear hW
  have hz0 : w.heap.size < W.heap.size := hbx.lt
  have hz1 : w.heap.size + 1 < W.heap.size := hby.lt
  go_upto_region 2 with (first | (refine wpList_load_eq (T := 35) (v := opV (tOp i l r t)) rfl rfl rfl hbx.load ?_) | (go_at_call 31; refine (hrange _ (hT.below hB)).mono ?_; rintro e1 w1 ⟨rfl, hb1⟩))
  have hrb : RngBox (w1.alloc (.cells #[.int .u64 i.c, .int .u64 i.k, .int .u64 (i.k + N)] 95)) w1.heap.size ⟨i.c, i.k, i.k + N⟩ := heap_alloc_new w1 _
  have hb2 : Below W.heap.size W (w1.alloc (.cells #[.int .u64 i.c, .int .u64 i.k, .int .u64 (i.k + N)] 95)) := hb1.alloc hb1.size _
  obtain ⟨w2, hw2⟩ : ∃ w2, w1.alloc (.cells #[.int .u64 i.c, .int .u64 i.k, .int .u64 (i.k + N)] 95) = w2 := ⟨_, rfl⟩
  rw [hw2] at hrb hb2 ⊢
  have hbx2 := hbx.below hb2 hz0
  have hby2 := hby.below hb2 hz1
  have hB2 := belowTrans hB hb2
  have hx2 := hbx2.lt
  have hy2 := hby2.lt
  have hr2 := hrb.lt
  obtain ⟨c0, c1, c2⟩ := hrb.cells
  obtain ⟨X, hX⟩ : ∃ X, w1.heap.size = X := ⟨_, rfl⟩
  rw [hX] at c0 c1 c2 hr2 ⊢
  clear hw2 hb1 hb2 hrb hbx hby hB hz0 hz1 hX hrange
  clear W
  clear w1
  have p0 : w2.cell? ⟨w.heap.size, 0, none⟩ = some (.int .u64 i.c) := hbx2.cells 0 _ rfl
  have p1 : w2.cell? ⟨w.heap.size, 1, none⟩ = some (.int .u64 i.k) := hbx2.cells 1 _ rfl
  have p2 : w2.cell? ⟨w.heap.size, 2, none⟩ = some (.int .i64 1) := hbx2.cells 2 _ rfl
  have p3 : w2.cell? ⟨w.heap.size, 3, none⟩ = some (.int .u64 0) := hbx2.cells 3 _ rfl
  have p4 : w2.cell? ⟨w.heap.size, 4, none⟩ = some (.int .u64 l.c) := hbx2.cells 4 _ rfl
  have p5 : w2.cell? ⟨w.heap.size, 5, none⟩ = some (.int .u64 l.k) := hbx2.cells 5 _ rfl
  have p6 : w2.cell? ⟨w.heap.size, 6, none⟩ = some (.int .u64 r.c) := hbx2.cells 6 _ rfl
  have p7 : w2.cell? ⟨w.heap.size, 7, none⟩ = some (.int .u64 r.k) := hbx2.cells 7 _ rfl
  have p8 : w2.cell? ⟨w.heap.size, 8, none⟩ = some (.string t) := hbx2.cells 8 _ rfl
  have p9 : w2.cell? ⟨w.heap.size, 9, none⟩ = some (.int .i64 0) := hbx2.cells 9 _ rfl
  have p10 : w2.cell? ⟨w.heap.size, 10, none⟩ = some (.int .i64 0) := hbx2.cells 10 _ rfl
  have p11 : w2.cell? ⟨w.heap.size, 11, none⟩ = some (.float .f64 0) := hbx2.cells 11 _ rfl
  have p12 : w2.cell? ⟨w.heap.size, 12, none⟩ = some (.string ⟨#[]⟩) := hbx2.cells 12 _ rfl
  have p13 : w2.cell? ⟨w.heap.size, 13, none⟩ = some (.string ⟨#[]⟩) := hbx2.cells 13 _ rfl
  have p14 : w2.cell? ⟨w.heap.size, 14, none⟩ = some (.int .u64 0) := hbx2.cells 14 _ rfl
  have p15 : w2.cell? ⟨w.heap.size, 15, none⟩ = some (.int .u64 0) := hbx2.cells 15 _ rfl
  have p16 : w2.cell? ⟨w.heap.size, 16, none⟩ = some (.int .u64 0) := hbx2.cells 16 _ rfl
  have p17 : w2.cell? ⟨w.heap.size, 17, none⟩ = some (.int .u64 0) := hbx2.cells 17 _ rfl
  have p18 : w2.cell? ⟨w.heap.size, 18, none⟩ = some (.bool false) := hbx2.cells 18 _ rfl
  have p19 : w2.cell? ⟨w.heap.size, 19, none⟩ = some (.int .u64 0) := hbx2.cells 19 _ rfl
  have p20 : w2.cell? ⟨w.heap.size, 20, none⟩ = some (.int .u64 0) := hbx2.cells 20 _ rfl
  have p21 : w2.cell? ⟨w.heap.size, 21, none⟩ = some (.bool false) := hbx2.cells 21 _ rfl
  have q0 : w2.cell? ⟨(w.heap.size + 1), 0, none⟩ = some (.int .u64 j.c) := hby2.cells 0 _ rfl
  have q1 : w2.cell? ⟨(w.heap.size + 1), 1, none⟩ = some (.int .u64 j.k) := hby2.cells 1 _ rfl
  have q2 : w2.cell? ⟨(w.heap.size + 1), 2, none⟩ = some (.int .i64 1) := hby2.cells 2 _ rfl
  have q3 : w2.cell? ⟨(w.heap.size + 1), 3, none⟩ = some (.int .u64 0) := hby2.cells 3 _ rfl
  have q4 : w2.cell? ⟨(w.heap.size + 1), 4, none⟩ = some (.int .u64 m.c) := hby2.cells 4 _ rfl
  have q5 : w2.cell? ⟨(w.heap.size + 1), 5, none⟩ = some (.int .u64 m.k) := hby2.cells 5 _ rfl
  have q6 : w2.cell? ⟨(w.heap.size + 1), 6, none⟩ = some (.int .u64 s.c) := hby2.cells 6 _ rfl
  have q7 : w2.cell? ⟨(w.heap.size + 1), 7, none⟩ = some (.int .u64 s.k) := hby2.cells 7 _ rfl
  have q8 : w2.cell? ⟨(w.heap.size + 1), 8, none⟩ = some (.string u) := hby2.cells 8 _ rfl
  have q9 : w2.cell? ⟨(w.heap.size + 1), 9, none⟩ = some (.int .i64 0) := hby2.cells 9 _ rfl
  have q10 : w2.cell? ⟨(w.heap.size + 1), 10, none⟩ = some (.int .i64 0) := hby2.cells 10 _ rfl
  have q11 : w2.cell? ⟨(w.heap.size + 1), 11, none⟩ = some (.float .f64 0) := hby2.cells 11 _ rfl
  have q12 : w2.cell? ⟨(w.heap.size + 1), 12, none⟩ = some (.string ⟨#[]⟩) := hby2.cells 12 _ rfl
  have q13 : w2.cell? ⟨(w.heap.size + 1), 13, none⟩ = some (.string ⟨#[]⟩) := hby2.cells 13 _ rfl
  have q14 : w2.cell? ⟨(w.heap.size + 1), 14, none⟩ = some (.int .u64 0) := hby2.cells 14 _ rfl
  have q15 : w2.cell? ⟨(w.heap.size + 1), 15, none⟩ = some (.int .u64 0) := hby2.cells 15 _ rfl
  have q16 : w2.cell? ⟨(w.heap.size + 1), 16, none⟩ = some (.int .u64 0) := hby2.cells 16 _ rfl
  have q17 : w2.cell? ⟨(w.heap.size + 1), 17, none⟩ = some (.int .u64 0) := hby2.cells 17 _ rfl
  have q18 : w2.cell? ⟨(w.heap.size + 1), 18, none⟩ = some (.bool false) := hby2.cells 18 _ rfl
  have q19 : w2.cell? ⟨(w.heap.size + 1), 19, none⟩ = some (.int .u64 0) := hby2.cells 19 _ rfl
  have q20 : w2.cell? ⟨(w.heap.size + 1), 20, none⟩ = some (.int .u64 0) := hby2.cells 20 _ rfl
  have q21 : w2.cell? ⟨(w.heap.size + 1), 21, none⟩ = some (.bool false) := hby2.cells 21 _ rfl
  clear p3 p4 p5 p8 p9 p10 p11 p12 p13 p14 p15 p16 p17 p18 p19 p20 p21 q3 q8 q9 q10 q11 q12 q13 q14 q15 q16 q17 q18 q19 q20 q21 hbx2 hby2
  go_wp2_with fail
  go_ret
  exact ⟨rfl, hB2⟩
set_option maxRecDepth 100000 in
set_option maxHeartbeats 4000000 in
theorem fits_yes (i l r : QId) (t u : ByteArray) (N : Int) (w : World) (hN : N = (runesB t).length) (hs : t.size ≤ 1000000000000) (hs2 : u.size ≤ 1000000000000) (hi0 : 1 ≤ i.k) (hi : i.k + N < 18446744073709551616) (hle : N + (runesB u).length ≤ 4096) (hT : Tabs w) :
    Calls Tryz.prog 117 #[opV (tOp i l r t), opV (tOp ⟨i.c, i.k + N⟩ ⟨i.c, i.k + N - 1⟩ r u)] w fun x w' => x = .returned (.bool true) ∧ Below w.heap.size w w' := by
  have hfol := fun w hT => follows_yes i l r t u N w hN hs hi0 hi hT
  have hl1 := fun w hT => opsLen_any (tOp i l r t) w (by show t.size < _; omega) hT
  rw [tOp_len, ← hN] at hl1
  have hl2 := fun w hT => opsLen_any (tOp ⟨i.c, i.k + N⟩ ⟨i.c, i.k + N - 1⟩ r u) w (by show u.size < _; omega) hT
  rw [tOp_len] at hl2
  have hN0 : 0 ≤ N := by omega
  have hM0 : 0 ≤ ((runesB u).length : Int) := by omega
  generalize ((runesB u).length : Int) = M at hle hl2 hM0
  clear hN
  have d1 : decide (N + M ≤ 4096) = true := by simp; omega
  generalize hx : tOp i l r t = x at hfol hl1 ⊢
  generalize hy : tOp ⟨i.c, i.k + N⟩ ⟨i.c, i.k + N - 1⟩ r u = y at hfol hl2 ⊢
  clear hx hy
  change Calls Tryz.prog 117 #[.agg #[.int .u64 x.id.c, .int .u64 x.id.k, .int .i64 x.kind, .int .u64 x.stamp, .int .u64 x.left.c, .int .u64 x.left.k, .int .u64 x.right.c, .int .u64 x.right.k, .string x.text, .int .i64 x.v.kind, .int .i64 x.v.n, .float .f64 x.v.f, .string x.v.s, .string x.key, .int .u64 x.parent.c, .int .u64 x.parent.k, .int .u64 x.frm.c, .int .u64 x.frm.k, .bool x.frmA, .int .u64 x.til.c, .int .u64 x.til.k, .bool x.tilA], .agg #[.int .u64 y.id.c, .int .u64 y.id.k, .int .i64 y.kind, .int .u64 y.stamp, .int .u64 y.left.c, .int .u64 y.left.k, .int .u64 y.right.c, .int .u64 y.right.k, .string y.text, .int .i64 y.v.kind, .int .i64 y.v.n, .float .f64 y.v.f, .string y.v.s, .string y.key, .int .u64 y.parent.c, .int .u64 y.parent.k, .int .u64 y.frm.c, .int .u64 y.frm.k, .bool y.frmA, .int .u64 y.til.c, .int .u64 y.til.k, .bool y.tilA]] w _
  go_enter Tryz.func117, Tryz.ntmps117
  go_upto_region 1 with fail
  obtain ⟨W, hW⟩ : ∃ W, (w.alloc (.cells (encOp x).toArray 35)).alloc (.cells (encOp y).toArray 35) = W := ⟨_, rfl⟩
  have hB : Below w.heap.size w W := by rw [← hW]; exact ((Below.refl _ _).alloc (Nat.le_refl _) _).alloc (by simp) _
  have hbx : OpBox W w.heap.size x := by rw [← hW]; exact (OpBox.new w x).below ((Below.refl _ _).alloc (Nat.le_refl _) _) (by simp)
  have hby : OpBox W (w.heap.size + 1) y := by rw [← hW]; have := OpBox.new (w.alloc (.cells (encOp x).toArray 35)) y; rwa [World.size_alloc] at this
  change Code.wp _ _ _ _ ((w.alloc (.cells (encOp x).toArray 35)).alloc (.cells (encOp y).toArray 35))
  rw [hW]
  clear hW
  have hz0 : w.heap.size < W.heap.size := hbx.lt
  have hz1 : w.heap.size + 1 < W.heap.size := hby.lt
  have l1 : ∀ w', (∃ s : BStep W, w' = s.val) → (loadVar 35 ⟨w.heap.size, 0, none⟩).run Tryz.prog w' = .ok (opV x) w' := by
    rintro _ ⟨s, rfl⟩
    exact OpBox.load ((s.h.block _ hz0).trans hbx)
  have l2 : ∀ w', (∃ s : BStep W, w' = s.val) → (loadVar 35 ⟨w.heap.size + 1, 0, none⟩).run Tryz.prog w' = .ok (opV y) w' := by
    rintro _ ⟨s, rfl⟩
    exact OpBox.load ((s.h.block _ hz1).trans hby)
  have hTW : ∀ s : BStep W, Tabs s.val := fun s => (hT.below hB).below s.h
  refine wp_region_b (by kernel_rfl) (by kernel_rfl) ?_
  repeat (first | go_big_quiet_skip | (go_big_quiet_want; first | ((first | refine quiet_load 35 _ _ rfl rfl l1 ?_ | refine quiet_load 35 _ _ rfl rfl l2 ?_); go_frame; go_big_quiet_on) | (go_big_quiet_op; first | go_big_quiet_on | go_big_quiet_call ((first | (go_at_call 145; exact callsB (hfol _ (hTW _))) | (go_at_call 63; first | exact callsB (hl1 _ (hTW _)) | exact callsB (hl2 _ (hTW _))))))))
  refine wpQuiet_nil ?_
  intro W' hC'
  have hBW' := BStep.of hC'
  go_wp2_with fail
  go_ret
  exact ⟨rfl, belowTrans hB hBW'⟩
end Go.Proofs.YthhbiliimdpgmaaGreatDoor
/- A *store.Store in memory: its known texts, those that wait, their clocks. Walks: store.New, known. -/
namespace Go.Proofs.YthhbiliimdpgmaaGreatDoor
open Go.RowKit Go.Lib Go.MapKept

def u64V (c : Int) : Value := .int .u64 c
theorem findNow_u64 (x : Int) : ∀ (es : List MapEntry) (l : List (Int × Value)) (i : Nat), es.map (fun e => (e.key, e.val)) = l.map (fun p => (u64V p.1, p.2)) → Instr.findNow (.int .u64) (u64V x) es i = some (findIx x l i)
  | [], [], _, _ => rfl
  | [], _ :: _, _, h => by simp at h
  | _ :: _, [], _, h => by simp at h
  | e :: es, p :: l, i, h => by
    simp only [List.map_cons, List.cons.injEq, Prod.mk.injEq] at h
    obtain ⟨⟨h1, h2⟩, h3⟩ := h
    unfold Instr.findNow findIx
    rw [h1]
    simp only [u64V, Instr.sameNow]
    by_cases hx : p.1 = x
    · have : (x == p.1) = true := by simp [hx]
      rw [this]
      simp [hx, h2]
    · have : (x == p.1) = false := by simp; exact fun e => hx e.symm
      rw [this]
      simp only [hx, if_false]
      exact findNow_u64 x es l (i + 1) h3
theorem u64Key : KeyQ Tryz.prog 26 u64V where
  inj h := by cases h; rfl
  check w em x := run_checkKey (d := .int .u64) (k := u64V x) (by kernel_rfl) rfl em 9999
  find w x es l h := run_findKey (d := .int .u64) (by kernel_rfl) (findNow_u64 x es l 0 h)
  stays w x := run_keyThatStays (d := .int .u64) (k := u64V x) rfl

/-- a client's known text, as the one operation that it is. -/
def kOp (c : Int) (t : ByteArray) : QOp := tOp ⟨c, 1⟩ idZero idZero t
def kfind (K : List (Int × ByteArray)) (c : Int) : Option ByteArray := (K.find? fun p => decide (p.1 = c)).map (·.2)
/-- how many of a client's clocks are known. -/
def kcount (K : List (Int × ByteArray)) (c : Int) : Int := match kfind K c with
  | some t => (runesB t).length
  | none => 0
structure SLay where
  m : Nat
  row : Int → Value
  wv : Value
  hv : Value
structure StoreAt (w : World) (sb : Nat) (L : SLay) (K : List (Int × ByteArray)) (W : List QOp) (H : List QRng) : Prop where
  st : w.heap[sb]? = some (.cells #[.map (some L.m), L.wv, L.hv] 82 (0, 0))
  map : MapK u64V w L.m (K.map fun p => (p.1, L.row p.1))
  keys : (K.map (·.1)).Nodup
  rows : ∀ p ∈ K, OwnAt 0 35 22 encOp w (L.row p.1) [kOp p.1 p.2]
  waits : OwnAt 0 35 22 encOp w L.wv W
  held : OwnAt 0 95 3 encRng w L.hv H
  rsep : ∀ p ∈ K, ∀ q ∈ K, (L.row p.1).ownBlock = (L.row q.1).ownBlock → p.1 = q.1
  wsep : ∀ p ∈ K, (L.row p.1).ownBlock ≠ L.wv.ownBlock
def SFoot (sb : Nat) (L : SLay) (K : List (Int × ByteArray)) (b : Nat) : Prop :=
  b = sb ∨ b = L.m ∨ (∃ p ∈ K, (L.row p.1).ownBlock = some b) ∨ L.wv.ownBlock = some b ∨ L.hv.ownBlock = some b
def StoreIn (w : World) (F : Nat → Prop) (sb : Nat) (K : List (Int × ByteArray)) (W : List QOp) (H : List QRng) : Prop := ∃ L, StoreAt w sb L K W H ∧ ∀ b, SFoot sb L K b → F b

theorem StoreAt.keep {w w' : World} {sb : Nat} {L : SLay} {K : List (Int × ByteArray)} {W : List QOp} {H : List QRng} (h : StoreAt w sb L K W H) (hb : ∀ b, SFoot sb L K b → w'.heap[b]? = w.heap[b]?) : StoreAt w' sb L K W H where
  st := (hb sb (.inl rfl)).trans h.st
  map := h.map.blk (hb _ (.inr (.inl rfl)))
  keys := h.keys
  rows p hp := ownsRow_blk (h.rows p hp) fun b e => hb b (.inr (.inr (.inl ⟨p, hp, e⟩)))
  waits := ownsRow_blk h.waits fun b e => hb b (.inr (.inr (.inr (.inl e))))
  held := ownsRow_blk h.held fun b e => hb b (.inr (.inr (.inr (.inr e))))
  rsep := h.rsep
  wsep := h.wsep
theorem StoreAt.foot_lt {w : World} {sb : Nat} {L : SLay} {K : List (Int × ByteArray)} {W : List QOp} {H : List QRng} (h : StoreAt w sb L K W H) : ∀ b, SFoot sb L K b → b < w.heap.size := by
  rintro b (rfl | rfl | ⟨p, hp, e⟩ | e | e)
  · exact (Array.getElem?_eq_some_iff.1 h.st).1
  · exact h.map.lt
  · exact ownsRow_lt (h.rows p hp) b e
  · exact ownsRow_lt h.waits b e
  · exact ownsRow_lt h.held b e
theorem StoreAt.below {w w' : World} {sb : Nat} {L : SLay} {K : List (Int × ByteArray)} {W : List QOp} {H : List QRng} (h : StoreAt w sb L K W H) (hb : Below w.heap.size w w') : StoreAt w' sb L K W H := h.keep fun b hf => hb.block b (h.foot_lt b hf)
theorem StoreIn.below {w w' : World} {F : Nat → Prop} {sb : Nat} {K : List (Int × ByteArray)} {W : List QOp} {H : List QRng} (h : StoreIn w F sb K W H) (hb : Below w.heap.size w w') : StoreIn w' F sb K W H := by
  obtain ⟨L, h1, h2⟩ := h
  exact ⟨L, h1.below hb, h2⟩
theorem StoreIn.mods {w w' : World} {F G : Nat → Prop} {sb : Nat} {K : List (Int × ByteArray)} {W : List QOp} {H : List QRng} (h : StoreIn w F sb K W H) (hm : Mods G w w') (hg : ∀ b, F b → ¬ G b) : StoreIn w' F sb K W H := by
  obtain ⟨L, h1, h2⟩ := h
  exact ⟨L, h1.keep fun b hf => hm.block b (h1.foot_lt b hf) (hg b (h2 b hf)), h2⟩

theorem look_kfind (K : List (Int × ByteArray)) (f : Int → Value) (c : Int) : look (K.map fun p => (p.1, f p.1)) c = (kfind K c).map fun _ => f c := by
  unfold look kfind
  rw [List.find?_map, Option.map_map, Option.map_map]
  have : ((fun p : Int × Value => decide (p.1 = c)) ∘ fun p : Int × ByteArray => (p.1, f p.1)) = fun p : Int × ByteArray => decide (p.1 = c) := rfl
  rw [this]
  cases h : K.find? fun p => decide (p.1 = c) with
  | none => rfl
  | some p =>
    have := List.find?_some h
    simp only [decide_eq_true_eq] at this
    simp [this]
theorem kfind_mem {K : List (Int × ByteArray)} {c : Int} {t : ByteArray} (h : kfind K c = some t) : (c, t) ∈ K := by
  unfold kfind at h
  cases h1 : K.find? fun p => decide (p.1 = c) with
  | none => rw [h1] at h; cases h
  | some p =>
    rw [h1] at h
    have h2 := List.find?_some h1
    simp only [decide_eq_true_eq] at h2
    have h3 := List.mem_of_find?_eq_some h1
    obtain ⟨a, b⟩ := p
    simp only [Option.map_some, Option.some.injEq] at h
    subst h h2
    exact h3
theorem zeroRow (w : World) : (zeroValue 39).run Tryz.prog w = .ok (.slice none 0 0) w := by kernel_rfl
theorem StoreAt.lookRow {w : World} {sb : Nat} {L : SLay} {K : List (Int × ByteArray)} {W : List QOp} {H : List QRng} (h : StoreAt w sb L K W H) (c : Int) :
    (Instr.lookup 80 (.map (some L.m)) (.int .u64 c) false).run Tryz.prog w = .ok (((kfind K c).map fun _ => L.row c).getD (.slice none 0 0)) w := by
  have := run_look u64Key (T := 80) (E := 39) (by kernel_rfl) zeroRow h.map c false
  rw [look_kfind] at this
  exact this
theorem OwnAt.one {base : Nat} {w : World} {v : Value} {o : QOp} (h : OwnAt base 35 22 encOp w v [o]) : ∃ b cap, v = .slice (some ⟨b, 0, none⟩) 1 cap ∧ b < w.heap.size ∧ OpCells w b 0 o ∧ ∀ n, w.frozen? ⟨b, n, none⟩ = false := by
  rcases h.2 with ⟨_, h0⟩ | ⟨g, cap, cur, hv, hg, hcur, hn, hm, hc, ht⟩
  · simp at h0
  · refine ⟨g, cap, hv, (Array.getElem?_eq_some_iff.1 hcur).1, fun i y hy => ?_, fun n => by simp [World.frozen?, hcur]⟩
    have hi : i < 22 := (List.getElem?_eq_some_iff.1 hy).1
    rw [World.cell?, hcur]
    simp only [Option.isSome_none, Bool.false_eq_true, if_false, Nat.zero_add]
    have h2 : ([o].flatMap encOp)[i]? = some y := by simpa using hy
    rw [← ht, List.getElem?_take, if_pos (by simp; omega), Array.getElem?_toList] at h2
    exact h2

theorem field_rng2 (x y z : Int) (w : World) : (Instr.field 95 (.agg #[.int .u64 x, .int .u64 y, .int .u64 z]) 2).run Tryz.prog w = .ok (.int .u64 z) w := by kernel_rfl
/-- the texts are no greater than texts may be. -/
def KSmall (K : List (Int × ByteArray)) : Prop := ∀ p ∈ K, p.2.size ≤ 1000000000000
set_option maxRecDepth 100000 in
set_option maxHeartbeats 4000000 in
theorem known_any (F : Nat → Prop) (sb : Nat) (K : List (Int × ByteArray)) (W : List QOp) (H : List QRng) (c : Int) (w : World) (h : StoreIn w F sb K W H) (hK : KSmall K) (hT : Tabs w) :
    Calls Tryz.prog 115 #[.pointer (some ⟨sb, 0, none⟩), .int .u64 c] w fun e w' => e = .returned (.int .u64 (kcount K c)) ∧ Below w.heap.size w w' := by
  obtain ⟨L, hS, _⟩ := h
  have hl := hS.lookRow c
  have s0 : w.cell? ⟨sb, 0, none⟩ = some (.map (some L.m)) := by simp [World.cell?, hS.st]
  unfold kcount
  cases hf : kfind K c with
  | none =>
    rw [hf] at hl
    replace hl : (Instr.lookup 80 (.map (some L.m)) (.int .u64 c) false).run Tryz.prog w = .ok (.slice none 0 0) w := hl
    clear hf hS
    go_enter Tryz.func115, Tryz.ntmps115
    go_wp2_with fail
    go_ret
    exact ⟨rfl, Below.refl _ _⟩
  | some t =>
    rw [hf] at hl
    have hm := kfind_mem hf
    obtain ⟨b, cap, hv, hb, hoc, _⟩ := OwnAt.one (hS.rows _ hm)
    replace hl : (Instr.lookup 80 (.map (some L.m)) (.int .u64 c) false).run Tryz.prog w = .ok (.slice (some ⟨b, 0, none⟩) 1 cap) w := by rw [hl, ← hv]; rfl
    have hs : t.size ≤ 1000000000000 := hK _ hm
    have hle := runesB_le t
    have hr := opsRange_any (kOp c t) w (by show t.size < _; omega) (by show (0 : Int) ≤ 1; omega) (by rw [kOp, tOp_len]; show (1 : Int) + _ < _; omega) hT
    rw [kOp, tOp_rng] at hr
    unfold tRng at hr
    have hload := load_op hoc
    dsimp only at hr hload ⊢
    have hn0 : 0 ≤ ((runesB t).length : Int) := by omega
    have hn1 : ((runesB t).length : Int) ≤ 1000000000000 := by omega
    generalize ((runesB t).length : Int) = N at hr hn0 hn1 ⊢
    clear hf hS hm hv hoc
    go_enter Tryz.func115, Tryz.ntmps115
    go_wp2_with (refine wpList_load_eq (T := 35) (v := opV (kOp c t)) rfl rfl rfl hload ?_)
    refine hr.mono ?_
    rintro e w1 ⟨rfl, hb1⟩
    have hfld := field_rng2 c 1 (1 + N)
    have hN1 : 1 + N - 1 = N := by omega
    go_wp2_with fail
    go_ret
    exact ⟨by simp, hb1⟩
end Go.Proofs.YthhbiliimdpgmaaGreatDoor
