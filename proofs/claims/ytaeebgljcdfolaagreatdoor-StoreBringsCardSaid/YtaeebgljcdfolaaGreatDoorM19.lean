/- Walk: ops.follows, ops.Fits at texts. -/
import Derived.Test.YtaeebgljcdfolaaGreatDoorM18
import Derived.Test.YtaeebgljcdfolaaGreatDoorM09
namespace Go.Proofs.YtaeebgljcdfolaaGreatDoor
open Go.RowKit Go.Lib

set_option maxRecDepth 100000 in
set_option maxHeartbeats 4000000 in
theorem follows_yes (i l r : QId) (t u : ByteArray) (N : Int) (w : World) (hN : N = (runesB t).length) (hs : t.size ≤ 1000000000000) (hi0 : 1 ≤ i.k) (hi : i.k + N < 18446744073709551616) (hT : Tabs w) :
    Calls Tryz.prog 66 #[opV (tOp i l r t), opV (tOp ⟨i.c, i.k + N⟩ ⟨i.c, i.k + N - 1⟩ r u)] w fun x w' => x = .returned (.bool true) ∧ Below w.heap.size w w' := by
  have hrange := fun w hT => opsRange_any (tOp i l r t) w (by show t.size < _; omega) (by show 0 ≤ i.k; omega) (by rw [tOp_len]; show i.k + _ < _; omega) hT
  rw [tOp_rng] at hrange
  unfold tRng at hrange
  rw [← hN] at hrange
  have hN0 : 0 ≤ N := by omega
  clear hN
  have he1 := eqlId ⟨i.c, i.k + N - 1⟩ ⟨i.c, i.k + N - 1⟩
  have he2 := eqlId r r
  rw [decide_eq_true rfl] at he1 he2
  change Calls Tryz.prog 66 #[.agg #[.int .u64 i.c, .int .u64 i.k, .int .i64 1, .int .u64 0, .int .u64 l.c, .int .u64 l.k, .int .u64 r.c, .int .u64 r.k, .string t, .int .i64 0, .int .i64 0, .float .f64 0, .string ⟨#[]⟩, .string ⟨#[]⟩, .int .u64 0, .int .u64 0, .int .u64 0, .int .u64 0, .bool false, .int .u64 0, .int .u64 0, .bool false], .agg #[.int .u64 (⟨i.c, i.k + N⟩ : QId).c, .int .u64 (⟨i.c, i.k + N⟩ : QId).k, .int .i64 1, .int .u64 0, .int .u64 (⟨i.c, i.k + N - 1⟩ : QId).c, .int .u64 (⟨i.c, i.k + N - 1⟩ : QId).k, .int .u64 r.c, .int .u64 r.k, .string u, .int .i64 0, .int .i64 0, .float .f64 0, .string ⟨#[]⟩, .string ⟨#[]⟩, .int .u64 0, .int .u64 0, .int .u64 0, .int .u64 0, .bool false, .int .u64 0, .int .u64 0, .bool false]] w _
  go_enter Tryz.func66, Tryz.ntmps66
  go_upto_region 1 with fail
  obtain ⟨W, hW⟩ : ∃ W, (w.alloc (.cells (encOp (tOp i l r t)).toArray 35)).alloc (.cells (encOp (tOp ⟨i.c, i.k + N⟩ ⟨i.c, i.k + N - 1⟩ r u)).toArray 35) = W := ⟨_, rfl⟩
  have hB : Below w.heap.size w W := by rw [← hW]; exact ((Below.refl _ _).alloc (Nat.le_refl _) _).alloc (by simp) _
  have hbx : OpBox W w.heap.size (tOp i l r t) := by rw [← hW]; exact (OpBox.new w (tOp i l r t)).below ((Below.refl _ _).alloc (Nat.le_refl _) _) (by simp)
  have hby : OpBox W (w.heap.size + 1) (tOp ⟨i.c, i.k + N⟩ ⟨i.c, i.k + N - 1⟩ r u) := by rw [← hW]; have := OpBox.new (w.alloc (.cells (encOp (tOp i l r t)).toArray 35)) (tOp ⟨i.c, i.k + N⟩ ⟨i.c, i.k + N - 1⟩ r u); rwa [World.size_alloc] at this
  change Code.wp _ _ _ _ ((w.alloc (.cells (encOp (tOp i l r t)).toArray 35)).alloc (.cells (encOp (tOp ⟨i.c, i.k + N⟩ ⟨i.c, i.k + N - 1⟩ r u)).toArray 35))
  rw [hW]
  clear hW
  have hz0 : w.heap.size < W.heap.size := hbx.lt
  have hz1 : w.heap.size + 1 < W.heap.size := hby.lt
  go_upto_region 2 with (first | (refine wpList_load_eq (T := 35) (v := opV (tOp i l r t)) rfl rfl rfl hbx.load ?_) | (go_at_call 32; refine (hrange _ (hT.below hB)).mono ?_; rintro e1 w1 ⟨rfl, hb1⟩))
  have hrb : RngBox (w1.alloc (.cells #[.int .u64 i.c, .int .u64 i.k, .int .u64 (i.k + N)] 72)) w1.heap.size ⟨i.c, i.k, i.k + N⟩ := heap_alloc_new w1 _
  have hb2 : Below W.heap.size W (w1.alloc (.cells #[.int .u64 i.c, .int .u64 i.k, .int .u64 (i.k + N)] 72)) := hb1.alloc hb1.size _
  obtain ⟨w2, hw2⟩ : ∃ w2, w1.alloc (.cells #[.int .u64 i.c, .int .u64 i.k, .int .u64 (i.k + N)] 72) = w2 := ⟨_, rfl⟩
  rw [hw2] at hrb hb2 ⊢
  have hbx2 := hbx.below hb2 hz0
  have hby2 := hby.below hb2 hz1
  have hB2 := belowTrans hB hb2
  have hx2 := hbx2.lt
  have hy2 := hby2.lt
  have hr2 := hrb.lt
  obtain ⟨c0, c1, c2⟩ := hrb.cells
  obtain ⟨X, hX⟩ : ∃ X, w1.heap.size = X := ⟨_, rfl⟩
  rw [hX] at c0 c1 c2 hr2 ⊢
  clear hw2 hb1 hb2 hrb hbx hby hB hz0 hz1 hX hrange
  clear W
  clear w1
  have p0 : w2.cell? ⟨w.heap.size, 0, none⟩ = some (.int .u64 i.c) := hbx2.cells 0 _ rfl
  have p1 : w2.cell? ⟨w.heap.size, 1, none⟩ = some (.int .u64 i.k) := hbx2.cells 1 _ rfl
  have p2 : w2.cell? ⟨w.heap.size, 2, none⟩ = some (.int .i64 1) := hbx2.cells 2 _ rfl
  have p3 : w2.cell? ⟨w.heap.size, 3, none⟩ = some (.int .u64 0) := hbx2.cells 3 _ rfl
  have p4 : w2.cell? ⟨w.heap.size, 4, none⟩ = some (.int .u64 l.c) := hbx2.cells 4 _ rfl
  have p5 : w2.cell? ⟨w.heap.size, 5, none⟩ = some (.int .u64 l.k) := hbx2.cells 5 _ rfl
  have p6 : w2.cell? ⟨w.heap.size, 6, none⟩ = some (.int .u64 r.c) := hbx2.cells 6 _ rfl
  have p7 : w2.cell? ⟨w.heap.size, 7, none⟩ = some (.int .u64 r.k) := hbx2.cells 7 _ rfl
  have p8 : w2.cell? ⟨w.heap.size, 8, none⟩ = some (.string t) := hbx2.cells 8 _ rfl
  have p9 : w2.cell? ⟨w.heap.size, 9, none⟩ = some (.int .i64 0) := hbx2.cells 9 _ rfl
  have p10 : w2.cell? ⟨w.heap.size, 10, none⟩ = some (.int .i64 0) := hbx2.cells 10 _ rfl
  have p11 : w2.cell? ⟨w.heap.size, 11, none⟩ = some (.float .f64 0) := hbx2.cells 11 _ rfl
  have p12 : w2.cell? ⟨w.heap.size, 12, none⟩ = some (.string ⟨#[]⟩) := hbx2.cells 12 _ rfl
  have p13 : w2.cell? ⟨w.heap.size, 13, none⟩ = some (.string ⟨#[]⟩) := hbx2.cells 13 _ rfl
  have p14 : w2.cell? ⟨w.heap.size, 14, none⟩ = some (.int .u64 0) := hbx2.cells 14 _ rfl
  have p15 : w2.cell? ⟨w.heap.size, 15, none⟩ = some (.int .u64 0) := hbx2.cells 15 _ rfl
  have p16 : w2.cell? ⟨w.heap.size, 16, none⟩ = some (.int .u64 0) := hbx2.cells 16 _ rfl
  have p17 : w2.cell? ⟨w.heap.size, 17, none⟩ = some (.int .u64 0) := hbx2.cells 17 _ rfl
  have p18 : w2.cell? ⟨w.heap.size, 18, none⟩ = some (.bool false) := hbx2.cells 18 _ rfl
  have p19 : w2.cell? ⟨w.heap.size, 19, none⟩ = some (.int .u64 0) := hbx2.cells 19 _ rfl
  have p20 : w2.cell? ⟨w.heap.size, 20, none⟩ = some (.int .u64 0) := hbx2.cells 20 _ rfl
  have p21 : w2.cell? ⟨w.heap.size, 21, none⟩ = some (.bool false) := hbx2.cells 21 _ rfl
  have q0 : w2.cell? ⟨(w.heap.size + 1), 0, none⟩ = some (.int .u64 (⟨i.c, i.k + N⟩ : QId).c) := hby2.cells 0 _ rfl
  have q1 : w2.cell? ⟨(w.heap.size + 1), 1, none⟩ = some (.int .u64 (⟨i.c, i.k + N⟩ : QId).k) := hby2.cells 1 _ rfl
  have q2 : w2.cell? ⟨(w.heap.size + 1), 2, none⟩ = some (.int .i64 1) := hby2.cells 2 _ rfl
  have q3 : w2.cell? ⟨(w.heap.size + 1), 3, none⟩ = some (.int .u64 0) := hby2.cells 3 _ rfl
  have q4 : w2.cell? ⟨(w.heap.size + 1), 4, none⟩ = some (.int .u64 (⟨i.c, i.k + N - 1⟩ : QId).c) := hby2.cells 4 _ rfl
  have q5 : w2.cell? ⟨(w.heap.size + 1), 5, none⟩ = some (.int .u64 (⟨i.c, i.k + N - 1⟩ : QId).k) := hby2.cells 5 _ rfl
  have q6 : w2.cell? ⟨(w.heap.size + 1), 6, none⟩ = some (.int .u64 r.c) := hby2.cells 6 _ rfl
  have q7 : w2.cell? ⟨(w.heap.size + 1), 7, none⟩ = some (.int .u64 r.k) := hby2.cells 7 _ rfl
  have q8 : w2.cell? ⟨(w.heap.size + 1), 8, none⟩ = some (.string u) := hby2.cells 8 _ rfl
  have q9 : w2.cell? ⟨(w.heap.size + 1), 9, none⟩ = some (.int .i64 0) := hby2.cells 9 _ rfl
  have q10 : w2.cell? ⟨(w.heap.size + 1), 10, none⟩ = some (.int .i64 0) := hby2.cells 10 _ rfl
  have q11 : w2.cell? ⟨(w.heap.size + 1), 11, none⟩ = some (.float .f64 0) := hby2.cells 11 _ rfl
  have q12 : w2.cell? ⟨(w.heap.size + 1), 12, none⟩ = some (.string ⟨#[]⟩) := hby2.cells 12 _ rfl
  have q13 : w2.cell? ⟨(w.heap.size + 1), 13, none⟩ = some (.string ⟨#[]⟩) := hby2.cells 13 _ rfl
  have q14 : w2.cell? ⟨(w.heap.size + 1), 14, none⟩ = some (.int .u64 0) := hby2.cells 14 _ rfl
  have q15 : w2.cell? ⟨(w.heap.size + 1), 15, none⟩ = some (.int .u64 0) := hby2.cells 15 _ rfl
  have q16 : w2.cell? ⟨(w.heap.size + 1), 16, none⟩ = some (.int .u64 0) := hby2.cells 16 _ rfl
  have q17 : w2.cell? ⟨(w.heap.size + 1), 17, none⟩ = some (.int .u64 0) := hby2.cells 17 _ rfl
  have q18 : w2.cell? ⟨(w.heap.size + 1), 18, none⟩ = some (.bool false) := hby2.cells 18 _ rfl
  have q19 : w2.cell? ⟨(w.heap.size + 1), 19, none⟩ = some (.int .u64 0) := hby2.cells 19 _ rfl
  have q20 : w2.cell? ⟨(w.heap.size + 1), 20, none⟩ = some (.int .u64 0) := hby2.cells 20 _ rfl
  have q21 : w2.cell? ⟨(w.heap.size + 1), 21, none⟩ = some (.bool false) := hby2.cells 21 _ rfl
  clear p3 p4 p5 p8 p9 p10 p11 p12 p13 p14 p15 p16 p17 p18 p19 p20 p21 q3 q8 q9 q10 q11 q12 q13 q14 q15 q16 q17 q18 q19 q20 q21 hbx2 hby2
  go_wp2_with fail
  go_ret
  exact ⟨rfl, hB2⟩
set_option maxRecDepth 100000 in
set_option maxHeartbeats 4000000 in
theorem follows_no (i l r j m s : QId) (t u : ByteArray) (w : World) (hs : t.size ≤ 1000000000000) (hi0 : 1 ≤ i.k) (hi : i.k + (runesB t).length < 18446744073709551616) (hij : i.c ≠ j.c) (hT : Tabs w) :
    Calls Tryz.prog 66 #[opV (tOp i l r t), opV (tOp j m s u)] w fun x w' => x = .returned (.bool false) ∧ Below w.heap.size w w' := by
  have hrange := fun w hT => opsRange_any (tOp i l r t) w (by show t.size < _; omega) (by show 0 ≤ i.k; omega) (by rw [tOp_len]; show i.k + _ < _; omega) hT
  rw [tOp_rng] at hrange
  unfold tRng at hrange
  generalize ((runesB t).length : Int) = N at hi hrange
  have d1 : decide (i.c = j.c) = false := by simp [hij]
  change Calls Tryz.prog 66 #[.agg #[.int .u64 i.c, .int .u64 i.k, .int .i64 1, .int .u64 0, .int .u64 l.c, .int .u64 l.k, .int .u64 r.c, .int .u64 r.k, .string t, .int .i64 0, .int .i64 0, .float .f64 0, .string ⟨#[]⟩, .string ⟨#[]⟩, .int .u64 0, .int .u64 0, .int .u64 0, .int .u64 0, .bool false, .int .u64 0, .int .u64 0, .bool false], .agg #[.int .u64 j.c, .int .u64 j.k, .int .i64 1, .int .u64 0, .int .u64 m.c, .int .u64 m.k, .int .u64 s.c, .int .u64 s.k, .string u, .int .i64 0, .int .i64 0, .float .f64 0, .string ⟨#[]⟩, .string ⟨#[]⟩, .int .u64 0, .int .u64 0, .int .u64 0, .int .u64 0, .bool false, .int .u64 0, .int .u64 0, .bool false]] w _
  go_enter Tryz.func66, Tryz.ntmps66
  go_upto_region 1 with fail
  obtain ⟨W, hW⟩ : ∃ W, (w.alloc (.cells (encOp (tOp i l r t)).toArray 35)).alloc (.cells (encOp (tOp j m s u)).toArray 35) = W := ⟨_, rfl⟩
  have hB : Below w.heap.size w W := by rw [← hW]; exact ((Below.refl _ _).alloc (Nat.le_refl _) _).alloc (by simp) _
  have hbx : OpBox W w.heap.size (tOp i l r t) := by rw [← hW]; exact (OpBox.new w (tOp i l r t)).below ((Below.refl _ _).alloc (Nat.le_refl _) _) (by simp)
  have hby : OpBox W (w.heap.size + 1) (tOp j m s u) := by rw [← hW]; have := OpBox.new (w.alloc (.cells (encOp (tOp i l r t)).toArray 35)) (tOp j m s u); rwa [World.size_alloc] at this
  change Code.wp _ _ _ _ ((w.alloc (.cells (encOp (tOp i l r t)).toArray 35)).alloc (.cells (encOp (tOp j m s u)).toArray 35))
  rw [hW]
  clear hW
  have hz0 : w.heap.size < W.heap.size := hbx.lt
  have hz1 : w.heap.size + 1 < W.heap.size := hby.lt
  go_upto_region 2 with (first | (refine wpList_load_eq (T := 35) (v := opV (tOp i l r t)) rfl rfl rfl hbx.load ?_) | (go_at_call 32; refine (hrange _ (hT.below hB)).mono ?_; rintro e1 w1 ⟨rfl, hb1⟩))
  have hrb : RngBox (w1.alloc (.cells #[.int .u64 i.c, .int .u64 i.k, .int .u64 (i.k + N)] 72)) w1.heap.size ⟨i.c, i.k, i.k + N⟩ := heap_alloc_new w1 _
  have hb2 : Below W.heap.size W (w1.alloc (.cells #[.int .u64 i.c, .int .u64 i.k, .int .u64 (i.k + N)] 72)) := hb1.alloc hb1.size _
  obtain ⟨w2, hw2⟩ : ∃ w2, w1.alloc (.cells #[.int .u64 i.c, .int .u64 i.k, .int .u64 (i.k + N)] 72) = w2 := ⟨_, rfl⟩
  rw [hw2] at hrb hb2 ⊢
  have hbx2 := hbx.below hb2 hz0
  have hby2 := hby.below hb2 hz1
  have hB2 := belowTrans hB hb2
  have hx2 := hbx2.lt
  have hy2 := hby2.lt
  have hr2 := hrb.lt
  obtain ⟨c0, c1, c2⟩ := hrb.cells
  obtain ⟨X, hX⟩ : ∃ X, w1.heap.size = X := ⟨_, rfl⟩
  rw [hX] at c0 c1 c2 hr2 ⊢
  clear hw2 hb1 hb2 hrb hbx hby hB hz0 hz1 hX hrange
  clear W
  clear w1
  have p0 : w2.cell? ⟨w.heap.size, 0, none⟩ = some (.int .u64 i.c) := hbx2.cells 0 _ rfl
  have p1 : w2.cell? ⟨w.heap.size, 1, none⟩ = some (.int .u64 i.k) := hbx2.cells 1 _ rfl
  have p2 : w2.cell? ⟨w.heap.size, 2, none⟩ = some (.int .i64 1) := hbx2.cells 2 _ rfl
  have p3 : w2.cell? ⟨w.heap.size, 3, none⟩ = some (.int .u64 0) := hbx2.cells 3 _ rfl
  have p4 : w2.cell? ⟨w.heap.size, 4, none⟩ = some (.int .u64 l.c) := hbx2.cells 4 _ rfl
  have p5 : w2.cell? ⟨w.heap.size, 5, none⟩ = some (.int .u64 l.k) := hbx2.cells 5 _ rfl
  have p6 : w2.cell? ⟨w.heap.size, 6, none⟩ = some (.int .u64 r.c) := hbx2.cells 6 _ rfl
  have p7 : w2.cell? ⟨w.heap.size, 7, none⟩ = some (.int .u64 r.k) := hbx2.cells 7 _ rfl
  have p8 : w2.cell? ⟨w.heap.size, 8, none⟩ = some (.string t) := hbx2.cells 8 _ rfl
  have p9 : w2.cell? ⟨w.heap.size, 9, none⟩ = some (.int .i64 0) := hbx2.cells 9 _ rfl
  have p10 : w2.cell? ⟨w.heap.size, 10, none⟩ = some (.int .i64 0) := hbx2.cells 10 _ rfl
  have p11 : w2.cell? ⟨w.heap.size, 11, none⟩ = some (.float .f64 0) := hbx2.cells 11 _ rfl
  have p12 : w2.cell? ⟨w.heap.size, 12, none⟩ = some (.string ⟨#[]⟩) := hbx2.cells 12 _ rfl
  have p13 : w2.cell? ⟨w.heap.size, 13, none⟩ = some (.string ⟨#[]⟩) := hbx2.cells 13 _ rfl
  have p14 : w2.cell? ⟨w.heap.size, 14, none⟩ = some (.int .u64 0) := hbx2.cells 14 _ rfl
  have p15 : w2.cell? ⟨w.heap.size, 15, none⟩ = some (.int .u64 0) := hbx2.cells 15 _ rfl
  have p16 : w2.cell? ⟨w.heap.size, 16, none⟩ = some (.int .u64 0) := hbx2.cells 16 _ rfl
  have p17 : w2.cell? ⟨w.heap.size, 17, none⟩ = some (.int .u64 0) := hbx2.cells 17 _ rfl
  have p18 : w2.cell? ⟨w.heap.size, 18, none⟩ = some (.bool false) := hbx2.cells 18 _ rfl
  have p19 : w2.cell? ⟨w.heap.size, 19, none⟩ = some (.int .u64 0) := hbx2.cells 19 _ rfl
  have p20 : w2.cell? ⟨w.heap.size, 20, none⟩ = some (.int .u64 0) := hbx2.cells 20 _ rfl
  have p21 : w2.cell? ⟨w.heap.size, 21, none⟩ = some (.bool false) := hbx2.cells 21 _ rfl
  have q0 : w2.cell? ⟨(w.heap.size + 1), 0, none⟩ = some (.int .u64 j.c) := hby2.cells 0 _ rfl
  have q1 : w2.cell? ⟨(w.heap.size + 1), 1, none⟩ = some (.int .u64 j.k) := hby2.cells 1 _ rfl
  have q2 : w2.cell? ⟨(w.heap.size + 1), 2, none⟩ = some (.int .i64 1) := hby2.cells 2 _ rfl
  have q3 : w2.cell? ⟨(w.heap.size + 1), 3, none⟩ = some (.int .u64 0) := hby2.cells 3 _ rfl
  have q4 : w2.cell? ⟨(w.heap.size + 1), 4, none⟩ = some (.int .u64 m.c) := hby2.cells 4 _ rfl
  have q5 : w2.cell? ⟨(w.heap.size + 1), 5, none⟩ = some (.int .u64 m.k) := hby2.cells 5 _ rfl
  have q6 : w2.cell? ⟨(w.heap.size + 1), 6, none⟩ = some (.int .u64 s.c) := hby2.cells 6 _ rfl
  have q7 : w2.cell? ⟨(w.heap.size + 1), 7, none⟩ = some (.int .u64 s.k) := hby2.cells 7 _ rfl
  have q8 : w2.cell? ⟨(w.heap.size + 1), 8, none⟩ = some (.string u) := hby2.cells 8 _ rfl
  have q9 : w2.cell? ⟨(w.heap.size + 1), 9, none⟩ = some (.int .i64 0) := hby2.cells 9 _ rfl
  have q10 : w2.cell? ⟨(w.heap.size + 1), 10, none⟩ = some (.int .i64 0) := hby2.cells 10 _ rfl
  have q11 : w2.cell? ⟨(w.heap.size + 1), 11, none⟩ = some (.float .f64 0) := hby2.cells 11 _ rfl
  have q12 : w2.cell? ⟨(w.heap.size + 1), 12, none⟩ = some (.string ⟨#[]⟩) := hby2.cells 12 _ rfl
  have q13 : w2.cell? ⟨(w.heap.size + 1), 13, none⟩ = some (.string ⟨#[]⟩) := hby2.cells 13 _ rfl
  have q14 : w2.cell? ⟨(w.heap.size + 1), 14, none⟩ = some (.int .u64 0) := hby2.cells 14 _ rfl
  have q15 : w2.cell? ⟨(w.heap.size + 1), 15, none⟩ = some (.int .u64 0) := hby2.cells 15 _ rfl
  have q16 : w2.cell? ⟨(w.heap.size + 1), 16, none⟩ = some (.int .u64 0) := hby2.cells 16 _ rfl
  have q17 : w2.cell? ⟨(w.heap.size + 1), 17, none⟩ = some (.int .u64 0) := hby2.cells 17 _ rfl
  have q18 : w2.cell? ⟨(w.heap.size + 1), 18, none⟩ = some (.bool false) := hby2.cells 18 _ rfl
  have q19 : w2.cell? ⟨(w.heap.size + 1), 19, none⟩ = some (.int .u64 0) := hby2.cells 19 _ rfl
  have q20 : w2.cell? ⟨(w.heap.size + 1), 20, none⟩ = some (.int .u64 0) := hby2.cells 20 _ rfl
  have q21 : w2.cell? ⟨(w.heap.size + 1), 21, none⟩ = some (.bool false) := hby2.cells 21 _ rfl
  clear p3 p4 p5 p8 p9 p10 p11 p12 p13 p14 p15 p16 p17 p18 p19 p20 p21 q3 q8 q9 q10 q11 q12 q13 q14 q15 q16 q17 q18 q19 q20 q21 hbx2 hby2
  go_wp2_with fail
  go_ret
  exact ⟨rfl, hB2⟩
set_option maxRecDepth 100000 in
set_option maxHeartbeats 4000000 in
theorem fits_yes (i l r : QId) (t u : ByteArray) (N : Int) (w : World) (hN : N = (runesB t).length) (hs : t.size ≤ 1000000000000) (hs2 : u.size ≤ 1000000000000) (hi0 : 1 ≤ i.k) (hi : i.k + N < 18446744073709551616) (hle : N + (runesB u).length ≤ 4096) (hT : Tabs w) :
    Calls Tryz.prog 40 #[opV (tOp i l r t), opV (tOp ⟨i.c, i.k + N⟩ ⟨i.c, i.k + N - 1⟩ r u)] w fun x w' => x = .returned (.bool true) ∧ Below w.heap.size w w' := by
  have hfol := fun w hT => follows_yes i l r t u N w hN hs hi0 hi hT
  have hl1 := fun w hT => opsLen_any (tOp i l r t) w (by show t.size < _; omega) hT
  rw [tOp_len, ← hN] at hl1
  have hl2 := fun w hT => opsLen_any (tOp ⟨i.c, i.k + N⟩ ⟨i.c, i.k + N - 1⟩ r u) w (by show u.size < _; omega) hT
  rw [tOp_len] at hl2
  have hN0 : 0 ≤ N := by omega
  have hM0 : 0 ≤ ((runesB u).length : Int) := by omega
  generalize ((runesB u).length : Int) = M at hle hl2 hM0
  clear hN
  have d1 : decide (N + M ≤ 4096) = true := by simp; omega
  generalize hx : tOp i l r t = x at hfol hl1 ⊢
  generalize hy : tOp ⟨i.c, i.k + N⟩ ⟨i.c, i.k + N - 1⟩ r u = y at hfol hl2 ⊢
  clear hx hy
  change Calls Tryz.prog 40 #[.agg #[.int .u64 x.id.c, .int .u64 x.id.k, .int .i64 x.kind, .int .u64 x.stamp, .int .u64 x.left.c, .int .u64 x.left.k, .int .u64 x.right.c, .int .u64 x.right.k, .string x.text, .int .i64 x.v.kind, .int .i64 x.v.n, .float .f64 x.v.f, .string x.v.s, .string x.key, .int .u64 x.parent.c, .int .u64 x.parent.k, .int .u64 x.frm.c, .int .u64 x.frm.k, .bool x.frmA, .int .u64 x.til.c, .int .u64 x.til.k, .bool x.tilA], .agg #[.int .u64 y.id.c, .int .u64 y.id.k, .int .i64 y.kind, .int .u64 y.stamp, .int .u64 y.left.c, .int .u64 y.left.k, .int .u64 y.right.c, .int .u64 y.right.k, .string y.text, .int .i64 y.v.kind, .int .i64 y.v.n, .float .f64 y.v.f, .string y.v.s, .string y.key, .int .u64 y.parent.c, .int .u64 y.parent.k, .int .u64 y.frm.c, .int .u64 y.frm.k, .bool y.frmA, .int .u64 y.til.c, .int .u64 y.til.k, .bool y.tilA]] w _
  go_enter Tryz.func40, Tryz.ntmps40
  go_upto_region 1 with fail
  obtain ⟨W, hW⟩ : ∃ W, (w.alloc (.cells (encOp x).toArray 35)).alloc (.cells (encOp y).toArray 35) = W := ⟨_, rfl⟩
  have hB : Below w.heap.size w W := by rw [← hW]; exact ((Below.refl _ _).alloc (Nat.le_refl _) _).alloc (by simp) _
  have hbx : OpBox W w.heap.size x := by rw [← hW]; exact (OpBox.new w x).below ((Below.refl _ _).alloc (Nat.le_refl _) _) (by simp)
  have hby : OpBox W (w.heap.size + 1) y := by rw [← hW]; have := OpBox.new (w.alloc (.cells (encOp x).toArray 35)) y; rwa [World.size_alloc] at this
  change Code.wp _ _ _ _ ((w.alloc (.cells (encOp x).toArray 35)).alloc (.cells (encOp y).toArray 35))
  rw [hW]
  clear hW
  have hz0 : w.heap.size < W.heap.size := hbx.lt
  have hz1 : w.heap.size + 1 < W.heap.size := hby.lt
  have l1 : ∀ w', (∃ s : BStep W, w' = s.val) → (loadVar 35 ⟨w.heap.size, 0, none⟩).run Tryz.prog w' = .ok (opV x) w' := by
    rintro _ ⟨s, rfl⟩
    exact OpBox.load ((s.h.block _ hz0).trans hbx)
  have l2 : ∀ w', (∃ s : BStep W, w' = s.val) → (loadVar 35 ⟨w.heap.size + 1, 0, none⟩).run Tryz.prog w' = .ok (opV y) w' := by
    rintro _ ⟨s, rfl⟩
    exact OpBox.load ((s.h.block _ hz1).trans hby)
  have hTW : ∀ s : BStep W, Tabs s.val := fun s => (hT.below hB).below s.h
  refine wp_region_b (by kernel_rfl) (by kernel_rfl) ?_
  repeat (first | go_big_quiet_skip | (go_big_quiet_want; first | ((first | refine quiet_load 35 _ _ rfl rfl l1 ?_ | refine quiet_load 35 _ _ rfl rfl l2 ?_); go_frame; go_big_quiet_on) | (go_big_quiet_op; first | go_big_quiet_on | go_big_quiet_call ((first | (go_at_call 66; exact callsB (hfol _ (hTW _))) | (go_at_call 48; first | exact callsB (hl1 _ (hTW _)) | exact callsB (hl2 _ (hTW _))))))))
  refine wpQuiet_nil ?_
  intro W' hC'
  have hBW' := BStep.of hC'
  go_wp2_with fail
  go_ret
  exact ⟨rfl, belowTrans hB hBW'⟩
end Go.Proofs.YtaeebgljcdfolaaGreatDoor
