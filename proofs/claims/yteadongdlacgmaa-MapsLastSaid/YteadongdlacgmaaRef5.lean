/- Walks: the document's answer's check of a set, and its comparison of two sets (quireref8.names, Check, Same). -/
import Derived.Test.YteadongdlacgmaaRef4
import Derived.Test.YteadongdlacgmaaOps
namespace Go.Proofs.Yteadongdlacgmaa
open Go.RowKit

/-- a set of the key k in the root. -/
def kOp (c k stamp : Int) (v : QVal) : QOp := ⟨⟨c, k⟩, 4, stamp, idZero, idZero, ⟨#[]⟩, v, ⟨#[107]⟩, idZero, idZero, false, idZero, false⟩

def NamesR (w : World) (e : Ending) (w' : World) : Prop := ∃ b, e = .returned (.slice (some ⟨b, 0, none⟩) 5 5) ∧ Below w.heap.size w w' ∧ (∃ t, w'.heap[b]? = some (.cells #[.int .u64 0, .int .u64 0, .int .u64 0, .int .u64 0, .int .u64 0, .int .u64 0, .int .u64 0, .int .u64 0, .int .u64 0, .int .u64 0] t (0, 0)))

set_option maxRecDepth 100000 in
set_option maxHeartbeats 1000000 in
theorem names8_k (c k st : Int) (v : QVal) (w : World) :
    Calls Try.prog 33 #[.agg #[.int .u64 c, .int .u64 k, .int .i64 4, .int .u64 st, .int .u64 0, .int .u64 0, .int .u64 0, .int .u64 0, .string ⟨#[]⟩, .int .i64 v.kind, .int .i64 v.n, .float .f64 v.f, .string v.s, .string ⟨#[107]⟩, .int .u64 0, .int .u64 0, .int .u64 0, .int .u64 0, .bool false, .int .u64 0, .int .u64 0, .bool false]] w (NamesR w) := by
  go_enter Try.func33, Try.ntmps33
  go_wp2
  go_ret
  refine ⟨w.heap.size + 1, rfl, by (repeat (first | exact Below.refl _ _ | assumption | refine Below.alloc ?_ (by simp <;> omega) _ | refine Below.drew ?_ | refine below_drewN ?_ _ | refine Below.setCell ?_ (by simp <;> omega) _ | refine belowTrans ?_ (by assumption))), 34, ?_⟩
  rw [alloc_heap_if, if_pos (by simp)]

set_option maxRecDepth 100000 in
set_option maxHeartbeats 1000000 in
theorem check8_k (c k st : Int) (v : QVal) (w : World) (hc1 : 1 ≤ c) (hc2 : c ≤ 1000) (hk1 : 1 ≤ k) (hk2 : k ≤ 1000) (hs1 : 1 ≤ st) (hs2 : st ≤ 1000) (hv : v.s.size ≤ 1000) :
    Calls Try.prog 17 #[.agg #[.int .u64 c, .int .u64 k, .int .i64 4, .int .u64 st, .int .u64 0, .int .u64 0, .int .u64 0, .int .u64 0, .string ⟨#[]⟩, .int .i64 v.kind, .int .i64 v.n, .float .f64 v.f, .string v.s, .string ⟨#[107]⟩, .int .u64 0, .int .u64 0, .int .u64 0, .int .u64 0, .bool false, .int .u64 0, .int .u64 0, .bool false]] w (IntR w) := by
  have hr : (⟨c, k⟩ : QId).rightB = true := by simp [QId.rightB, numB]; omega
  have h6 := fun w => right6_any ⟨c, k⟩ w
  rw [hr] at h6
  clear hr
  have hnn := fun w => none8_zero w
  go_enter Try.func17, Try.ntmps17
  go_upto_region 1 with fail
  obtain ⟨W, hW⟩ : ∃ W, w.alloc (.cells (encOp (kOp c k st v)).toArray 41) = W := ⟨_, rfl⟩
  have hB : Below w.heap.size w W := by rw [← hW]; (repeat (first | exact Below.refl _ _ | assumption | refine Below.alloc ?_ (by simp <;> omega) _ | refine Below.drew ?_ | refine below_drewN ?_ _ | refine Below.setCell ?_ (by simp <;> omega) _ | refine belowTrans ?_ (by assumption)))
  have hbx : OpBox W w.heap.size (kOp c k st v) := by rw [← hW]; exact OpBox.new _ _
  have hz0 : w.heap.size < W.heap.size := by rw [← hW]; simp
  change Code.wp _ _ _ _ (w.alloc (.cells (encOp (kOp c k st v)).toArray 41))
  rw [hW]
  clear hW
  have q0 : W.cell? ⟨w.heap.size, 0, none⟩ = some (.int .u64 c) := hbx.cells 0 _ rfl
  have q1 : W.cell? ⟨w.heap.size, 1, none⟩ = some (.int .u64 k) := hbx.cells 1 _ rfl
  have q2 : W.cell? ⟨w.heap.size, 2, none⟩ = some (.int .i64 4) := hbx.cells 2 _ rfl
  have q3 : W.cell? ⟨w.heap.size, 3, none⟩ = some (.int .u64 st) := hbx.cells 3 _ rfl
  have q4 : W.cell? ⟨w.heap.size, 4, none⟩ = some (.int .u64 0) := hbx.cells 4 _ rfl
  have q5 : W.cell? ⟨w.heap.size, 5, none⟩ = some (.int .u64 0) := hbx.cells 5 _ rfl
  have q6 : W.cell? ⟨w.heap.size, 6, none⟩ = some (.int .u64 0) := hbx.cells 6 _ rfl
  have q7 : W.cell? ⟨w.heap.size, 7, none⟩ = some (.int .u64 0) := hbx.cells 7 _ rfl
  have q8 : W.cell? ⟨w.heap.size, 8, none⟩ = some (.string ⟨#[]⟩) := hbx.cells 8 _ rfl
  have q9 : W.cell? ⟨w.heap.size, 9, none⟩ = some (.int .i64 v.kind) := hbx.cells 9 _ rfl
  have q10 : W.cell? ⟨w.heap.size, 10, none⟩ = some (.int .i64 v.n) := hbx.cells 10 _ rfl
  have q11 : W.cell? ⟨w.heap.size, 11, none⟩ = some (.float .f64 v.f) := hbx.cells 11 _ rfl
  have q12 : W.cell? ⟨w.heap.size, 12, none⟩ = some (.string v.s) := hbx.cells 12 _ rfl
  have q13 : W.cell? ⟨w.heap.size, 13, none⟩ = some (.string ⟨#[107]⟩) := hbx.cells 13 _ rfl
  have q14 : W.cell? ⟨w.heap.size, 14, none⟩ = some (.int .u64 0) := hbx.cells 14 _ rfl
  have q15 : W.cell? ⟨w.heap.size, 15, none⟩ = some (.int .u64 0) := hbx.cells 15 _ rfl
  have q16 : W.cell? ⟨w.heap.size, 16, none⟩ = some (.int .u64 0) := hbx.cells 16 _ rfl
  have q17 : W.cell? ⟨w.heap.size, 17, none⟩ = some (.int .u64 0) := hbx.cells 17 _ rfl
  have q18 : W.cell? ⟨w.heap.size, 18, none⟩ = some (.bool false) := hbx.cells 18 _ rfl
  have q19 : W.cell? ⟨w.heap.size, 19, none⟩ = some (.int .u64 0) := hbx.cells 19 _ rfl
  have q20 : W.cell? ⟨w.heap.size, 20, none⟩ = some (.int .u64 0) := hbx.cells 20 _ rfl
  have q21 : W.cell? ⟨w.heap.size, 21, none⟩ = some (.bool false) := hbx.cells 21 _ rfl
  go_wp2_with (first | (go_at_call 25; refine (h6 _).mono ?_; rintro e w1 ⟨rfl, hb1⟩; obtain ⟨hc, hf⟩ := bcell hb1; have hz := Nat.lt_of_lt_of_le (by assumption) hb1.size; have hbx := hbx.below hb1 (by assumption); have hB := belowTrans hB hb1) | (go_at_call 26; refine (named8_zero _).mono ?_; rintro e w1 ⟨rfl, hb1⟩; obtain ⟨hc, hf⟩ := bcell hb1; have hz := Nat.lt_of_lt_of_le (by assumption) hb1.size; have hbx := hbx.below hb1 (by assumption); have hB := belowTrans hB hb1) | (go_at_call 27; refine (none8_zero _).mono ?_; rintro e w1 ⟨rfl, hb1⟩; obtain ⟨hc, hf⟩ := bcell hb1; have hz := Nat.lt_of_lt_of_le (by assumption) hb1.size; have hbx := hbx.below hb1 (by assumption); have hB := belowTrans hB hb1) | (go_at_call 28; refine (check2_any v hv _).mono ?_; rintro e w1 ⟨cv, rfl, hb1⟩; obtain ⟨hc, hf⟩ := bcell hb1; have hz := Nat.lt_of_lt_of_le (by assumption) hb1.size; have hbx := hbx.below hb1 (by assumption); have hB := belowTrans hB hb1) | (go_at_call 32; refine (key8_k _).mono ?_; rintro e w1 ⟨kb, rfl, hb1⟩; obtain ⟨hc, hf⟩ := bcell hb1; have hz := Nat.lt_of_lt_of_le (by assumption) hb1.size; have hbx := hbx.below hb1 (by assumption); have hB := belowTrans hB hb1) | (refine wpList_load_eq (T := 41) rfl rfl rfl hbx.load ?_) | (go_at_call 33; refine (names8_k c k st v _).mono ?_; rintro e w1 ⟨nb, rfl, hb1, nt, hnb⟩; obtain ⟨hc, hf⟩ := bcell hb1; have hz := Nat.lt_of_lt_of_le (by assumption) hb1.size; have hbx := hbx.below hb1 (by assumption); have hB := belowTrans hB hb1))
  rotate_left
  · go_ret
    exact ⟨_, rfl, hB⟩
  · go_ret
    exact ⟨_, rfl, hB⟩
  obtain ⟨W5, hW5⟩ : ∃ W5, w1 = W5 := ⟨_, rfl⟩
  rw [hW5] at hB hnb ⊢
  have hz10 : ∀ i, i < 10 → W5.cell? ⟨nb, i, none⟩ = some (.int .u64 0) := fun i hi => by
    have : i = 0 ∨ i = 1 ∨ i = 2 ∨ i = 3 ∨ i = 4 ∨ i = 5 ∨ i = 6 ∨ i = 7 ∨ i = 8 ∨ i = 9 := by omega
    rcases this with rfl | rfl | rfl | rfl | rfl | rfl | rfl | rfl | rfl | rfl <;> simp [World.cell?, hnb]
  have hq0 : W5.cell? ⟨w.heap.size, 0, none⟩ = some (.int .u64 c) := by rw [← hW5]; exact hbx.cells 0 _ rfl
  have h0c : ((0 : Int) == c) = false := by simp; omega
  clear hbx hc hf hb1 q0 q1 q2 q3 q4 q5 q6 q7 q8 q9 q10 q11 q12 q13 q14 q15 q16 q17 q18 q19 q20 q21 hW5 hnn h6 hnb hz
  have hnl : nb < W5.heap.size := by
    rcases Nat.lt_or_ge nb W5.heap.size with h | h
    · exact h
    · have := hz10 0 (by omega)
      simp [World.cell?, Array.getElem?_eq_none h] at this
  have hwl : w.heap.size < W5.heap.size := by
    rcases Nat.lt_or_ge w.heap.size W5.heap.size with h | h
    · exact h
    · simp [World.cell?, Array.getElem?_eq_none h] at hq0
  go_loopw [11] (fun i wr => ∃ j : Nat, j ≤ 5 ∧ i = .int .i64 j ∧ Below W5.heap.size W5 wr) (fun i _ => 5 - (intOf i).toNat)
  case atStart => exact ⟨0, by omega, rfl, Below.refl _ _⟩
  case round =>
    obtain ⟨j, hj, rfl, hbr⟩ := hrel
    by_cases hlt : j < 5
    · have hl0 : wr.cell? ⟨nb, j * 2, none⟩ = some (.int .u64 0) := (hbr.cell (p := ⟨nb, j * 2, none⟩) hnl).trans (hz10 (j * 2) (by omega))
      have hr0 : wr.cell? ⟨w.heap.size, 0, none⟩ = some (.int .u64 c) := (hbr.cell (p := ⟨w.heap.size, 0, none⟩) hwl).trans hq0
      clear hz10 hq0
      go_wp2_with fail
      go_quiet (fail)
      go_wp2_with fail
      go_roundw
      case rel => exact ⟨j + 1, by omega, by go_num, below_drewN hbr _⟩
      case measure => simp [intOf]; omega
    · obtain rfl : j = 5 := by omega
      go_wp2_with fail
      go_ret
      exact ⟨_, rfl, hB.trans (hbr.mono hB.size)⟩
end Go.Proofs.Yteadongdlacgmaa
