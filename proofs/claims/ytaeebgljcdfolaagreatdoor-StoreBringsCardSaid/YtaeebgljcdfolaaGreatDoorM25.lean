/- Walk: the document's answer's check of a text (quireref8.Check). -/
import Derived.Test.YtaeebgljcdfolaaGreatDoorM24
namespace Go.Proofs.YtaeebgljcdfolaaGreatDoor
open Go.RowKit Go.Lib

set_option maxRecDepth 100000 in
set_option maxHeartbeats 4000000 in
/-- what the check says once it is known whether the text is right. -/
theorem check8_b (c : Int) (t : ByteArray) (N : Nat) (bt r : Bool) (w : World) (hc1 : 1 ≤ c) (hc2 : c ≤ 1000) (hN : N ≤ 4096)
    (hl : ∀ w, Calls Tryz.prog 25 #[.string t] w fun e w' => e = .returned (.int .i64 (N : Int)) ∧ Below w.heap.size w w')
    (hk : ∀ w, Calls Tryz.prog 26 #[.string t] w fun e w' => e = .returned (.bool bt) ∧ Below w.heap.size w w')
    (hr : (bt = true ∧ 1 ≤ N ∧ r = true) ∨ (bt = true ∧ N = 0 ∧ r = false) ∨ (bt = false ∧ r = false)) :
    Calls Tryz.prog 6 #[opV (kOp c t)] w fun e w' => e = .returned (.int .i64 (if r = true then 0 else 120)) ∧ Below w.heap.size w w' := by
  have hrt : (⟨c, 1⟩ : QId).rightB = true := by simp [QId.rightB, numB]; omega
  have h6 := fun w => right6_any ⟨c, 1⟩ w
  rw [hrt] at h6
  clear hrt
  have hnn := fun w => none8_zero w
  have h2 := check2_null
  have hzz := zero8_null
  change Calls Tryz.prog 6 #[.agg #[.int .u64 (⟨c, 1⟩ : QId).c, .int .u64 (⟨c, 1⟩ : QId).k, .int .i64 1, .int .u64 0, .int .u64 idZero.c, .int .u64 idZero.k, .int .u64 idZero.c, .int .u64 idZero.k, .string t, .int .i64 0, .int .i64 0, .float .f64 0, .string ⟨#[]⟩, .string ⟨#[]⟩, .int .u64 0, .int .u64 0, .int .u64 0, .int .u64 0, .bool false, .int .u64 0, .int .u64 0, .bool false]] w _
  go_enter Tryz.func6, Tryz.ntmps6
  go_upto_region 1 with fail
  obtain ⟨W, hW⟩ : ∃ W, w.alloc (.cells (encOp (kOp c t)).toArray 35) = W := ⟨_, rfl⟩
  have hB : Below w.heap.size w W := by rw [← hW]; exact (Below.refl _ _).alloc (Nat.le_refl _) _
  have hbx : OpBox W w.heap.size (kOp c t) := by rw [← hW]; exact OpBox.new _ _
  change Code.wp _ _ _ _ (w.alloc (.cells (encOp (kOp c t)).toArray 35))
  rw [hW]
  clear hW
  have q0 : W.cell? ⟨w.heap.size, 0, none⟩ = some (.int .u64 (⟨c, 1⟩ : QId).c) := hbx.cells 0 _ rfl
  have q1 : W.cell? ⟨w.heap.size, 1, none⟩ = some (.int .u64 (⟨c, 1⟩ : QId).k) := hbx.cells 1 _ rfl
  have q2 : W.cell? ⟨w.heap.size, 2, none⟩ = some (.int .i64 1) := hbx.cells 2 _ rfl
  have q3 : W.cell? ⟨w.heap.size, 3, none⟩ = some (.int .u64 0) := hbx.cells 3 _ rfl
  have q4 : W.cell? ⟨w.heap.size, 4, none⟩ = some (.int .u64 idZero.c) := hbx.cells 4 _ rfl
  have q5 : W.cell? ⟨w.heap.size, 5, none⟩ = some (.int .u64 idZero.k) := hbx.cells 5 _ rfl
  have q6 : W.cell? ⟨w.heap.size, 6, none⟩ = some (.int .u64 idZero.c) := hbx.cells 6 _ rfl
  have q7 : W.cell? ⟨w.heap.size, 7, none⟩ = some (.int .u64 idZero.k) := hbx.cells 7 _ rfl
  have q8 : W.cell? ⟨w.heap.size, 8, none⟩ = some (.string t) := hbx.cells 8 _ rfl
  have q9 : W.cell? ⟨w.heap.size, 9, none⟩ = some (.int .i64 0) := hbx.cells 9 _ rfl
  have q10 : W.cell? ⟨w.heap.size, 10, none⟩ = some (.int .i64 0) := hbx.cells 10 _ rfl
  have q11 : W.cell? ⟨w.heap.size, 11, none⟩ = some (.float .f64 0) := hbx.cells 11 _ rfl
  have q12 : W.cell? ⟨w.heap.size, 12, none⟩ = some (.string ⟨#[]⟩) := hbx.cells 12 _ rfl
  have q13 : W.cell? ⟨w.heap.size, 13, none⟩ = some (.string ⟨#[]⟩) := hbx.cells 13 _ rfl
  have q14 : W.cell? ⟨w.heap.size, 14, none⟩ = some (.int .u64 0) := hbx.cells 14 _ rfl
  have q15 : W.cell? ⟨w.heap.size, 15, none⟩ = some (.int .u64 0) := hbx.cells 15 _ rfl
  have q16 : W.cell? ⟨w.heap.size, 16, none⟩ = some (.int .u64 0) := hbx.cells 16 _ rfl
  have q17 : W.cell? ⟨w.heap.size, 17, none⟩ = some (.int .u64 0) := hbx.cells 17 _ rfl
  have q18 : W.cell? ⟨w.heap.size, 18, none⟩ = some (.bool false) := hbx.cells 18 _ rfl
  have q19 : W.cell? ⟨w.heap.size, 19, none⟩ = some (.int .u64 0) := hbx.cells 19 _ rfl
  have q20 : W.cell? ⟨w.heap.size, 20, none⟩ = some (.int .u64 0) := hbx.cells 20 _ rfl
  have q21 : W.cell? ⟨w.heap.size, 21, none⟩ = some (.bool false) := hbx.cells 21 _ rfl
  have hz0 := hbx.lt
  dsimp only [idZero] at q0 q1 q4 q5 q6 q7
  go_upto_region 8 with (first | (go_at_call 21; refine (h6 _).mono ?_; rintro e w1 ⟨rfl, hb1⟩; obtain ⟨hc, hf⟩ := bcell hb1; have hz := Nat.lt_of_lt_of_le (by assumption) hb1.size; have hbx := hbx.below hb1 (by assumption); have hB := belowTrans hB hb1) | (go_at_call 22; refine (named8_zero _).mono ?_; rintro e w1 ⟨rfl, hb1⟩; obtain ⟨hc, hf⟩ := bcell hb1; have hz := Nat.lt_of_lt_of_le (by assumption) hb1.size; have hbx := hbx.below hb1 (by assumption); have hB := belowTrans hB hb1) | (go_at_call 23; refine (hnn _).mono ?_; rintro e w1 ⟨rfl, hb1⟩; obtain ⟨hc, hf⟩ := bcell hb1; have hz := Nat.lt_of_lt_of_le (by assumption) hb1.size; have hbx := hbx.below hb1 (by assumption); have hB := belowTrans hB hb1))
  obtain ⟨X, hX⟩ : ∃ X, w1 = X := ⟨_, rfl⟩
  rw [hX] at hbx hB ⊢
  clear hb1 hc hf hz hX q0 q1 q2 q3 q4 q5 q6 q7 q8 q9 q10 q11 q12 q13 q14 q15 q16 q17 q18 q19 q20 q21
  clear hz0
  have hz0 := hbx.lt
  have q0 : X.cell? ⟨w.heap.size, 0, none⟩ = some (.int .u64 (⟨c, 1⟩ : QId).c) := hbx.cells 0 _ rfl
  have q1 : X.cell? ⟨w.heap.size, 1, none⟩ = some (.int .u64 (⟨c, 1⟩ : QId).k) := hbx.cells 1 _ rfl
  have q2 : X.cell? ⟨w.heap.size, 2, none⟩ = some (.int .i64 1) := hbx.cells 2 _ rfl
  have q3 : X.cell? ⟨w.heap.size, 3, none⟩ = some (.int .u64 0) := hbx.cells 3 _ rfl
  have q4 : X.cell? ⟨w.heap.size, 4, none⟩ = some (.int .u64 idZero.c) := hbx.cells 4 _ rfl
  have q5 : X.cell? ⟨w.heap.size, 5, none⟩ = some (.int .u64 idZero.k) := hbx.cells 5 _ rfl
  have q6 : X.cell? ⟨w.heap.size, 6, none⟩ = some (.int .u64 idZero.c) := hbx.cells 6 _ rfl
  have q7 : X.cell? ⟨w.heap.size, 7, none⟩ = some (.int .u64 idZero.k) := hbx.cells 7 _ rfl
  have q8 : X.cell? ⟨w.heap.size, 8, none⟩ = some (.string t) := hbx.cells 8 _ rfl
  have q9 : X.cell? ⟨w.heap.size, 9, none⟩ = some (.int .i64 0) := hbx.cells 9 _ rfl
  have q10 : X.cell? ⟨w.heap.size, 10, none⟩ = some (.int .i64 0) := hbx.cells 10 _ rfl
  have q11 : X.cell? ⟨w.heap.size, 11, none⟩ = some (.float .f64 0) := hbx.cells 11 _ rfl
  have q12 : X.cell? ⟨w.heap.size, 12, none⟩ = some (.string ⟨#[]⟩) := hbx.cells 12 _ rfl
  have q13 : X.cell? ⟨w.heap.size, 13, none⟩ = some (.string ⟨#[]⟩) := hbx.cells 13 _ rfl
  have q14 : X.cell? ⟨w.heap.size, 14, none⟩ = some (.int .u64 0) := hbx.cells 14 _ rfl
  have q15 : X.cell? ⟨w.heap.size, 15, none⟩ = some (.int .u64 0) := hbx.cells 15 _ rfl
  have q16 : X.cell? ⟨w.heap.size, 16, none⟩ = some (.int .u64 0) := hbx.cells 16 _ rfl
  have q17 : X.cell? ⟨w.heap.size, 17, none⟩ = some (.int .u64 0) := hbx.cells 17 _ rfl
  have q18 : X.cell? ⟨w.heap.size, 18, none⟩ = some (.bool false) := hbx.cells 18 _ rfl
  have q19 : X.cell? ⟨w.heap.size, 19, none⟩ = some (.int .u64 0) := hbx.cells 19 _ rfl
  have q20 : X.cell? ⟨w.heap.size, 20, none⟩ = some (.int .u64 0) := hbx.cells 20 _ rfl
  have q21 : X.cell? ⟨w.heap.size, 21, none⟩ = some (.bool false) := hbx.cells 21 _ rfl
  dsimp only [idZero] at q0 q1 q4 q5 q6 q7
  rcases hr with ⟨rfl, hN1, rfl⟩ | ⟨rfl, rfl, rfl⟩ | ⟨rfl, rfl⟩
  · have hNz : (1 : Int) ≤ (N : Int) := by omega
    have hNy : (N : Int) ≤ 4096 := by omega
    have hle : (1 : Int) + N - 1 ≤ 9007199254740991 := by omega
    go_upto_region 21 with (first | (go_at_call 24; refine (h2 _).mono ?_; rintro e w1 ⟨rfl, hb1⟩; obtain ⟨hc, hf⟩ := bcell hb1; have hz := Nat.lt_of_lt_of_le (by assumption) hb1.size; have hbx := hbx.below hb1 (by assumption); have hB := belowTrans hB hb1) | (go_at_call 25; refine (hl _).mono ?_; rintro e w1 ⟨rfl, hb1⟩; obtain ⟨hc, hf⟩ := bcell hb1; have hz := Nat.lt_of_lt_of_le (by assumption) hb1.size; have hbx := hbx.below hb1 (by assumption); have hB := belowTrans hB hb1) | (go_at_call 26; refine (hk _).mono ?_; rintro e w1 ⟨rfl, hb1⟩; obtain ⟨hc, hf⟩ := bcell hb1; have hz := Nat.lt_of_lt_of_le (by assumption) hb1.size; have hbx := hbx.below hb1 (by assumption); have hB := belowTrans hB hb1) | (go_at_call 27; refine (hzz _).mono ?_; rintro e w1 ⟨rfl, hb1⟩; obtain ⟨hc, hf⟩ := bcell hb1; have hz := Nat.lt_of_lt_of_le (by assumption) hb1.size; have hbx := hbx.below hb1 (by assumption); have hB := belowTrans hB hb1) | (go_at_call 23; refine (hnn _).mono ?_; rintro e w1 ⟨rfl, hb1⟩; obtain ⟨hc, hf⟩ := bcell hb1; have hz := Nat.lt_of_lt_of_le (by assumption) hb1.size; have hbx := hbx.below hb1 (by assumption); have hB := belowTrans hB hb1))
    obtain ⟨Y, hY⟩ : ∃ Y, w1 = Y := ⟨_, rfl⟩
    rw [hY] at hbx hB ⊢
    clear hb1 hc hf hz hY q0 q1 q2 q3 q4 q5 q6 q7 q8 q9 q10 q11 q12 q13 q14 q15 q16 q17 q18 q19 q20 q21 hz0 hl hk hnn h6 h2 hzz
    go_upto_region 22 with (first | (refine wpList_load_eq (T := 35) (v := opV (kOp c t)) rfl rfl rfl hbx.load ?_) | (go_at_call 29; refine (names8_t c t _).mono ?_; rintro e w2 ⟨nb, rfl, hb2, nt, hnb⟩))
    have hbx2 := hbx.below hb2 hbx.lt
    have hB2 := belowTrans hB hb2
    clear hbx hB hb2
    have hz10 : ∀ i, i < 10 → w2.cell? ⟨nb, i, none⟩ = some (.int .u64 0) := fun i hi => by
      have : i = 0 ∨ i = 1 ∨ i = 2 ∨ i = 3 ∨ i = 4 ∨ i = 5 ∨ i = 6 ∨ i = 7 ∨ i = 8 ∨ i = 9 := by omega
      rcases this with rfl | rfl | rfl | rfl | rfl | rfl | rfl | rfl | rfl | rfl <;> simp [World.cell?, hnb]
    have hnl : nb < w2.heap.size := (Array.getElem?_eq_some_iff.1 hnb).1
    have hq0 : w2.cell? ⟨w.heap.size, 0, none⟩ = some (.int .u64 c) := hbx2.cells 0 _ rfl
    have hwl := hbx2.lt
    have h0c : ((0 : Int) == c) = false := by simp; omega
    clear hbx2 hnb
    go_wp2_with fail
    go_loopw [11] (fun i wr => ∃ j : Nat, j ≤ 5 ∧ i = .int .i64 j ∧ Below w2.heap.size w2 wr) (fun i _ => 5 - (intOf i).toNat)
    case atStart => exact ⟨0, by omega, rfl, Below.refl _ _⟩
    case round =>
      obtain ⟨j, hj, rfl, hbr⟩ := hrel
      by_cases hlt : j < 5
      · have hl0 : wr.cell? ⟨nb, j * 2, none⟩ = some (.int .u64 0) := (hbr.cell (p := ⟨nb, j * 2, none⟩) hnl).trans (hz10 (j * 2) (by omega))
        have hr0 : wr.cell? ⟨w.heap.size, 0, none⟩ = some (.int .u64 c) := (hbr.cell (p := ⟨w.heap.size, 0, none⟩) hwl).trans hq0
        clear hz10 hq0
        go_wp2_with fail
        go_quiet (fail)
        go_wp2_with fail
        go_roundw
        case rel => exact ⟨j + 1, by omega, by go_num, below_drewN hbr _⟩
        case measure => simp [intOf]; omega
      · obtain rfl : j = 5 := by omega
        go_wp2_with fail
        go_ret
        exact ⟨rfl, hB2.trans (hbr.mono hB2.size)⟩
  · go_wp2_with (first | (go_at_call 24; refine (h2 _).mono ?_; rintro e w1 ⟨rfl, hb1⟩; obtain ⟨hc, hf⟩ := bcell hb1; have hz := Nat.lt_of_lt_of_le (by assumption) hb1.size; have hbx := hbx.below hb1 (by assumption); have hB := belowTrans hB hb1) | (go_at_call 25; refine (hl _).mono ?_; rintro e w1 ⟨rfl, hb1⟩; obtain ⟨hc, hf⟩ := bcell hb1; have hz := Nat.lt_of_lt_of_le (by assumption) hb1.size; have hbx := hbx.below hb1 (by assumption); have hB := belowTrans hB hb1) | (go_at_call 26; refine (hk _).mono ?_; rintro e w1 ⟨rfl, hb1⟩; obtain ⟨hc, hf⟩ := bcell hb1; have hz := Nat.lt_of_lt_of_le (by assumption) hb1.size; have hbx := hbx.below hb1 (by assumption); have hB := belowTrans hB hb1) | (go_at_call 27; refine (hzz _).mono ?_; rintro e w1 ⟨rfl, hb1⟩; obtain ⟨hc, hf⟩ := bcell hb1; have hz := Nat.lt_of_lt_of_le (by assumption) hb1.size; have hbx := hbx.below hb1 (by assumption); have hB := belowTrans hB hb1) | (go_at_call 23; refine (hnn _).mono ?_; rintro e w1 ⟨rfl, hb1⟩; obtain ⟨hc, hf⟩ := bcell hb1; have hz := Nat.lt_of_lt_of_le (by assumption) hb1.size; have hbx := hbx.below hb1 (by assumption); have hB := belowTrans hB hb1))
    go_ret
    exact ⟨rfl, hB⟩
  · go_wp2_with (first | (go_at_call 24; refine (h2 _).mono ?_; rintro e w1 ⟨rfl, hb1⟩; obtain ⟨hc, hf⟩ := bcell hb1; have hz := Nat.lt_of_lt_of_le (by assumption) hb1.size; have hbx := hbx.below hb1 (by assumption); have hB := belowTrans hB hb1) | (go_at_call 25; refine (hl _).mono ?_; rintro e w1 ⟨rfl, hb1⟩; obtain ⟨hc, hf⟩ := bcell hb1; have hz := Nat.lt_of_lt_of_le (by assumption) hb1.size; have hbx := hbx.below hb1 (by assumption); have hB := belowTrans hB hb1) | (go_at_call 26; refine (hk _).mono ?_; rintro e w1 ⟨rfl, hb1⟩; obtain ⟨hc, hf⟩ := bcell hb1; have hz := Nat.lt_of_lt_of_le (by assumption) hb1.size; have hbx := hbx.below hb1 (by assumption); have hB := belowTrans hB hb1) | (go_at_call 27; refine (hzz _).mono ?_; rintro e w1 ⟨rfl, hb1⟩; obtain ⟨hc, hf⟩ := bcell hb1; have hz := Nat.lt_of_lt_of_le (by assumption) hb1.size; have hbx := hbx.below hb1 (by assumption); have hB := belowTrans hB hb1) | (go_at_call 23; refine (hnn _).mono ?_; rintro e w1 ⟨rfl, hb1⟩; obtain ⟨hc, hf⟩ := bcell hb1; have hz := Nat.lt_of_lt_of_le (by assumption) hb1.size; have hbx := hbx.below hb1 (by assumption); have hB := belowTrans hB hb1))
    go_ret
    exact ⟨rfl, hB⟩
theorem check8_k (c : Int) (t : ByteArray) (w : World) (hc1 : 1 ≤ c) (hc2 : c ≤ 1000) (hs : t.size ≤ 1000) :
    Calls Tryz.prog 6 #[opV (kOp c t)] w fun e w' => e = .returned (.int .i64 (if okT t = true then 0 else 120)) ∧ Below w.heap.size w w' := by
  have hle := runesB_le t
  refine check8_b c t (runesB t).length (okB t) (okT t) w hc1 hc2 (by omega) (fun w => len3_any t (by omega) w) (fun w => chk3_any t (by omega) w) ?_
  cases h : okB t with
  | false => exact .inr (.inr ⟨rfl, by simp [okT, h]⟩)
  | true =>
    have h2 := runes_size h
    rcases Nat.eq_zero_or_pos (runesB t).length with h0 | h0
    · exact .inr (.inl ⟨rfl, h0, by simp [okT, h]; omega⟩)
    · exact .inl ⟨rfl, h0, by simp [okT, h]; omega⟩
end Go.Proofs.YtaeebgljcdfolaaGreatDoor
/- Walk: the document's answer's cut of a text (quireref8.Cut). -/
namespace Go.Proofs.YtaeebgljcdfolaaGreatDoor
open Go.RowKit Go.Lib

set_option maxRecDepth 100000 in
set_option maxHeartbeats 4000000 in
theorem cut8_t (i l r : QId) (t : ByteArray) (f e : Nat) (w : World) (hs : t.size ≤ 1000000) (hfe : f < e) (heN : e ≤ (runesB t).length) (hi0 : 0 ≤ i.k) (hi : i.k + f < 18446744073709551616) :
    Calls Tryz.prog 9 #[opV (tOp i l r t), .int .i64 f, .int .i64 e] w fun x w' => x = .returned (.tuple #[opV (cutT i l r t f e), .bool true]) ∧ Below w.heap.size w w' := by
  have hlen := fun w => len8_t i l r t w (by omega)
  have hcut := fun w => cut3_any t f e w (by omega) hfe heN
  have hNs := runesB_le t
  generalize ((runesB t).length) = N at hlen heN hNs
  unfold cutT
  generalize cutB t f e = C at hcut ⊢
  obtain ⟨Lf, hLf⟩ : ∃ x, (if 0 < f then (⟨i.c, i.k + f - 1⟩ : QId) else l) = x := ⟨_, rfl⟩
  rw [hLf]
  have HLf := Lib.hid hLf
  clear hLf
  change Calls Tryz.prog 9 #[.agg #[.int .u64 i.c, .int .u64 i.k, .int .i64 1, .int .u64 0, .int .u64 l.c, .int .u64 l.k, .int .u64 r.c, .int .u64 r.k, .string t, .int .i64 0, .int .i64 0, .float .f64 0, .string ⟨#[]⟩, .string ⟨#[]⟩, .int .u64 0, .int .u64 0, .int .u64 0, .int .u64 0, .bool false, .int .u64 0, .int .u64 0, .bool false], .int .i64 f, .int .i64 e] w _
  go_enter Tryz.func9, Tryz.ntmps9
  go_upto_region 1 with fail
  obtain ⟨W, hW⟩ : ∃ W, (w.alloc (.cells (encOp (tOp i l r t)).toArray 35)).alloc (.cells (encOp opZero).toArray 35) = W := ⟨_, rfl⟩
  have hB : Below w.heap.size w W := by rw [← hW]; exact ((Below.refl _ _).alloc (Nat.le_refl _) _).alloc (by simp) _
  have hbx : OpBox W w.heap.size (tOp i l r t) := by rw [← hW]; exact (OpBox.new w (tOp i l r t)).below ((Below.refl _ _).alloc (Nat.le_refl _) _) (by simp)
  have hby : OpBox W (w.heap.size + 1) opZero := by rw [← hW]; have := OpBox.new (w.alloc (.cells (encOp (tOp i l r t)).toArray 35)) opZero; rwa [World.size_alloc] at this
  change Code.wp _ _ _ _ ((w.alloc (.cells (encOp (tOp i l r t)).toArray 35)).alloc (.cells (encOp opZero).toArray 35))
  rw [hW]
  clear hW
  have hz0 : w.heap.size < W.heap.size := hbx.lt
  have hz1 : w.heap.size + 1 < W.heap.size := hby.lt
  have d1 : decide ((f : Int) < 0) = false := by simp
  have d2 : decide (e ≤ f) = false := by simp; omega
  have d2x : ¬ e ≤ f := by omega
  have d3 : decide (N < e) = false := by simp; omega
  have d3x : ¬ N < e := by omega
  go_upto_region 4 with (first | (refine wpList_load_eq (T := 35) (v := opV (tOp i l r t)) rfl rfl rfl hbx.load ?_) | (go_at_call 8; refine (hlen _).mono ?_; rintro e1 w1 ⟨rfl, hb1⟩))
  have hbx1 := hbx.below hb1 hbx.lt
  have hby1 := hby.below hb1 hby.lt
  have hB2 := belowTrans hB hb1
  clear hbx hby hB hb1 hlen d1 d2 d3 d2x d3x hz0 hz1
  clear W
  have q0 : w1.cell? ⟨w.heap.size, 0, none⟩ = some (.int .u64 i.c) := hbx1.cells 0 _ rfl
  have q1 : w1.cell? ⟨w.heap.size, 1, none⟩ = some (.int .u64 i.k) := hbx1.cells 1 _ rfl
  have q2 : w1.cell? ⟨w.heap.size, 2, none⟩ = some (.int .i64 1) := hbx1.cells 2 _ rfl
  have q4 : w1.cell? ⟨w.heap.size, 4, none⟩ = some (.int .u64 l.c) := hbx1.cells 4 _ rfl
  have q5 : w1.cell? ⟨w.heap.size, 5, none⟩ = some (.int .u64 l.k) := hbx1.cells 5 _ rfl
  have f1 := hbx1.f 1
  have f4 := hbx1.f 4
  have f5 := hbx1.f 5
  go_upto_region 6 with fail
  rcases Nat.eq_zero_or_pos f with h0 | h0
  · have hLf := HLf.out
    rw [if_neg (by omega)] at hLf
    subst hLf
    clear HLf
    have hfz : decide ((0 : Int) < (f : Int)) = false := by simp; omega
    have hkf : i.k + (f : Int) = i.k := by omega
    have HTI : Hid (tOp ⟨i.c, i.k + f⟩ l r C = tOp i l r C) := Lib.hid (by rw [hkf])
    have hfn : ¬ 0 < f := by omega
    clear hkf h0
    go_upto_region 9 with fail
    have hbx7 := hbx1
    have hby7 := hby1
    have hB7 := hB2
    clear hbx1 hby1 hB2 q0 q1 q2 q4 q5 f1 f4 f5
    obtain ⟨w7, hw7⟩ : ∃ w7, w1 = w7 := ⟨_, rfl⟩
    rw [hw7] at hbx7 hby7 hB7 ⊢
    clear hw7
    have q8 : w7.cell? ⟨w.heap.size, 8, none⟩ = some (.string t) := hbx7.cells 8 _ rfl
    have f8 := hbx7.f 8
    have hx7 := hbx7.lt
    go_upto_region 10 with (go_at_call 30; refine (hcut _).mono ?_; rintro e1 w8 ⟨rfl, hb8⟩; obtain ⟨hc8, hf8⟩ := bcell hb8)
    have hbx8 : OpBox (w8.setCell ⟨w.heap.size, 8, none⟩ (.string C)) w.heap.size (tOp i l r C) := (hbx7.below hb8 hbx7.lt).setText C
    have hB8 := (belowTrans hB7 hb8).setCell (p := ⟨w.heap.size, 8, none⟩) (Nat.le_refl _) (.string C)
    have hby8 : OpBox (w8.setCell ⟨w.heap.size, 8, none⟩ (.string C)) (w.heap.size + 1) opZero := (Below.heap_setCell _ _ _ _ (by show ¬ w.heap.size + 1 = w.heap.size; omega)).trans (hby7.below hb8 hby7.lt)
    obtain ⟨w9, hw9⟩ : ∃ w9, w8.setCell ⟨w.heap.size, 8, none⟩ (.string C) = w9 := ⟨_, rfl⟩
    rw [hw9] at hbx8 hB8 hby8 ⊢
    clear hw9 hx7 q8 f8 hc8 hf8 hb8 hbx7 hby7 hB7 hcut
    clear w7 w8
    have hres := Lib.hid (hby8.put (tOp i l r C)).load
    go_wp2_with (first | (refine wpList_load_eq (T := 35) (v := opV (tOp i l r C)) rfl rfl rfl hbx8.load ?_) | (refine wpList_store_eq (T := 35) (v := opV (tOp i l r C)) rfl rfl rfl rfl (OpBox.store hby8 (tOp i l r C)) ?_))
    refine bodyPost_ret (v := .tuple #[opV (tOp i l r C), .bool true]) ?_ rfl ⟨by rw [HTI.out], below_putOp hB8 (by omega) _⟩
    have h9 := hres.out
    simp [results, Tryz.results9, asAddr, h9]
  · have hLf := HLf.out
    rw [if_pos h0] at hLf
    subst hLf
    clear HLf
    have hfz : decide ((0 : Int) < (f : Int)) = true := by simp; omega
    have h1 : (1 : Int) ≤ (f : Int) := by omega
    go_upto_region 9 with fail
    have hbx7 : OpBox (((w1.setCell ⟨w.heap.size, 4, none⟩ (.int .u64 i.c)).setCell ⟨w.heap.size, 5, none⟩ (.int .u64 (i.k + f - 1))).setCell ⟨w.heap.size, 1, none⟩ (.int .u64 (i.k + f))) w.heap.size (tOp ⟨i.c, i.k + f⟩ ⟨i.c, i.k + f - 1⟩ r t) := (hbx1.setL ⟨i.c, i.k + f - 1⟩).setK (i.k + f)
    have hB7 := ((hB2.setCell (p := ⟨w.heap.size, 4, none⟩) (Nat.le_refl _) (.int .u64 i.c)).setCell (p := ⟨w.heap.size, 5, none⟩) (Nat.le_refl _) (.int .u64 (i.k + f - 1))).setCell (p := ⟨w.heap.size, 1, none⟩) (Nat.le_refl _) (.int .u64 (i.k + f))
    have hby7 : OpBox (((w1.setCell ⟨w.heap.size, 4, none⟩ (.int .u64 i.c)).setCell ⟨w.heap.size, 5, none⟩ (.int .u64 (i.k + f - 1))).setCell ⟨w.heap.size, 1, none⟩ (.int .u64 (i.k + f))) (w.heap.size + 1) opZero := (((Below.heap_setCell _ _ _ _ (by show ¬ w.heap.size + 1 = w.heap.size; omega)).trans (Below.heap_setCell _ _ _ _ (by show ¬ w.heap.size + 1 = w.heap.size; omega))).trans (Below.heap_setCell _ _ _ _ (by show ¬ w.heap.size + 1 = w.heap.size; omega))).trans hby1
    generalize ((w1.setCell ⟨w.heap.size, 4, none⟩ (.int .u64 i.c)).setCell ⟨w.heap.size, 5, none⟩ (.int .u64 (i.k + f - 1))).setCell ⟨w.heap.size, 1, none⟩ (.int .u64 (i.k + f)) = w7 at hbx7 hB7 hby7 ⊢
    clear hbx1 hby1 hB2 q0 q1 q2 q4 q5 f1 f4 f5
    clear w1
    have q8 : w7.cell? ⟨w.heap.size, 8, none⟩ = some (.string t) := hbx7.cells 8 _ rfl
    have f8 := hbx7.f 8
    have hx7 := hbx7.lt
    go_upto_region 10 with (go_at_call 30; refine (hcut _).mono ?_; rintro e1 w8 ⟨rfl, hb8⟩; obtain ⟨hc8, hf8⟩ := bcell hb8)
    have hbx8 : OpBox (w8.setCell ⟨w.heap.size, 8, none⟩ (.string C)) w.heap.size (tOp ⟨i.c, i.k + f⟩ ⟨i.c, i.k + f - 1⟩ r C) := (hbx7.below hb8 hbx7.lt).setText C
    have hB8 := (belowTrans hB7 hb8).setCell (p := ⟨w.heap.size, 8, none⟩) (Nat.le_refl _) (.string C)
    have hby8 : OpBox (w8.setCell ⟨w.heap.size, 8, none⟩ (.string C)) (w.heap.size + 1) opZero := (Below.heap_setCell _ _ _ _ (by show ¬ w.heap.size + 1 = w.heap.size; omega)).trans (hby7.below hb8 hby7.lt)
    obtain ⟨w9, hw9⟩ : ∃ w9, w8.setCell ⟨w.heap.size, 8, none⟩ (.string C) = w9 := ⟨_, rfl⟩
    rw [hw9] at hbx8 hB8 hby8 ⊢
    clear hw9 hx7 q8 f8 hc8 hf8 hb8 hbx7 hby7 hB7 hcut
    clear w7 w8
    have hres := Lib.hid (hby8.put (tOp ⟨i.c, i.k + f⟩ ⟨i.c, i.k + f - 1⟩ r C)).load
    go_wp2_with (first | (refine wpList_load_eq (T := 35) (v := opV (tOp ⟨i.c, i.k + f⟩ ⟨i.c, i.k + f - 1⟩ r C)) rfl rfl rfl hbx8.load ?_) | (refine wpList_store_eq (T := 35) (v := opV (tOp ⟨i.c, i.k + f⟩ ⟨i.c, i.k + f - 1⟩ r C)) rfl rfl rfl rfl (OpBox.store hby8 (tOp ⟨i.c, i.k + f⟩ ⟨i.c, i.k + f - 1⟩ r C)) ?_))
    refine bodyPost_ret (v := .tuple #[opV (tOp ⟨i.c, i.k + f⟩ ⟨i.c, i.k + f - 1⟩ r C), .bool true]) ?_ rfl ⟨rfl, below_putOp hB8 (by omega) _⟩
    have h9 := hres.out
    simp [results, Tryz.results9, asAddr, h9]
end Go.Proofs.YtaeebgljcdfolaaGreatDoor
