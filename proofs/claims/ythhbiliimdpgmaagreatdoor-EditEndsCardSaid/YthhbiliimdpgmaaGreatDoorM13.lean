/- Walk: ops.Cut of a text. -/
import Derived.Test.YthhbiliimdpgmaaGreatDoorM10
import Derived.Test.YthhbiliimdpgmaaGreatDoorM12
import Derived.Test.YthhbiliimdpgmaaGreatDoorM01
namespace Go.Proofs.YthhbiliimdpgmaaGreatDoor
open Go.RowKit Go.Lib

/-- a part of a text. -/
def cutT (i l r : QId) (t : ByteArray) (f e : Nat) : QOp := tOp ⟨i.c, i.k + f⟩ (if 0 < f then ⟨i.c, i.k + f - 1⟩ else l) r (cutB t f e)
theorem OpBox.setVz {w : World} {b : Nat} {i l r : QId} {t : ByteArray} (h : OpBox w b (tOp i l r t)) :
    OpBox ((((w.setCell ⟨b, 9, none⟩ (.int .i64 0)).setCell ⟨b, 10, none⟩ (.int .i64 0)).setCell ⟨b, 11, none⟩ (.float .f64 0)).setCell ⟨b, 12, none⟩ (.string ⟨#[]⟩)) b (tOp i l r t) := by
  unfold OpBox at *
  simp [World.setCell, Array.getElem?_modify, h, encOp, tOp, valZero]
  rfl
theorem runesB_le (t : ByteArray) : (runesB t).length ≤ t.size := by
  unfold runesB
  cases e : runesL t.data.toList with
  | none => simp
  | some rs =>
    obtain ⟨h1, _⟩ := runesL_of e
    have := (ebytes_length rs).1
    rw [h1] at this
    simpa using this
theorem OpBox.setK {w : World} {b : Nat} {o : QOp} (h : OpBox w b o) (k : Int) : OpBox (w.setCell ⟨b, 1, none⟩ (.int .u64 k)) b { o with id := ⟨o.id.c, k⟩ } := by
  unfold OpBox at *
  simp [World.setCell, Array.getElem?_modify, h, encOp]
set_option maxRecDepth 100000 in
set_option maxHeartbeats 4000000 in
theorem opsCut_t (i l r : QId) (t : ByteArray) (f e : Nat) (w : World) (hs : t.size ≤ 1000000000000) (hfe : f < e) (heN : e ≤ (runesB t).length) (hi0 : 0 ≤ i.k) (hi : i.k + f < 18446744073709551616) (hT : Tabs w) :
    Calls Tryz.prog 33 #[opV (tOp i l r t), .int .i64 f, .int .i64 e] w fun x w' => x = .returned (.tuple #[opV (cutT i l r t f e), .bool true]) ∧ Below w.heap.size w w' := by
  have hlen := fun w hT => opsLen_any (tOp i l r t) w (by show t.size < _; omega) hT
  rw [tOp_len] at hlen
  have hclean := valClean_any valZero
  have hcut := fun w hT => utfCut_any t f e w hs hT
  have hNs := runesB_le t
  generalize ((runesB t).length) = N at hlen heN hNs
  unfold cutT
  generalize cutB t f e = C at hcut ⊢
  obtain ⟨Lf, hLf⟩ : ∃ x, (if 0 < f then (⟨i.c, i.k + f - 1⟩ : QId) else l) = x := ⟨_, rfl⟩
  rw [hLf]
  have HLf := Lib.hid hLf
  clear hLf
  change Calls Tryz.prog 33 #[.agg #[.int .u64 i.c, .int .u64 i.k, .int .i64 1, .int .u64 0, .int .u64 l.c, .int .u64 l.k, .int .u64 r.c, .int .u64 r.k, .string t, .int .i64 0, .int .i64 0, .float .f64 0, .string ⟨#[]⟩, .string ⟨#[]⟩, .int .u64 0, .int .u64 0, .int .u64 0, .int .u64 0, .bool false, .int .u64 0, .int .u64 0, .bool false], .int .i64 f, .int .i64 e] w _
  go_enter Tryz.func33, Tryz.ntmps33
  go_upto_region 1 with fail
  obtain ⟨W, hW⟩ : ∃ W, (w.alloc (.cells (encOp (tOp i l r t)).toArray 35)).alloc (.cells (encOp opZero).toArray 35) = W := ⟨_, rfl⟩
  have hB : Below w.heap.size w W := by rw [← hW]; exact ((Below.refl _ _).alloc (Nat.le_refl _) _).alloc (by simp) _
  have hbx : OpBox W w.heap.size (tOp i l r t) := by rw [← hW]; exact (OpBox.new w (tOp i l r t)).below ((Below.refl _ _).alloc (Nat.le_refl _) _) (by simp)
  have hby : OpBox W (w.heap.size + 1) opZero := by rw [← hW]; have := OpBox.new (w.alloc (.cells (encOp (tOp i l r t)).toArray 35)) opZero; rwa [World.size_alloc] at this
  change Code.wp _ _ _ _ ((w.alloc (.cells (encOp (tOp i l r t)).toArray 35)).alloc (.cells (encOp opZero).toArray 35))
  rw [hW]
  clear hW
  have hz0 : w.heap.size < W.heap.size := hbx.lt
  have hz1 : w.heap.size + 1 < W.heap.size := hby.lt
  have d1 : decide ((f : Int) < 0) = false := by simp
  have d2 : decide (e ≤ f) = false := by simp; omega
  have d2x : ¬ e ≤ f := by omega
  have d3 : decide (N < e) = false := by simp; omega
  have d3x : ¬ N < e := by omega
  have q0 : W.cell? ⟨w.heap.size, 0, none⟩ = some (.int .u64 i.c) := hbx.cells 0 _ rfl
  have q1 : W.cell? ⟨w.heap.size, 1, none⟩ = some (.int .u64 i.k) := hbx.cells 1 _ rfl
  have q2 : W.cell? ⟨w.heap.size, 2, none⟩ = some (.int .i64 1) := hbx.cells 2 _ rfl
  have q3 : W.cell? ⟨w.heap.size, 3, none⟩ = some (.int .u64 0) := hbx.cells 3 _ rfl
  have q4 : W.cell? ⟨w.heap.size, 4, none⟩ = some (.int .u64 l.c) := hbx.cells 4 _ rfl
  have q5 : W.cell? ⟨w.heap.size, 5, none⟩ = some (.int .u64 l.k) := hbx.cells 5 _ rfl
  have q6 : W.cell? ⟨w.heap.size, 6, none⟩ = some (.int .u64 r.c) := hbx.cells 6 _ rfl
  have q7 : W.cell? ⟨w.heap.size, 7, none⟩ = some (.int .u64 r.k) := hbx.cells 7 _ rfl
  have q8 : W.cell? ⟨w.heap.size, 8, none⟩ = some (.string t) := hbx.cells 8 _ rfl
  have q9 : W.cell? ⟨w.heap.size, 9, none⟩ = some (.int .i64 0) := hbx.cells 9 _ rfl
  have q10 : W.cell? ⟨w.heap.size, 10, none⟩ = some (.int .i64 0) := hbx.cells 10 _ rfl
  have q11 : W.cell? ⟨w.heap.size, 11, none⟩ = some (.float .f64 0) := hbx.cells 11 _ rfl
  have q12 : W.cell? ⟨w.heap.size, 12, none⟩ = some (.string ⟨#[]⟩) := hbx.cells 12 _ rfl
  have q13 : W.cell? ⟨w.heap.size, 13, none⟩ = some (.string ⟨#[]⟩) := hbx.cells 13 _ rfl
  have q14 : W.cell? ⟨w.heap.size, 14, none⟩ = some (.int .u64 0) := hbx.cells 14 _ rfl
  have q15 : W.cell? ⟨w.heap.size, 15, none⟩ = some (.int .u64 0) := hbx.cells 15 _ rfl
  have q16 : W.cell? ⟨w.heap.size, 16, none⟩ = some (.int .u64 0) := hbx.cells 16 _ rfl
  have q17 : W.cell? ⟨w.heap.size, 17, none⟩ = some (.int .u64 0) := hbx.cells 17 _ rfl
  have q18 : W.cell? ⟨w.heap.size, 18, none⟩ = some (.bool false) := hbx.cells 18 _ rfl
  have q19 : W.cell? ⟨w.heap.size, 19, none⟩ = some (.int .u64 0) := hbx.cells 19 _ rfl
  have q20 : W.cell? ⟨w.heap.size, 20, none⟩ = some (.int .u64 0) := hbx.cells 20 _ rfl
  have q21 : W.cell? ⟨w.heap.size, 21, none⟩ = some (.bool false) := hbx.cells 21 _ rfl
  have hB1 := hB
  have hv0 := hclean
  rw [show valZero.clean = valZero from rfl] at hv0
  simp only [show valZero.kind = 0 from rfl, show valZero.n = 0 from rfl, show valZero.f = 0 from rfl, show valZero.s = (⟨#[]⟩ : ByteArray) from rfl] at hv0
  go_upto_region 3 with (first | (refine wpList_load_g 35 ⟨w.heap.size, 0, none⟩ rfl rfl hbx.load (by rfl) ?_) | (go_at_call 63; refine (hlen _ (hT.below hB)).mono ?_; rintro e1 w1 ⟨rfl, hb1⟩; obtain ⟨hc1, hf1⟩ := bcell hb1))
  have hbx1 := hbx.below hb1 hz0
  have hby1 := hby.below hb1 hz1
  have hB2 := belowTrans hB1 hb1
  clear q0 q1 q2 q3 q4 q5 q6 q7 q8 q9 q10 q11 q12 q13 q14 q15 q16 q17 q18 q19 q20 q21 hbx hby hB hB1 hb1 hc1 hf1 hz0 hz1 hlen hclean d1 d2 d3 d2x d3x
  clear W
  have hx1 := hbx1.lt
  have hy1 := hby1.lt
  have q0 : w1.cell? ⟨w.heap.size, 0, none⟩ = some (.int .u64 i.c) := hbx1.cells 0 _ rfl
  have q1 : w1.cell? ⟨w.heap.size, 1, none⟩ = some (.int .u64 i.k) := hbx1.cells 1 _ rfl
  have q2 : w1.cell? ⟨w.heap.size, 2, none⟩ = some (.int .i64 1) := hbx1.cells 2 _ rfl
  have q3 : w1.cell? ⟨w.heap.size, 3, none⟩ = some (.int .u64 0) := hbx1.cells 3 _ rfl
  have q4 : w1.cell? ⟨w.heap.size, 4, none⟩ = some (.int .u64 l.c) := hbx1.cells 4 _ rfl
  have q5 : w1.cell? ⟨w.heap.size, 5, none⟩ = some (.int .u64 l.k) := hbx1.cells 5 _ rfl
  have q6 : w1.cell? ⟨w.heap.size, 6, none⟩ = some (.int .u64 r.c) := hbx1.cells 6 _ rfl
  have q7 : w1.cell? ⟨w.heap.size, 7, none⟩ = some (.int .u64 r.k) := hbx1.cells 7 _ rfl
  have q8 : w1.cell? ⟨w.heap.size, 8, none⟩ = some (.string t) := hbx1.cells 8 _ rfl
  have q9 : w1.cell? ⟨w.heap.size, 9, none⟩ = some (.int .i64 0) := hbx1.cells 9 _ rfl
  have q10 : w1.cell? ⟨w.heap.size, 10, none⟩ = some (.int .i64 0) := hbx1.cells 10 _ rfl
  have q11 : w1.cell? ⟨w.heap.size, 11, none⟩ = some (.float .f64 0) := hbx1.cells 11 _ rfl
  have q12 : w1.cell? ⟨w.heap.size, 12, none⟩ = some (.string ⟨#[]⟩) := hbx1.cells 12 _ rfl
  have q13 : w1.cell? ⟨w.heap.size, 13, none⟩ = some (.string ⟨#[]⟩) := hbx1.cells 13 _ rfl
  have q14 : w1.cell? ⟨w.heap.size, 14, none⟩ = some (.int .u64 0) := hbx1.cells 14 _ rfl
  have q15 : w1.cell? ⟨w.heap.size, 15, none⟩ = some (.int .u64 0) := hbx1.cells 15 _ rfl
  have q16 : w1.cell? ⟨w.heap.size, 16, none⟩ = some (.int .u64 0) := hbx1.cells 16 _ rfl
  have q17 : w1.cell? ⟨w.heap.size, 17, none⟩ = some (.int .u64 0) := hbx1.cells 17 _ rfl
  have q18 : w1.cell? ⟨w.heap.size, 18, none⟩ = some (.bool false) := hbx1.cells 18 _ rfl
  have q19 : w1.cell? ⟨w.heap.size, 19, none⟩ = some (.int .u64 0) := hbx1.cells 19 _ rfl
  have q20 : w1.cell? ⟨w.heap.size, 20, none⟩ = some (.int .u64 0) := hbx1.cells 20 _ rfl
  have q21 : w1.cell? ⟨w.heap.size, 21, none⟩ = some (.bool false) := hbx1.cells 21 _ rfl
  have hsf := store_float
  have f9 := hbx1.f 9
  have f10 := hbx1.f 10
  have f11 := hbx1.f 11
  have f12 := hbx1.f 12
  go_upto_region 4 with (go_at_call 42; refine (hv0 _).mono ?_; rintro e1 w2 ⟨rfl, hb2⟩; obtain ⟨hc2, hf2⟩ := bcell hb2)
  have hbx2 := (hbx1.below hb2 hx1).setVz
  have hb3 := belowTrans hB2 hb2
  have hB3 := (((hb3.setCell (p := ⟨w.heap.size, 9, none⟩) (Nat.le_refl _) (.int .i64 0)).setCell (p := ⟨w.heap.size, 10, none⟩) (Nat.le_refl _) (.int .i64 0)).setCell (p := ⟨w.heap.size, 11, none⟩) (Nat.le_refl _) (.float .f64 0)).setCell (p := ⟨w.heap.size, 12, none⟩) (Nat.le_refl _) (.string ⟨#[]⟩)
  have hby2 := hby1.below hb2 hy1
  have hby3 : OpBox ((((w2.setCell ⟨w.heap.size, 9, none⟩ (.int .i64 0)).setCell ⟨w.heap.size, 10, none⟩ (.int .i64 0)).setCell ⟨w.heap.size, 11, none⟩ (.float .f64 0)).setCell ⟨w.heap.size, 12, none⟩ (.string ⟨#[]⟩)) (w.heap.size + 1) opZero := by
    refine (((Below.heap_setCell _ _ _ _ ?_).trans (Below.heap_setCell _ _ _ _ ?_)).trans (Below.heap_setCell _ _ _ _ ?_)).trans ((Below.heap_setCell _ _ _ _ ?_).trans hby2) <;> (show ¬ w.heap.size + 1 = w.heap.size; omega)
  obtain ⟨w3, hw3⟩ : ∃ w3, ((((w2.setCell ⟨w.heap.size, 9, none⟩ (.int .i64 0)).setCell ⟨w.heap.size, 10, none⟩ (.int .i64 0)).setCell ⟨w.heap.size, 11, none⟩ (.float .f64 0)).setCell ⟨w.heap.size, 12, none⟩ (.string ⟨#[]⟩)) = w3 := ⟨_, rfl⟩
  rw [hw3] at hbx2 hB3 hby3 ⊢
  clear hw3 q0 q1 q2 q3 q4 q5 q6 q7 q8 q9 q10 q11 q12 q13 q14 q15 q16 q17 q18 q19 q20 q21 f9 f10 f11 f12 hbx1 hby1 hB2 hb2 hb3 hc2 hf2 hby2 hx1 hy1 hv0 hsf
  clear w1 w2
  have hx3 := hbx2.lt
  have hy3 := hby3.lt
  have q2 : w3.cell? ⟨w.heap.size, 2, none⟩ = some (.int .i64 1) := hbx2.cells 2 _ rfl
  have q8 : w3.cell? ⟨w.heap.size, 8, none⟩ = some (.string t) := hbx2.cells 8 _ rfl
  have f8 := hbx2.f 8
  go_upto_region 7 with (go_at_call 64; refine (hcut _ (hT.below hB3)).mono ?_; rintro e1 w4 ⟨rfl, hb4⟩; obtain ⟨hc4, hf4⟩ := bcell hb4)
  have hbx4 := (hbx2.below hb4 hx3).setText C
  have hb5 := belowTrans hB3 hb4
  have hB5 := hb5.setCell (p := ⟨w.heap.size, 8, none⟩) (Nat.le_refl _) (.string C)
  have hby5 : OpBox (w4.setCell ⟨w.heap.size, 8, none⟩ (.string C)) (w.heap.size + 1) opZero := (Below.heap_setCell _ _ _ _ (by show ¬ w.heap.size + 1 = w.heap.size; omega)).trans (hby3.below hb4 hy3)
  obtain ⟨w5, hw5⟩ : ∃ w5, w4.setCell ⟨w.heap.size, 8, none⟩ (.string C) = w5 := ⟨_, rfl⟩
  rw [hw5] at hbx4 hB5 hby5 ⊢
  clear hw5 q2 q8 f8 hbx2 hby3 hB3 hb4 hb5 hc4 hf4 hx3 hy3 hcut
  clear w3 w4
  have q1 : w5.cell? ⟨w.heap.size, 1, none⟩ = some (.int .u64 i.k) := hbx4.cells 1 _ rfl
  have f1 := hbx4.f 1
  go_upto_region 8 with fail
  have hbx6 : OpBox (w5.setCell ⟨w.heap.size, 1, none⟩ (.int .u64 (i.k + f))) w.heap.size (tOp ⟨i.c, i.k + f⟩ l r C) := hbx4.setK (i.k + f)
  have hB6 := hB5.setCell (p := ⟨w.heap.size, 1, none⟩) (Nat.le_refl _) (.int .u64 (i.k + f))
  have hby6 : OpBox (w5.setCell ⟨w.heap.size, 1, none⟩ (.int .u64 (i.k + f))) (w.heap.size + 1) opZero := (Below.heap_setCell _ _ _ _ (by show ¬ w.heap.size + 1 = w.heap.size; omega)).trans hby5
  obtain ⟨w6, hw6⟩ : ∃ w6, w5.setCell ⟨w.heap.size, 1, none⟩ (.int .u64 (i.k + f)) = w6 := ⟨_, rfl⟩
  rw [hw6] at hbx6 hB6 hby6 ⊢
  clear hw6 q1 f1 hbx4 hB5 hby5
  clear w5
  have hx6 := hbx6.lt
  have hy6 := hby6.lt
  by_cases h0 : 0 < f
  · have hLf := HLf.out
    rw [if_pos h0] at hLf
    subst hLf
    clear HLf
    have h1 : 1 ≤ f := h0
    have q0 : w6.cell? ⟨w.heap.size, 0, none⟩ = some (.int .u64 i.c) := hbx6.cells 0 _ rfl
    have q1 : w6.cell? ⟨w.heap.size, 1, none⟩ = some (.int .u64 (i.k + f)) := hbx6.cells 1 _ rfl
    have q4 : w6.cell? ⟨w.heap.size, 4, none⟩ = some (.int .u64 l.c) := hbx6.cells 4 _ rfl
    have q5 : w6.cell? ⟨w.heap.size, 5, none⟩ = some (.int .u64 l.k) := hbx6.cells 5 _ rfl
    have f4 := hbx6.f 4
    have f5 := hbx6.f 5
    go_upto_region 10 with fail
    have hbx7 : OpBox ((w6.setCell ⟨w.heap.size, 4, none⟩ (.int .u64 i.c)).setCell ⟨w.heap.size, 5, none⟩ (.int .u64 (i.k + f - 1))) w.heap.size (tOp ⟨i.c, i.k + f⟩ ⟨i.c, i.k + f - 1⟩ r C) := hbx6.setL ⟨i.c, i.k + f - 1⟩
    have hB7 := (hB6.setCell (p := ⟨w.heap.size, 4, none⟩) (Nat.le_refl _) (.int .u64 i.c)).setCell (p := ⟨w.heap.size, 5, none⟩) (Nat.le_refl _) (.int .u64 (i.k + f - 1))
    have hby7 : OpBox ((w6.setCell ⟨w.heap.size, 4, none⟩ (.int .u64 i.c)).setCell ⟨w.heap.size, 5, none⟩ (.int .u64 (i.k + f - 1))) (w.heap.size + 1) opZero := ((Below.heap_setCell _ _ _ _ (by show ¬ w.heap.size + 1 = w.heap.size; omega)).trans (Below.heap_setCell _ _ _ _ (by show ¬ w.heap.size + 1 = w.heap.size; omega))).trans hby6
    generalize (w6.setCell ⟨w.heap.size, 4, none⟩ (.int .u64 i.c)).setCell ⟨w.heap.size, 5, none⟩ (.int .u64 (i.k + f - 1)) = w7 at hbx7 hB7 hby7 ⊢
    clear hbx6 hby6 hB6 hx6 hy6 q0 q1 q4 q5 f4 f5
    clear w6
    have hres := Lib.hid (hby7.put (tOp ⟨i.c, i.k + f⟩ ⟨i.c, i.k + f - 1⟩ r C)).load
    go_wp2_with (first | (refine wpList_load_eq (T := 35) (v := opV (tOp ⟨i.c, i.k + f⟩ ⟨i.c, i.k + f - 1⟩ r C)) rfl rfl rfl hbx7.load ?_) | (refine wpList_store_eq (T := 35) (v := opV (tOp ⟨i.c, i.k + f⟩ ⟨i.c, i.k + f - 1⟩ r C)) rfl rfl rfl rfl (OpBox.store hby7 (tOp ⟨i.c, i.k + f⟩ ⟨i.c, i.k + f - 1⟩ r C)) ?_))
    refine bodyPost_ret (v := .tuple #[opV (tOp ⟨i.c, i.k + f⟩ ⟨i.c, i.k + f - 1⟩ r C), .bool true]) ?_ rfl ⟨rfl, below_putOp hB7 (by omega) _⟩
    have h9 := hres.out
    simp [results, Tryz.results33, asAddr, h9]
  · have hLf := HLf.out
    rw [if_neg h0] at hLf
    subst hLf
    clear HLf
    obtain rfl : f = 0 := by omega
    have hres := Lib.hid (hby6.put (tOp ⟨i.c, i.k + (0 : Nat)⟩ l r C)).load
    go_wp2_with (first | (refine wpList_load_eq (T := 35) (v := opV (tOp ⟨i.c, i.k + (0 : Nat)⟩ l r C)) rfl rfl rfl hbx6.load ?_) | (refine wpList_store_eq (T := 35) (v := opV (tOp ⟨i.c, i.k + (0 : Nat)⟩ l r C)) rfl rfl rfl rfl (OpBox.store hby6 (tOp ⟨i.c, i.k + (0 : Nat)⟩ l r C)) ?_))
    refine bodyPost_ret (v := .tuple #[opV (tOp ⟨i.c, i.k + (0 : Nat)⟩ l r C), .bool true]) ?_ rfl ⟨rfl, below_putOp hB6 (by omega) _⟩
    have h9 := hres.out
    rw [show i.k + ((0 : Nat) : Int) = i.k by simp] at h9
    simp [results, Tryz.results33, asAddr, h9]
set_option maxRecDepth 100000 in
set_option maxHeartbeats 4000000 in
theorem opsCut_bad (i l r : QId) (t : ByteArray) (f e : Nat) (w : World) (hs : t.size ≤ 1000000000000) (hbad : e ≤ f ∨ (runesB t).length < e) (hT : Tabs w) :
    Calls Tryz.prog 33 #[opV (tOp i l r t), .int .i64 f, .int .i64 e] w fun x w' => x = .returned (.tuple #[opV opZero, .bool false]) ∧ Below w.heap.size w w' := by
  have hlen := fun w hT => opsLen_any (tOp i l r t) w (by show t.size < _; omega) hT
  rw [tOp_len] at hlen
  have hNs := runesB_le t
  generalize ((runesB t).length) = N at hlen hbad hNs
  change Calls Tryz.prog 33 #[.agg #[.int .u64 i.c, .int .u64 i.k, .int .i64 1, .int .u64 0, .int .u64 l.c, .int .u64 l.k, .int .u64 r.c, .int .u64 r.k, .string t, .int .i64 0, .int .i64 0, .float .f64 0, .string ⟨#[]⟩, .string ⟨#[]⟩, .int .u64 0, .int .u64 0, .int .u64 0, .int .u64 0, .bool false, .int .u64 0, .int .u64 0, .bool false], .int .i64 f, .int .i64 e] w _
  by_cases d2x : e ≤ f
  · have d2 : decide (e ≤ f) = true := by simp; omega
    clear hbad
    go_enter Tryz.func33, Tryz.ntmps33
    go_upto_region 1 with fail
    obtain ⟨W, hW⟩ : ∃ W, (w.alloc (.cells (encOp (tOp i l r t)).toArray 35)).alloc (.cells (encOp opZero).toArray 35) = W := ⟨_, rfl⟩
    have hB : Below w.heap.size w W := by rw [← hW]; exact ((Below.refl _ _).alloc (Nat.le_refl _) _).alloc (by simp) _
    have hbx : OpBox W w.heap.size (tOp i l r t) := by rw [← hW]; exact (OpBox.new w (tOp i l r t)).below ((Below.refl _ _).alloc (Nat.le_refl _) _) (by simp)
    have hby : OpBox W (w.heap.size + 1) opZero := by rw [← hW]; have := OpBox.new (w.alloc (.cells (encOp (tOp i l r t)).toArray 35)) opZero; rwa [World.size_alloc] at this
    change Code.wp _ _ _ _ ((w.alloc (.cells (encOp (tOp i l r t)).toArray 35)).alloc (.cells (encOp opZero).toArray 35))
    rw [hW]
    clear hW
    have hz0 : w.heap.size < W.heap.size := hbx.lt
    have hz1 : w.heap.size + 1 < W.heap.size := hby.lt
    have hres := Lib.hid (hby.put opZero).load
    go_wp2_with (refine wpList_store_eq (T := 35) (v := opV opZero) rfl rfl rfl rfl (OpBox.store hby opZero) ?_)
    refine bodyPost_ret (v := .tuple #[opV opZero, .bool false]) ?_ rfl ⟨rfl, below_putOp hB (by omega) _⟩
    have h9 := hres.out
    simp [results, Tryz.results33, asAddr, h9]
  · have d2 : decide (e ≤ f) = false := by simp; omega
    have d3 : decide (N < e) = true := by simp; omega
    have d3x : N < e := by omega
    clear hbad
    go_enter Tryz.func33, Tryz.ntmps33
    go_upto_region 1 with fail
    obtain ⟨W, hW⟩ : ∃ W, (w.alloc (.cells (encOp (tOp i l r t)).toArray 35)).alloc (.cells (encOp opZero).toArray 35) = W := ⟨_, rfl⟩
    have hB : Below w.heap.size w W := by rw [← hW]; exact ((Below.refl _ _).alloc (Nat.le_refl _) _).alloc (by simp) _
    have hbx : OpBox W w.heap.size (tOp i l r t) := by rw [← hW]; exact (OpBox.new w (tOp i l r t)).below ((Below.refl _ _).alloc (Nat.le_refl _) _) (by simp)
    have hby : OpBox W (w.heap.size + 1) opZero := by rw [← hW]; have := OpBox.new (w.alloc (.cells (encOp (tOp i l r t)).toArray 35)) opZero; rwa [World.size_alloc] at this
    change Code.wp _ _ _ _ ((w.alloc (.cells (encOp (tOp i l r t)).toArray 35)).alloc (.cells (encOp opZero).toArray 35))
    rw [hW]
    clear hW
    have hz0 : w.heap.size < W.heap.size := hbx.lt
    have hz1 : w.heap.size + 1 < W.heap.size := hby.lt
    go_upto_region 2 with (first | (refine wpList_load_g 35 ⟨w.heap.size, 0, none⟩ rfl rfl hbx.load (by rfl) ?_) | (go_at_call 63; refine (hlen _ (hT.below hB)).mono ?_; rintro e1 w1 ⟨rfl, hb1⟩; obtain ⟨hc1, hf1⟩ := bcell hb1))
    have hby1 := hby.below hb1 hz1
    have hB1 := belowTrans hB hb1
    clear hbx hby hB hz0 hz1 hlen hc1 hf1 hb1
    clear W
    have hres := Lib.hid (hby1.put opZero).load
    go_wp2_with (refine wpList_store_eq (T := 35) (v := opV opZero) rfl rfl rfl rfl (OpBox.store hby1 opZero) ?_)
    refine bodyPost_ret (v := .tuple #[opV opZero, .bool false]) ?_ rfl ⟨rfl, below_putOp hB1 (by omega) _⟩
    have h9 := hres.out
    simp [results, Tryz.results33, asAddr, h9]



end Go.Proofs.YthhbiliimdpgmaaGreatDoor
