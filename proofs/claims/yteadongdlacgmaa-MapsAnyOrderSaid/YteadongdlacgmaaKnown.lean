/- Walk: quirelaw12.known: the chapter's examples hold. -/
import Derived.Test.YteadongdlacgmaaMState
import Derived.Test.YteadongdlacgmaaKnownLaw
namespace Go.Proofs.Yteadongdlacgmaa
open Go.RowKit

theorem eqPtr (b : Nat) (w : World) : (binOp BinOp.eql 28 (.pointer (some ⟨b, 0, none⟩)) (.pointer none)).run Try.prog w = .ok (.bool false) w := by kernel_rfl

theorem eqOne (w : World) : (binOp BinOp.eql 37 (.agg #[.int .i64 2, .int .i64 1, .float .f64 0, .string ⟨#[]⟩]) (.agg #[.int .i64 2, .int .i64 1, .float .f64 0, .string ⟨#[]⟩])).run Try.prog w = .ok (.bool true) w := by kernel_rfl
/-- the box of 'one'. -/
def OneBox (W : World) (B : Nat) : Prop := W.heap[B]? = some (.cells #[.int .i64 2, .int .i64 1, .float .f64 0, .string ⟨#[]⟩] 37 (0, 0))
theorem OneBox.cells {W : World} {B : Nat} (h : OneBox W B) : W.cell? ⟨B, 0, none⟩ = some (.int .i64 2) ∧ W.cell? ⟨B, 1, none⟩ = some (.int .i64 1) ∧ W.cell? ⟨B, 2, none⟩ = some (.float .f64 0) ∧ W.cell? ⟨B, 3, none⟩ = some (.string ⟨#[]⟩) := by
  unfold OneBox at h
  simp [World.cell?, h]
theorem OneBox.lt {W : World} {B : Nat} (h : OneBox W B) : B < W.heap.size := (Array.getElem?_eq_some_iff.1 h).1
theorem OneBox.below {n : Nat} {W W' : World} {B : Nat} (h : OneBox W B) (hb : Below n W W') (hn : B < n) : OneBox W' B := (hb.block B hn).trans h

/-- block b is in W as it is in W'. -/
structure SameBlk (W W' : World) (b : Nat) : Prop where
  out : W.heap[b]? = W'.heap[b]?

set_option maxRecDepth 100000 in
set_option maxHeartbeats 2000000 in
theorem known_any (w : World) : Calls Try.prog 6 #[] w fun e w' => e = .returned (.bool true) ∧ Below w.heap.size w w' := by
  have hep := eqPtr (w.heap.size + 2)
  have hsf := store_float
  go_enter Try.func6, Try.ntmps6
  go_wp2_with fail
  refine (newM_any w w (fun _ => False) (Below.refl _ _) (fun b h => h.elim)).mono ?_
  rintro e w1 ⟨rfl, st0, hb1⟩
  go_wp2_with fail
  have ob : OneBox (w1.alloc (.cells #[.int .i64 2, .int .i64 1, .float .f64 0, .string ⟨#[]⟩] 37)) w1.heap.size := heap_alloc_new w1 _
  have st : MState w (fun b => b = w1.heap.size) (w.heap.size + 2) QMaps.empty (w1.alloc (.cells #[.int .i64 2, .int .i64 1, .float .f64 0, .string ⟨#[]⟩] 37)) :=
    st0.reserve (by (repeat (first | exact Below.refl _ _ | assumption | refine Below.alloc ?_ (by simp <;> omega) _ | refine Below.drew ?_ | refine below_drewN ?_ _ | refine Below.setCell ?_ (by simp <;> omega) _ | refine belowTrans ?_ (by assumption)))) fun b hb => .inr (by subst hb; simp)
  obtain ⟨W, hW⟩ : ∃ W, w1.alloc (.cells #[.int .i64 2, .int .i64 1, .float .f64 0, .string ⟨#[]⟩] 37) = W := ⟨_, rfl⟩
  rw [hW] at ob st ⊢
  clear hW st0
  obtain ⟨hc0, hc1, hc2, hc3⟩ := ob.cells
  obtain ⟨R, hR⟩ : ∃ R : Nat → Prop, R = fun b => b = w1.heap.size := ⟨_, rfl⟩
  have hRB : R w1.heap.size := by rw [hR]
  rw [← hR] at st
  refine (setOp_any 1 2 idZero sK kOne _).mono ?_
  rintro e wa1 ⟨rfl, hba1⟩
  have sta1 := st.below hba1
  have oba1 := ob.below hba1 ob.lt
  clear hc0 hc1 hc2 hc3
  go_wp2_with fail
  refine (setM_yes w R (w.heap.size + 2) QMaps.empty k1 _ sta1 (by decide) ks1).mono ?_
  rintro e wb1 ⟨rfl, hst1⟩
  clear st ob
  have st := hst1.st
  have ob : OneBox wb1 w1.heap.size := (hst1.kept _ hRB).trans oba1
  clear sta1 oba1 hba1 hst1
  obtain ⟨hc0, hc1, hc2, hc3⟩ := ob.cells
  go_wp2_with fail
  refine (setOp_any 2 3 idZero sK valZero _).mono ?_
  rintro e wa2 ⟨rfl, hba2⟩
  have sta2 := st.below hba2
  have oba2 := ob.below hba2 ob.lt
  clear hc0 hc1 hc2 hc3
  go_wp2_with fail
  refine (setM_yes w R (w.heap.size + 2) KM1 k2 _ sta2 (by decide) ks2).mono ?_
  rintro e wb2 ⟨rfl, hst2⟩
  clear st ob
  have st := hst2.st
  have ob : OneBox wb2 w1.heap.size := (hst2.kept _ hRB).trans oba2
  clear sta2 oba2 hba2 hst2
  obtain ⟨hc0, hc1, hc2, hc3⟩ := ob.cells
  go_wp2_with fail
  refine (setOp_any 2 3 idZero sK kOne _).mono ?_
  rintro e wa3 ⟨rfl, hba3⟩
  have sta3 := st.below hba3
  have oba3 := ob.below hba3 ob.lt
  clear hc0 hc1 hc2 hc3
  go_wp2_with fail
  refine (setM_no w R (w.heap.size + 2) KM2 k3 _ sta3 (by decide) ks3).mono ?_
  rintro e wb3 ⟨rfl, hst3⟩
  clear st ob
  have st := hst3.st
  have ob : OneBox wb3 w1.heap.size := (hst3.kept _ hRB).trans oba3
  clear sta3 oba3 hba3 hst3
  obtain ⟨hc0, hc1, hc2, hc3⟩ := ob.cells
  go_wp2_with fail
  refine (setOp_any 3 1 ⟨1, 1⟩ sX kOne _).mono ?_
  rintro e wa4 ⟨rfl, hba4⟩
  have sta4 := st.below hba4
  have oba4 := ob.below hba4 ob.lt
  clear hc0 hc1 hc2 hc3
  go_wp2_with fail
  refine (setM_no w R (w.heap.size + 2) KM2 k4 _ sta4 (by decide) ks4).mono ?_
  rintro e wb4 ⟨rfl, hst4⟩
  clear st ob
  have st := hst4.st
  have ob : OneBox wb4 w1.heap.size := (hst4.kept _ hRB).trans oba4
  clear sta4 oba4 hba4 hst4
  obtain ⟨hc0, hc1, hc2, hc3⟩ := ob.cells
  go_wp2_with fail
  refine Calls.mono (viewM_any w R _ KM2 _ st kw2 (by decide +kernel) (by decide)) ?_
  rintro e w2 ⟨va, rfl, hva, hb2⟩
  rw [kView2] at hva
  obtain ⟨pa, ca, rfl, _, _⟩ := hva.shape
  have st2 := st.below hb2
  have ob2 := ob.below hb2 ob.lt
  clear hva st ob hc0 hc1 hc2 hc3 hb2
  go_wp2_with fail
  have hsl : SliceAt 3 encRng (w2.alloc (.cells #[.int .u64 1, .int .u64 2, .int .u64 3] 54)) (.slice (some ⟨w2.heap.size, 0, none⟩) 1 1) [⟨1, 2, 3⟩] := slice_new (k := 3) (enc := encRng) (fun _ => rfl) w2 _ _ [⟨1, 2, 3⟩] 1 1 rfl rfl (by decide)
  refine (hideM_any w R (w.heap.size + 2) KM2 _ [⟨1, 2, 3⟩] _ (st2.below (by (repeat (first | exact Below.refl _ _ | assumption | refine Below.alloc ?_ (by simp <;> omega) _ | refine Below.drew ?_ | refine below_drewN ?_ _ | refine Below.setCell ?_ (by simp <;> omega) _ | refine belowTrans ?_ (by assumption))))) hsl (by decide) rfl).mono ?_
  rintro e w3 ⟨rfl, hst3⟩
  have st3 := hst3.st
  have ob3 : OneBox w3 w1.heap.size := (hst3.kept _ hRB).trans (ob2.below (n := w2.heap.size) (by (repeat (first | exact Below.refl _ _ | assumption | refine Below.alloc ?_ (by simp <;> omega) _ | refine Below.drew ?_ | refine below_drewN ?_ _ | refine Below.setCell ?_ (by simp <;> omega) _ | refine belowTrans ?_ (by assumption)))) ob2.lt)
  clear hst3 st2 ob2 hsl
  go_wp2_with fail
  refine Calls.mono (viewM_any w R _ KM3 _ st3 kw2 (by decide +kernel) (by decide)) ?_
  rintro e w4 ⟨vb, rfl, hvb, hb4⟩
  rw [kView3] at hvb
  have hvb := hvb.lt
  obtain ⟨R2, hR2⟩ : ∃ R2 : Nat → Prop, R2 = fun b => b = w1.heap.size ∨ (w3.heap.size ≤ b ∧ b < w4.heap.size) := ⟨_, rfl⟩
  have st : MState w R2 (w.heap.size + 2) KM3 w4 := st3.reserve hb4 (by rw [hR2, hR]; exact fun b h => h)
  have ob := ob3.below hb4 ob3.lt
  have hRB2 : R2 w1.heap.size := by rw [hR2]; exact .inl rfl
  have hR2v : ∀ b, (w3.heap.size ≤ b ∧ b < w4.heap.size) → R2 b := by rw [hR2]; exact fun b h => .inr h
  clear st3 ob3 hR2 hR hRB hb4
  clear R
  obtain ⟨R, hRe⟩ : ∃ R, R2 = R := ⟨_, rfl⟩
  rw [hRe] at st hR2v hRB2
  clear hRe R2
  have hRB := hRB2
  clear hRB2
  obtain ⟨hc0, hc1, hc2, hc3⟩ := ob.cells
  obtain ⟨pb, cb, rfl, _, hvb0⟩ := hvb.shape
  obtain ⟨bb, eb, rfl, hbS, hbl, hbk, hbv, hbc, _⟩ := hvb0 0 _ rfl
  have hRb := hR2v bb hbS
  have Kb : SameBlk w4 w4 bb := SameBlk.mk rfl
  have Hbk := Lib.hid hbk
  have Hbv := Lib.hid hbv
  have Hbc := Lib.hid hbc
  clear hvb hvb0 hR2v hbk hbv hbc
  go_wp2_with fail
  refine (setOp_any 4 1 idZero sM kMap _).mono ?_
  rintro e wa5 ⟨rfl, hba5⟩
  have sta5 := st.below hba5
  have oba5 := ob.below hba5 ob.lt
  clear hc0 hc1 hc2 hc3
  go_wp2_with fail
  refine (setM_yes w R (w.heap.size + 2) KM3 k5 _ sta5 (by decide) ks5).mono ?_
  rintro e wb5 ⟨rfl, hst5⟩
  have Kb5 : SameBlk wb5 w4 bb := SameBlk.mk ((hst5.kept _ hRb).trans ((hba5.block _ (st.lt _ hRb)).trans Kb.out))
  clear ob
  have ob : OneBox wb5 w1.heap.size := (hst5.kept _ hRB).trans oba5
  clear st Kb
  have st := hst5.st
  have Kb := Kb5
  clear Kb5
  clear sta5 oba5 hba5 hst5
  obtain ⟨hc0, hc1, hc2, hc3⟩ := ob.cells
  go_wp2_with fail
  refine (setOp_any 5 1 ⟨1, 4⟩ sX kOne _).mono ?_
  rintro e wa6 ⟨rfl, hba6⟩
  have sta6 := st.below hba6
  have oba6 := ob.below hba6 ob.lt
  clear hc0 hc1 hc2 hc3
  go_wp2_with fail
  refine (setM_yes w R (w.heap.size + 2) KM4 k6 _ sta6 (by decide) ks6).mono ?_
  rintro e wb6 ⟨rfl, hst6⟩
  have Kb6 : SameBlk wb6 w4 bb := SameBlk.mk ((hst6.kept _ hRb).trans ((hba6.block _ (st.lt _ hRb)).trans Kb.out))
  clear ob
  have ob : OneBox wb6 w1.heap.size := (hst6.kept _ hRB).trans oba6
  clear st Kb
  have st := hst6.st
  have Kb := Kb6
  clear Kb6
  clear sta6 oba6 hba6 hst6
  obtain ⟨hc0, hc1, hc2, hc3⟩ := ob.cells
  go_wp2_with fail
  have hslm : SliceAt 1 encStrB (wb6.alloc (.cells #[.string sM] 9)) (.slice (some ⟨wb6.heap.size, 0, none⟩) 1 1) [sM] := slice_new (k := 1) (enc := encStrB) (fun _ => rfl) wb6 _ _ [sM] 1 1 rfl rfl (by decide)
  have hfnd := findM_any w R (w.heap.size + 2) KM5 _ [sM] _ (st.below (by (repeat (first | exact Below.refl _ _ | assumption | refine Below.alloc ?_ (by simp <;> omega) _ | refine Below.drew ?_ | refine below_drewN ?_ _ | refine Below.setCell ?_ (by simp <;> omega) _ | refine belowTrans ?_ (by assumption))))) hslm
  rw [kFind] at hfnd
  refine Calls.mono hfnd ?_
  rintro e w7 ⟨rfl, hb7⟩
  have hb67 : Below wb6.heap.size wb6 w7 := ((Below.refl _ _).alloc (Nat.le_refl _) _).trans (hb7.mono (by simp))
  have st7 := st.below hb67
  have ob7 := ob.below hb67 ob.lt
  have Kb7 : SameBlk w7 w4 bb := SameBlk.mk ((hb67.block _ (st.lt _ hRb)).trans Kb.out)
  clear st ob Kb hfnd hslm hb7 hb67 hc0 hc1 hc2 hc3
  go_wp2_with fail
  have hg := getM_any w R (w.heap.size + 2) KM5 ⟨1, 4⟩ sX (w7.alloc (.cells #[.int .u64 1, .int .u64 4] 34)) (st7.below (by (repeat (first | exact Below.refl _ _ | assumption | refine Below.alloc ?_ (by simp <;> omega) _ | refine Below.drew ?_ | refine below_drewN ?_ _ | refine Below.setCell ?_ (by simp <;> omega) _ | refine belowTrans ?_ (by assumption)))))
  rw [kGet] at hg
  simp only [Option.getD_some, Option.isSome_some] at hg
  refine Calls.mono hg ?_
  rintro e w8 ⟨rfl, hb8⟩
  have hi8 : w8.heap[w7.heap.size]? = some (.cells #[.int .u64 1, .int .u64 4] 34 (0, 0)) := (hb8.block _ (by simp)).trans (heap_alloc_new w7 _)
  have hb78 : Below w7.heap.size w7 w8 := ((Below.refl _ _).alloc (Nat.le_refl _) _).trans (hb8.mono (by simp))
  have hz78 : w7.heap.size < w8.heap.size := by have := hb8.size; simp at this; omega
  have bz : OpBox (w8.alloc (.cells #[.int .u64 opZero.id.c, .int .u64 opZero.id.k, .int .i64 opZero.kind, .int .u64 opZero.stamp, .int .u64 opZero.left.c, .int .u64 opZero.left.k, .int .u64 opZero.right.c, .int .u64 opZero.right.k, .string opZero.text, .int .i64 opZero.v.kind, .int .i64 opZero.v.n, .float .f64 opZero.v.f, .string opZero.v.s, .string opZero.key, .int .u64 opZero.parent.c, .int .u64 opZero.parent.k, .int .u64 opZero.frm.c, .int .u64 opZero.frm.k, .bool opZero.frmA, .int .u64 opZero.til.c, .int .u64 opZero.til.k, .bool opZero.tilA] 41)) w8.heap.size opZero := OpBox.new _ _
  have hb89 : Below w8.heap.size w8 (putOp (w8.alloc (.cells #[.int .u64 opZero.id.c, .int .u64 opZero.id.k, .int .i64 opZero.kind, .int .u64 opZero.stamp, .int .u64 opZero.left.c, .int .u64 opZero.left.k, .int .u64 opZero.right.c, .int .u64 opZero.right.k, .string opZero.text, .int .i64 opZero.v.kind, .int .i64 opZero.v.n, .float .f64 opZero.v.f, .string opZero.v.s, .string opZero.key, .int .u64 opZero.parent.c, .int .u64 opZero.parent.k, .int .u64 opZero.frm.c, .int .u64 opZero.frm.k, .bool opZero.frmA, .int .u64 opZero.til.c, .int .u64 opZero.til.k, .bool opZero.tilA] 41)) w8.heap.size k6) := below_putOp ((Below.refl _ _).alloc (Nat.le_refl _) _) (Nat.le_refl _) _
  have hq := bz.put k6
  go_wp2_with (refine wpList_store_eq (T := 41) (v := opV k6) rfl rfl rfl rfl (OpBox.store bz k6) ?_; generalize putOp (w8.alloc (.cells #[.int .u64 opZero.id.c, .int .u64 opZero.id.k, .int .i64 opZero.kind, .int .u64 opZero.stamp, .int .u64 opZero.left.c, .int .u64 opZero.left.k, .int .u64 opZero.right.c, .int .u64 opZero.right.k, .string opZero.text, .int .i64 opZero.v.kind, .int .i64 opZero.v.n, .float .f64 opZero.v.f, .string opZero.v.s, .string opZero.key, .int .u64 opZero.parent.c, .int .u64 opZero.parent.k, .int .u64 opZero.frm.c, .int .u64 opZero.frm.k, .bool opZero.frmA, .int .u64 opZero.til.c, .int .u64 opZero.til.k, .bool opZero.tilA] 41)) w8.heap.size k6 = w9 at hb89 hq ⊢)
  have hb79 := hb78.trans (hb89.mono hb78.size)
  have st9 := st7.below hb79
  have ob9 := ob7.below hb79 ob7.lt
  have Kb9 : SameBlk w9 w4 bb := SameBlk.mk ((hb79.block _ (st7.lt _ hRb)).trans Kb7.out)
  have hi9 := (hb89.block _ hz78).trans hi8
  obtain ⟨l5, hv5, hl5⟩ := kView5
  refine Calls.mono (viewM_any w R _ KM5 _ st9 kw5 (by decide +kernel) (by decide)) ?_
  rintro e w10 ⟨vc, rfl, hvc, hb10⟩
  rw [hv5] at hvc
  have ob10 := ob9.below hb10 ob9.lt
  have Kb10 : SameBlk w10 w4 bb := SameBlk.mk ((hb10.block _ (st9.lt _ hRb)).trans Kb9.out)
  have hi10 := (hb10.block _ (Array.getElem?_eq_some_iff.1 hi9).1).trans hi9
  have hq10 := hq.below hb10 hq.lt
  have hlow := (st9.below hb10).low
  obtain ⟨pc, cc, rfl, _, hvc0⟩ := hvc.shape
  obtain ⟨bc, ec, rfl, _, _, hck, hcv, hcc, hckid⟩ := hvc0 1 _ rfl
  clear hvc hvc0 st9 ob9 Kb9 hi9 hb79 hb89 hq bz hb78 hi8 hb8 hg st7 ob7 Kb7 hb10
  obtain ⟨hc0, hc1, hc2, hc3⟩ := ob10.cells
  have i1 : w10.cell? ⟨w7.heap.size, 1, none⟩ = some (.int .u64 4) := by simp [World.cell?, hi10]
  have q1 : w10.cell? ⟨w8.heap.size, 1, none⟩ = some (.int .u64 5) := hq10.cells 1 _ rfl
  have rb : ∀ (i : Nat) (y : Value), (encRec eb)[i]? = some y → w10.cell? ⟨bb, 0 * 6 + i, none⟩ = some y := fun i y hy => (World.cell?_of_block (a := ⟨bb, 0 * 6 + i, none⟩) Kb10.out).trans (Hbc.out i y hy)
  have hbk := Hbk.out
  have hbv := Hbv.out
  have b0 : w10.cell? ⟨bb, 0, none⟩ = some (.string ⟨#[107]⟩) := (rb 0 _ rfl).trans (by rw [hbk]; rfl)
  have b1 : w10.cell? ⟨bb, 1, none⟩ = some (.int .i64 2) := (rb 1 _ rfl).trans (by rw [hbv]; rfl)
  have b2 : w10.cell? ⟨bb, 2, none⟩ = some (.int .i64 1) := (rb 2 _ rfl).trans (by rw [hbv]; rfl)
  have b3 : w10.cell? ⟨bb, 3, none⟩ = some (.float .f64 0) := (rb 3 _ rfl).trans (by rw [hbv]; rfl)
  have b4 : w10.cell? ⟨bb, 4, none⟩ = some (.string ⟨#[]⟩) := (rb 4 _ rfl).trans (by rw [hbv]; rfl)
  obtain ⟨pk, ck, hek, _, _⟩ := hckid.shape
  have c6 : w10.cell? ⟨bc, 6, none⟩ = some (.string ⟨#[109]⟩) := (hcc 0 _ rfl).trans (by rw [hck]; rfl)
  have c11 : w10.cell? ⟨bc, 11, none⟩ = some (.slice pk 1 ck) := (hcc 5 _ rfl).trans (by rw [hek]; show some (Value.slice pk l5.length ck) = _; rw [hl5])
  clear rb hbk hbv hcc hck hcv hckid hek hl5 hv5 Hbk Hbv Hbc Kb10 hq10 hi10 ob10 hz78 hRB hRb hsf hep hb1 hbS hbl
  have heo := eqOne
  go_wp2_with fail
  go_quiet (fail)
  go_wp2_with fail
  go_ret
  exact ⟨rfl, below_drewN hlow _⟩
end Go.Proofs.Yteadongdlacgmaa
