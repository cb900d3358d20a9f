/- Walk: maps.Get. -/
import Derived.Test.YthhbiliimdpgmaaGreatDoorM16
import Derived.Test.YthhbiliimdpgmaaGreatDoorM07
import Derived.Test.YthhbiliimdpgmaaGreatDoorM09
import Derived.Test.YthhbiliimdpgmaaGreatDoorM06
namespace Go.Proofs.YthhbiliimdpgmaaGreatDoor
open Go.RowKit

def innBlk (L : MLay) (p : QId) : Option Nat := (L.PL.find? fun x => decide (x.1 = p)).map (·.2)
def rowOf (L : MLay) (M : QMaps) (p : QId) (k : ByteArray) : Value := if opsAt M.ops p k = [] then .slice none 0 0 else L.row p k

theorem look_inn {w : World} {bm : Nat} {L : MLay} {M : QMaps} (h : MapsAt w bm L M) (p : QId) :
    (Instr.lookup 88 (.map (some L.inn)) (idV p) false).run Tryz.prog w = .ok (.map (innBlk L p)) w := by
  have := run_look (T := 88) (E := 206) idKey (by kernel_rfl) (z := .map none) (fun w => by kernel_rfl) h.inn p false
  rw [this, look_find (fun x : QId × Nat => Value.map (some x.2)) Prod.fst]
  unfold innBlk
  cases List.find? (fun o : QId × Nat => decide (o.1 = p)) L.PL <;> rfl

theorem innBlk_some {w : World} {bm : Nat} {L : MLay} {M : QMaps} (h : MapsAt w bm L M) {p : QId} {r : Nat} (hr : innBlk L p = some r) : (p, r) ∈ L.PL := by
  unfold innBlk at hr
  cases hf : L.PL.find? fun x => decide (x.1 = p) with
  | none => rw [hf] at hr; cases hr
  | some x =>
    rw [hf] at hr
    have h1 := List.mem_of_find?_eq_some hf
    have h2 := List.find?_some hf
    simp at h2 hr
    rw [← h2, ← hr]
    exact h1
theorem innBlk_none {w : World} {bm : Nat} {L : MLay} {M : QMaps} (h : MapsAt w bm L M) {p : QId} (hr : innBlk L p = none) : ∀ o ∈ M.ops, o.parent ≠ p := by
  intro o ho hp
  have h1 : p ∈ L.PL.map (·.1) := by rw [h.par]; exact mem_parents_iff.2 ⟨o, ho, hp⟩
  obtain ⟨x, hx, hxp⟩ := List.mem_map.1 h1
  unfold innBlk at hr
  simp only [Option.map_eq_none_iff, List.find?_eq_none, decide_eq_true_eq] at hr
  exact hr x hx hxp

theorem look_row_yes (ks : List ByteArray) (f : ByteArray → Value) (k : ByteArray) (hk : k ∈ ks) : (look (ks.map fun k => (k, f k)) k).getD (.slice none 0 0) = f k := by
  unfold look
  rw [List.find?_map]
  have e : ((fun p : ByteArray × Value => decide (p.1 = k)) ∘ fun k => (k, f k)) = fun x => decide (x = k) := rfl
  rw [e]
  cases hf : ks.find? fun x => decide (x = k) with
  | none => simp at hf; exact absurd hk (fun h => hf k h rfl)
  | some x =>
    have := List.find?_some hf
    simp at this
    subst this
    rfl
theorem look_row_no (ks : List ByteArray) (f : ByteArray → Value) (k : ByteArray) (hk : ¬ k ∈ ks) : look (ks.map fun k => (k, f k)) k = none := by
  unfold look
  rw [List.find?_map]
  have e : ((fun p : ByteArray × Value => decide (p.1 = k)) ∘ fun k => (k, f k)) = fun x => decide (x = k) := rfl
  rw [e]
  have : (ks.find? fun x => decide (x = k)) = none := by
    rw [List.find?_eq_none]
    intro x hx h
    exact hk ((of_decide_eq_true h) ▸ hx)
  rw [this]; rfl

theorem look_key {w : World} {bm : Nat} {L : MLay} {M : QMaps} (h : MapsAt w bm L M) (p : QId) (k : ByteArray) :
    (Instr.lookup 206 (.map (innBlk L p)) (.string k) false).run Tryz.prog w = .ok (rowOf L M p k) w := by
  unfold rowOf
  cases hb : innBlk L p with
  | none =>
    have := run_look_nil (T := 206) (E := 39) strKey (by kernel_rfl) (z := .slice none 0 0) (fun w => by kernel_rfl) w k false
    rw [this, if_neg (by decide), if_pos]
    by_cases hne : opsAt M.ops p k = []
    · exact hne
    · obtain ⟨o, ho, hp, _⟩ := opsAt_ne.1 hne
      exact absurd hp (innBlk_none h hb o ho)
  | some r =>
    have := run_look (T := 206) (E := 39) strKey (by kernel_rfl) (z := .slice none 0 0) (fun w => by kernel_rfl) (h.inner _ (innBlk_some h hb)) k false
    rw [this, if_neg (by decide)]
    by_cases hne : opsAt M.ops p k = []
    · rw [look_row_no _ _ _ (fun hm => mem_keysAt_iff.1 hm hne), if_pos hne]; rfl
    · rw [look_row_yes _ _ _ (mem_keysAt_iff.2 hne), if_neg hne]

/-- the row of a key, as a slice. -/
theorem rowOf_slice {w : World} {bm : Nat} {L : MLay} {M : QMaps} (h : MapsAt w bm L M) (p : QId) (k : ByteArray) : SliceAt 22 encOp w (rowOf L M p k) (opsAt M.ops p k) := by
  unfold rowOf
  by_cases hne : opsAt M.ops p k = []
  · rw [if_pos hne, hne]; exact .inl ⟨rfl, rfl⟩
  · rw [if_neg hne]; exact OwnAt.slice (k := 22) (enc := encOp) (fun _ => rfl) (h.rows p k hne)
end Go.Proofs.YthhbiliimdpgmaaGreatDoor
/- Sets as whole values, and what maps.Get says of them. -/
namespace Go.Proofs.YthhbiliimdpgmaaGreatDoor
end Go.Proofs.YthhbiliimdpgmaaGreatDoor
namespace Go.Proofs.YthhbiliimdpgmaaGreatDoor
open Go.RowKit

def zOp : Obj := .cells (encOp opZero).toArray 35
set_option maxHeartbeats 400000 in
theorem marksLess_any (x y : QOp) (w : World) :
    Calls Tryz.prog 140 #[.agg #[.int .u64 x.id.c, .int .u64 x.id.k, .int .i64 x.kind, .int .u64 x.stamp, .int .u64 x.left.c, .int .u64 x.left.k, .int .u64 x.right.c, .int .u64 x.right.k, .string x.text, .int .i64 x.v.kind, .int .i64 x.v.n, .float .f64 x.v.f, .string x.v.s, .string x.key, .int .u64 x.parent.c, .int .u64 x.parent.k, .int .u64 x.frm.c, .int .u64 x.frm.k, .bool x.frmA, .int .u64 x.til.c, .int .u64 x.til.k, .bool x.tilA], .agg #[.int .u64 y.id.c, .int .u64 y.id.k, .int .i64 y.kind, .int .u64 y.stamp, .int .u64 y.left.c, .int .u64 y.left.k, .int .u64 y.right.c, .int .u64 y.right.k, .string y.text, .int .i64 y.v.kind, .int .i64 y.v.n, .float .f64 y.v.f, .string y.v.s, .string y.key, .int .u64 y.parent.c, .int .u64 y.parent.k, .int .u64 y.frm.c, .int .u64 y.frm.k, .bool y.frmA, .int .u64 y.til.c, .int .u64 y.til.k, .bool y.tilA]] w fun e w' => e = .returned (.bool (x.lessB y)) ∧ Below w.heap.size w w' := by
  go_enter Tryz.func140, Tryz.ntmps140
  go_wp2_with (go_at_call 122; refine (idsLess_any x.id y.id _).mono ?_; rintro e w' ⟨rfl, hb⟩)
  all_goals go_ret
  all_goals exact ⟨ret_bool (by simp [QOp.lessB, *]), by (repeat (first | exact Below.refl _ _ | assumption | refine Below.alloc ?_ (by simp <;> omega) _ | refine Below.drew ?_ | refine below_drewN ?_ _ | refine Below.setCell ?_ (by simp <;> omega) _ | refine belowTrans ?_ (by assumption)))⟩

theorem zOp_def : Obj.cells #[.int .u64 opZero.id.c, .int .u64 opZero.id.k, .int .i64 opZero.kind, .int .u64 opZero.stamp, .int .u64 opZero.left.c, .int .u64 opZero.left.k, .int .u64 opZero.right.c, .int .u64 opZero.right.k, .string opZero.text, .int .i64 opZero.v.kind, .int .i64 opZero.v.n, .float .f64 opZero.v.f, .string opZero.v.s, .string opZero.key, .int .u64 opZero.parent.c, .int .u64 opZero.parent.k, .int .u64 opZero.frm.c, .int .u64 opZero.frm.k, .bool opZero.frmA, .int .u64 opZero.til.c, .int .u64 opZero.til.k, .bool opZero.tilA] 35 = zOp := rfl

set_option maxRecDepth 100000 in
set_option maxHeartbeats 1000000 in
theorem get_any (F : Nat → Prop) (bm : Nat) (M : QMaps) (p : QId) (k : ByteArray) (w : World) (hm : MapsIn w F bm M) :
    Calls Tryz.prog 99 #[.pointer (some ⟨bm, 0, none⟩), .agg #[.int .u64 p.c, .int .u64 p.k], .string k] w fun e w' => e = .returned (.tuple #[opV ((M.get p k).getD opZero), .bool (M.get p k).isSome]) ∧ Below w.heap.size w w' := by
  obtain ⟨L, hL, hF⟩ := hm
  obtain ⟨l, hl⟩ : ∃ l, opsAt M.ops p k = l := ⟨_, rfl⟩
  rw [show M.get p k = seen (bestOp M.hidden l) by rw [← hl]; rfl]
  obtain ⟨res, hre⟩ : ∃ res, seen (bestOp M.hidden l) = res := ⟨_, rfl⟩
  rw [hre]
  go_enter Tryz.func99, Tryz.ntmps99
  go_upto_region 3 with fail
  obtain ⟨W, hW⟩ : ∃ W, ((w.alloc (.cells #[.int .u64 p.c, .int .u64 p.k] 28)).alloc zOp).alloc zOp = W := ⟨_, rfl⟩
  have hB : Below w.heap.size w W := by subst hW; (repeat (first | exact Below.refl _ _ | assumption | refine Below.alloc ?_ (by simp <;> omega) _ | refine Below.drew ?_ | refine below_drewN ?_ _ | refine Below.setCell ?_ (by simp <;> omega) _ | refine belowTrans ?_ (by assumption)))
  have h0 : OpBox W (w.heap.size + 1) opZero := by subst hW; unfold OpBox zOp; (simp only [alloc_heap_if, World.size_alloc]; repeat (first | rw [if_pos rfl] | rw [if_pos trivial] | rw [if_pos (by omega)] | rw [if_neg (by omega)]))
  have h1 : OpBox W (w.heap.size + 1 + 1) opZero := by subst hW; unfold OpBox zOp; (simp only [alloc_heap_if, World.size_alloc]; repeat (first | rw [if_pos rfl] | rw [if_pos trivial] | rw [if_pos (by omega)] | rw [if_neg (by omega)]))
  have hc0 : W.cell? ⟨w.heap.size, 0, none⟩ = some (.int .u64 p.c) := by subst hW; unfold World.cell?; (simp only [alloc_heap_if, World.size_alloc]; repeat (first | rw [if_pos rfl] | rw [if_pos trivial] | rw [if_pos (by omega)] | rw [if_neg (by omega)])); rfl
  have hc1 : W.cell? ⟨w.heap.size, 1, none⟩ = some (.int .u64 p.k) := by subst hW; unfold World.cell?; (simp only [alloc_heap_if, World.size_alloc]; repeat (first | rw [if_pos rfl] | rw [if_pos trivial] | rw [if_pos (by omega)] | rw [if_neg (by omega)])); rfl
  change Code.wp _ _ _ _ (((w.alloc (.cells #[.int .u64 p.c, .int .u64 p.k] 28)).alloc zOp).alloc zOp)
  rw [hW]
  have hsz : W.heap.size = w.heap.size + 3 := by subst hW; simp
  clear hW
  have hL1 := hL.below hB
  have c0 : W.cell? ⟨bm, 1, none⟩ = some (.map (some L.inn)) := by simp [World.cell?, hL1.st]
  have hl1 : ∀ n, (Instr.lookup 88 (.map (some L.inn)) (.agg #[.int .u64 p.c, .int .u64 p.k]) false).run Tryz.prog (W.drewN n) = .ok (.map (innBlk L p)) (W.drewN n) :=
    fun n => look_inn (hL1.below (below_drewN (Below.refl _ _) n)) p
  have hl2 : ∀ n, (Instr.lookup 206 (.map (innBlk L p)) (.string k) false).run Tryz.prog (W.drewN n) = .ok (rowOf L M p k) (W.drewN n) :=
    fun n => look_key (hL1.below (below_drewN (Below.refl _ _) n)) p k
  have hrow := rowOf_slice hL1 p k
  rw [hl] at hrow
  have hshape : ∃ q n, rowOf L M p k = .slice q l.length n := by
    rcases hrow with ⟨h, h'⟩ | ⟨b, off, cap, h, _⟩
    · exact ⟨_, _, by rw [h, h']; rfl⟩
    · exact ⟨_, _, h⟩
  obtain ⟨q, ncap, hq⟩ := hshape
  rw [hq] at hl2 hrow
  go_quiet (fail)
  obtain ⟨W1, hW1⟩ : ∃ W1, W.drewN nq = W1 := ⟨_, rfl⟩
  have hB1 : Below W.heap.size W W1 := by rw [← hW1]; exact below_drewN (Below.refl _ _) nq
  rw [hW1]
  clear hW1
  have hz : zOp = zOp := rfl
  go_wp2_with fail
  have hB2 : Below w.heap.size w W1 := hB.trans (hB1.mono (by omega))
  have hS1 : w.heap.size + 3 ≤ W1.heap.size := by have := hB1.size; omega
  have g0 : OpBox W1 (w.heap.size + 1) opZero := (hB1.block _ (by omega)).trans h0
  have g1 : OpBox W1 (w.heap.size + 1 + 1) opZero := (hB1.block _ (by omega)).trans h1
  have hrow0 := rowOf_slice hL p k
  rw [hl, hq] at hrow0
  clear h0 h1 hc0 hc1 hB1 hB hl1 hl2 hrow c0
  clear hL1 hsz
  clear W
  go_loopw [9, 21] (fun t i wr => ∃ j : Nat, j ≤ l.length ∧ i = .int .i64 j ∧ t = .bool (bestOp M.hidden (l.take j)).isSome ∧ Below w.heap.size w wr ∧ w.heap.size + 3 ≤ wr.heap.size ∧ OpBox wr (w.heap.size + 1) opZero ∧ OpBox wr (w.heap.size + 1 + 1) ((bestOp M.hidden (l.take j)).getD opZero)) (fun _ i _ => l.length - (intOf i).toNat)
  case atStart => exact ⟨0, Nat.zero_le _, rfl, rfl, hB2, hS1, g0, g1⟩
  case round =>
    obtain ⟨j, hj, rfl, rfl, hb, hs, b0, b1⟩ := hrel
    by_cases hlt : j < l.length
    · obtain ⟨x, hx⟩ : ∃ x, l[j]? = some x := ⟨l[j], by simp [hlt]⟩
      have ht : l.take (j + 1) = l.take j ++ [x] := by rw [List.take_add_one, hx]; rfl
      obtain ⟨b, off, cap, rfl, hn, hbl, hcell⟩ : ∃ b off cap, q = some ⟨b, off, none⟩ ∧ l.length ≤ 9223372036854775807 ∧ b < w.heap.size ∧ OpCells w b (off + j * 22) x := by
        rcases hrow0 with ⟨_, h⟩ | ⟨b, off, cap, h, hn, hbl, hc⟩
        · rw [h] at hlt; simp at hlt
        · cases h; exact ⟨b, off, ncap, rfl, hn, hbl, hc j x hx⟩
      have hcw : OpCells wr b (off + j * 22) x := fun i y hi => (hb.cell (p := ⟨b, _, none⟩) hbl).trans (hcell i y hi)
      clear hcell
      have bz : OpBox (wr.alloc zOp) wr.heap.size opZero := OpBox.new _ _
      go_wp2_with (first | refine wpList_load_eq (T := 35) (v := opV x) rfl rfl rfl (load_op hcw) ?_ | refine wpList_store_eq (T := 35) (v := opV x) rfl rfl rfl rfl (OpBox.store bz x) ?_)
      have hL2 := hL.below hb
      have hB3 : Below w.heap.size w (putOp (wr.alloc zOp) wr.heap.size x) := below_putOp (hb.alloc (by omega) _) (by omega) _
      have hs3 : wr.heap.size + 1 ≤ (putOp (wr.alloc zOp) wr.heap.size x).heap.size := by simp
      have b0' : OpBox (putOp (wr.alloc zOp) wr.heap.size x) (w.heap.size + 1) opZero := (OpBox.below b0 ((Below.refl _ _).alloc (Nat.le_refl _) _) (by omega)).other _ (by omega)
      have b1' : OpBox (putOp (wr.alloc zOp) wr.heap.size x) (w.heap.size + 1 + 1) ((bestOp M.hidden (List.take j l)).getD opZero) := (OpBox.below b1 ((Below.refl _ _).alloc (Nat.le_refl _) _) (by omega)).other _ (by omega)
      have bx' : OpBox (putOp (wr.alloc zOp) wr.heap.size x) wr.heap.size x := bz.put x
      obtain ⟨B, hBeq⟩ : ∃ B, wr.heap.size = B := ⟨_, rfl⟩
      rw [hBeq] at hB3 hs3 b0' b1' bx' ⊢
      obtain ⟨W2, hW2⟩ : ∃ W2, putOp (wr.alloc zOp) B x = W2 := ⟨_, rfl⟩
      rw [hW2] at hB3 hs3 b0' b1' bx' ⊢
      clear hW2 bz b0 b1 hcw
      have hL3 := hL.below hB3
      obtain ⟨H, hH1, hH2⟩ := hL3.hid
      have hH3 := hH1.slice (k := 3) (enc := encRng) (fun _ => rfl)
      have d0 : ∀ s : BStep W2, s.val.cell? ⟨bm, 2, none⟩ = some L.hv := BStep.cell (hL3.foot_lt _ (.inl rfl)) (by simp [World.cell?, hL3.st])
      have d1 : ∀ s : BStep W2, s.val.cell? ⟨B, 0, none⟩ = some (.int .u64 x.id.c) := BStep.cell bx'.lt (bx'.cells 0 _ rfl)
      have d2 : ∀ s : BStep W2, s.val.cell? ⟨B, 1, none⟩ = some (.int .u64 x.id.k) := BStep.cell bx'.lt (bx'.cells 1 _ rfl)
      have l1 : ∀ w', (∃ s : BStep W2, w' = s.val) → (loadVar 35 ⟨w.heap.size + 1 + 1, 0, none⟩).run Tryz.prog w' = .ok (opV ((bestOp M.hidden (List.take j l)).getD opZero)) w' := by
        rintro _ ⟨s, rfl⟩; exact (b1'.below s.h b1'.lt).load
      have l2 : ∀ w', (∃ s : BStep W2, w' = s.val) → (loadVar 35 ⟨B, 0, none⟩).run Tryz.prog w' = .ok (opV x) w' := by
        rintro _ ⟨s, rfl⟩; exact (bx'.below s.h bx'.lt).load
      have cHas : ∀ s : BStep W2, Calls Tryz.prog 60 #[L.hv, .agg #[.int .u64 x.id.c, .int .u64 x.id.k]] s.val fun e w' => e = .returned (.bool (hasRngs M.hidden x.id)) ∧ Below s.val.heap.size s.val w' := fun s => by
        rw [← hH2]; exact idsHas_any x.id L.hv H s.val (hH3.below s.h)
      have hnext : bestOp M.hidden (l.take (j + 1)) = pickOp M.hidden (bestOp M.hidden (l.take j)) x := by
        rw [ht]; simp [bestOp]
      go_frame
      rcases hbest : bestOp M.hidden (l.take j) with _ | y
      · rw [hbest] at hnext b1' l1
        simp only [Option.isSome_none, Option.getD_none] at b1' l1 ⊢
        cases hh : hasRngs M.hidden x.id
        · rw [hh] at cHas
          refine wp_region_b (by kernel_rfl) (by kernel_rfl) ?_
          repeat (first | go_big_quiet_skip | (go_big_quiet_want; first | (refine quiet_load 35 _ ⟨w.heap.size + 1 + 1, 0, none⟩ rfl rfl l1 ?_; go_frame; go_big_quiet_on) | (refine quiet_load 35 _ ⟨B, 0, none⟩ rfl rfl l2 ?_; go_frame; go_big_quiet_on) | (go_big_quiet_op; first | go_big_quiet_on | go_big_quiet_call ((go_at_call 60; exact callsB (cHas _))))))
          refine wpQuiet_nil ?_
          intro Wq hCq
          have hWq := BStep.of hCq
          go_wp2_with (first | refine wpList_load_eq (T := 35) (v := opV x) rfl rfl rfl (l2 _ hCq) ?_ | refine wpList_store_eq (T := 35) (v := opV x) rfl rfl rfl rfl (OpBox.store (b1'.below hWq b1'.lt) x) ?_)
          go_roundw
          case rel => exact ⟨j + 1, by omega, by go_num, by rw [hnext]; simp [pickOp, hh], below_putOp (belowTrans hB3 hWq) (by omega) _, by rw [putOp_size]; have := hWq.size; omega, (b0'.below hWq b0'.lt).other _ (by omega), by rw [hnext]; simpa [pickOp, hh] using (b1'.below hWq b1'.lt).put x⟩
          case measure => simp [intOf]; omega
        · rw [hh] at cHas
          refine wp_region_b (by kernel_rfl) (by kernel_rfl) ?_
          repeat (first | go_big_quiet_skip | (go_big_quiet_want; first | (refine quiet_load 35 _ ⟨w.heap.size + 1 + 1, 0, none⟩ rfl rfl l1 ?_; go_frame; go_big_quiet_on) | (refine quiet_load 35 _ ⟨B, 0, none⟩ rfl rfl l2 ?_; go_frame; go_big_quiet_on) | (go_big_quiet_op; first | go_big_quiet_on | go_big_quiet_call ((go_at_call 60; exact callsB (cHas _))))))
          refine wpQuiet_nil ?_
          intro Wq hCq
          have hWq := BStep.of hCq
          go_wp2_with fail
          go_roundw
          case rel => exact ⟨j + 1, by omega, by go_num, by rw [hnext]; simp [pickOp, hh], belowTrans hB3 hWq, by have := hWq.size; omega, b0'.below hWq b0'.lt, by rw [hnext]; simpa [pickOp, hh] using (b1'.below hWq b1'.lt)⟩
          case measure => simp [intOf]; omega
      · rw [hbest] at hnext b1' l1
        simp only [Option.isSome_some, Option.getD_some] at b1' l1 ⊢
        cases hh : hasRngs M.hidden x.id
        · rw [hh] at cHas
          have cLess := fun W => marksLess_any y x W
          cases hls : y.lessB x
          · rw [hls] at cLess
            refine wp_region_b (by kernel_rfl) (by kernel_rfl) ?_
            repeat (first | go_big_quiet_skip | (go_big_quiet_want; first | (refine quiet_load 35 _ ⟨w.heap.size + 1 + 1, 0, none⟩ rfl rfl l1 ?_; go_frame; go_big_quiet_on) | (refine quiet_load 35 _ ⟨B, 0, none⟩ rfl rfl l2 ?_; go_frame; go_big_quiet_on) | (go_big_quiet_op; first | go_big_quiet_on | go_big_quiet_call (first | (go_at_call 60; exact callsB (cHas _)) | (go_at_call 140; exact callsB (cLess _))))))
            refine wpQuiet_nil ?_
            intro Wq hCq
            have hWq := BStep.of hCq
            go_wp2_with fail
            go_roundw
            case rel => exact ⟨j + 1, by omega, by go_num, by rw [hnext]; simp [pickOp, hh, hls], belowTrans hB3 hWq, by have := hWq.size; omega, b0'.below hWq b0'.lt, by rw [hnext]; simpa [pickOp, hh, hls] using (b1'.below hWq b1'.lt)⟩
            case measure => simp [intOf]; omega
          · rw [hls] at cLess
            refine wp_region_b (by kernel_rfl) (by kernel_rfl) ?_
            repeat (first | go_big_quiet_skip | (go_big_quiet_want; first | (refine quiet_load 35 _ ⟨w.heap.size + 1 + 1, 0, none⟩ rfl rfl l1 ?_; go_frame; go_big_quiet_on) | (refine quiet_load 35 _ ⟨B, 0, none⟩ rfl rfl l2 ?_; go_frame; go_big_quiet_on) | (go_big_quiet_op; first | go_big_quiet_on | go_big_quiet_call (first | (go_at_call 60; exact callsB (cHas _)) | (go_at_call 140; exact callsB (cLess _))))))
            refine wpQuiet_nil ?_
            intro Wq hCq
            have hWq := BStep.of hCq
            go_wp2_with (first | refine wpList_load_eq (T := 35) (v := opV x) rfl rfl rfl (l2 _ hCq) ?_ | refine wpList_store_eq (T := 35) (v := opV x) rfl rfl rfl rfl (OpBox.store (b1'.below hWq b1'.lt) x) ?_)
            go_roundw
            case rel => exact ⟨j + 1, by omega, by go_num, by rw [hnext]; simp [pickOp, hh, hls], below_putOp (belowTrans hB3 hWq) (by omega) _, by rw [putOp_size]; have := hWq.size; omega, (b0'.below hWq b0'.lt).other _ (by omega), by rw [hnext]; simpa [pickOp, hh, hls] using (b1'.below hWq b1'.lt).put x⟩
            case measure => simp [intOf]; omega
        · rw [hh] at cHas
          refine wp_region_b (by kernel_rfl) (by kernel_rfl) ?_
          repeat (first | go_big_quiet_skip | (go_big_quiet_want; first | (refine quiet_load 35 _ ⟨w.heap.size + 1 + 1, 0, none⟩ rfl rfl l1 ?_; go_frame; go_big_quiet_on) | (refine quiet_load 35 _ ⟨B, 0, none⟩ rfl rfl l2 ?_; go_frame; go_big_quiet_on) | (go_big_quiet_op; first | go_big_quiet_on | go_big_quiet_call ((go_at_call 60; exact callsB (cHas _))))))
          refine wpQuiet_nil ?_
          intro Wq hCq
          have hWq := BStep.of hCq
          go_wp2_with fail
          go_roundw
          case rel => exact ⟨j + 1, by omega, by go_num, by rw [hnext]; simp [pickOp, hh], belowTrans hB3 hWq, by have := hWq.size; omega, b0'.below hWq b0'.lt, by rw [hnext]; simpa [pickOp, hh] using (b1'.below hWq b1'.lt)⟩
          case measure => simp [intOf]; omega
    · have hje : j = l.length := by omega
      subst hje
      rw [List.take_length] at b1 ⊢
      have hlt2 : ¬ ((l.length : Int) < l.length) := by omega
      rcases hbest : bestOp M.hidden l with _ | y
      · rw [hbest] at b1
        simp only [Option.isSome_none, Option.getD_none] at b1 ⊢
        go_wp2_with (refine wpList_store_eq (T := 35) (v := opV opZero) rfl rfl rfl rfl (OpBox.store b0 opZero) ?_)
        have hres := (b0.put opZero).load
        refine bodyPost_ret (v := .tuple #[opV opZero, .bool false]) ?_ rfl ⟨by rw [← hre, hbest]; rfl, below_putOp hb (by omega) _⟩
        simp [results, Tryz.results99, asAddr, hres]
      · rw [hbest] at b1
        simp only [Option.isSome_some, Option.getD_some] at b1 ⊢
        have ck : wr.cell? ⟨w.heap.size + 1 + 1, 9, none⟩ = some (.int .i64 y.v.kind) := b1.cells 9 _ rfl
        cases hk : (y.v.kind == 0)
        · have hse : seen (some y) = some y := by simp at hk; simp [seen, hk]
          go_wp2_with (first | refine wpList_load_eq (T := 35) (v := opV y) rfl rfl rfl b1.load ?_ | refine wpList_store_eq (T := 35) (v := opV y) rfl rfl rfl rfl (OpBox.store b0 y) ?_)
          have hres := (b0.put y).load
          refine bodyPost_ret (v := .tuple #[opV y, .bool true]) ?_ rfl ⟨by rw [← hre, hbest, hse]; rfl, below_putOp hb (by omega) _⟩
          simp [results, Tryz.results99, asAddr, hres]
        · have hse : seen (some y) = none := by simp at hk; simp [seen, hk]
          go_wp2_with (refine wpList_store_eq (T := 35) (v := opV opZero) rfl rfl rfl rfl (OpBox.store b0 opZero) ?_)
          have hres := (b0.put opZero).load
          refine bodyPost_ret (v := .tuple #[opV opZero, .bool false]) ?_ rfl ⟨by rw [← hre, hbest, hse]; rfl, below_putOp hb (by omega) _⟩
          simp [results, Tryz.results99, asAddr, hres]
end Go.Proofs.YthhbiliimdpgmaaGreatDoor
