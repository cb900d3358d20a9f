/- Walk: Run of two units of client 7 in a sequence without units. -/
import Derived.Test.YthhbiliimdpgmaaGreatDoorM26
import Derived.Test.YthhbiliimdpgmaaGreatDoorM04
import Derived.Test.YthhbiliimdpgmaaGreatDoorM16
import Derived.Test.YthhbiliimdpgmaaGreatDoorM07
import Derived.Test.YthhbiliimdpgmaaGreatDoorM22
namespace Go.Proofs.YthhbiliimdpgmaaGreatDoor
open Go.RowKit Go.Lib

theorem node_units {w : World} {b : Nat} {x : QUnit} {p l r : Value} {s : Int} (hn : NodeAt w b x p l r s) : ∀ (i : Nat) (y : Value), (encUnit x)[i]? = some y → w.cell? ⟨b, i, none⟩ = some y := fun i y hy => by
  refine hn.cell i y ?_
  match i, hy with
  | 0, hy => exact hy
  | 1, hy => exact hy
  | 2, hy => exact hy
  | 3, hy => exact hy
  | 4, hy => exact hy
  | 5, hy => exact hy
  | (i + 6), hy => simp [encUnit] at hy
def x71 : QId := ⟨7, 1⟩
def u71 : QUnit := ⟨⟨7, 1⟩, idZero, idZero⟩
def u72 : QUnit := ⟨⟨7, 2⟩, ⟨7, 1⟩, idZero⟩
theorem run1_zero (ub nb : Nat) (w : World) (u0 : w.cell? ⟨ub, 0, none⟩ = some (.int .u64 7)) (hu : ub < w.heap.size) : Calls Tryz.prog 147 #[.agg #[.int .u64 0, .int .u64 0], .pointer (some ⟨ub, 0, none⟩), .pointer (some ⟨nb, 0, none⟩)] w fun e w' => e = .returned (.bool false) ∧ Below w.heap.size w w' := by
  go_enter Tryz.func147, Tryz.ntmps147
  go_wp2
  go_ret
  exact ⟨rfl, by (repeat (first | exact Below.refl _ _ | assumption | refine Below.alloc ?_ (by simp <;> omega) _ | refine Below.drew ?_ | refine below_drewN ?_ _ | refine Below.setCell ?_ (by simp <;> omega) _ | refine belowTrans ?_ (by assumption)))⟩
def RunR (n : Nat) (w : World) (e : Ending) (w' : World) : Prop :=
  e = .returned (.bool true) ∧ ∃ b1 b2 ov, AllA n ov [b1, b2] [u71, u72] w' ∧ w.heap.size ≤ b1 ∧ w.heap.size ≤ b2 ∧ OwnAt w.heap.size 202 1 encP w' ov [b1, b2] ∧ Mods (fun b => b = n + 4 ∨ b = n + 5 ∨ b = n + 6) w w'
set_option maxRecDepth 100000 in
set_option maxHeartbeats 4000000 in
theorem run_two (n : Nat) (w : World) (hs : SeqM n w [] [] (.slice none 0 0) (.slice none 0 0) true) :
    Calls Tryz.prog 118 #[.pointer (some ⟨n + 6, 0, none⟩), .agg #[.int .u64 7, .int .u64 1, .int .u64 0, .int .u64 0, .int .u64 0, .int .u64 0], .int .i64 2] w (RunR n w) := by
  have hr : ∀ w, Calls Tryz.prog 57 #[.agg #[.int .u64 7, .int .u64 1]] w fun e w' => e = .returned (.bool true) ∧ Below w.heap.size w w' := fun w => right_any ⟨7, 1⟩ w
  have hmf : ∀ (fn : Fn) (first cap : Array Value) (w : World), (Instr.makeFunc fn first cap).run Tryz.prog w = .ok (.func fn first cap) w := fun _ _ _ _ => rfl
  have hsl := hs.lt
  go_enter Tryz.func118, Tryz.ntmps118
  go_upto_region 1 with fail
  have hB : Below w.heap.size w ((w.alloc (.cells #[.int .u64 7, .int .u64 1, .int .u64 0, .int .u64 0, .int .u64 0, .int .u64 0] 157)).alloc (.cells #[.int .i64 2] 3)) := by (repeat (first | exact Below.refl _ _ | assumption | refine Below.alloc ?_ (by simp <;> omega) _ | refine Below.drew ?_ | refine below_drewN ?_ _ | refine Below.setCell ?_ (by simp <;> omega) _ | refine belowTrans ?_ (by assumption)))
  have hu : ∀ k v, (#[Value.int .u64 7, .int .u64 1, .int .u64 0, .int .u64 0, .int .u64 0, .int .u64 0])[k]? = some v → ((w.alloc (.cells #[.int .u64 7, .int .u64 1, .int .u64 0, .int .u64 0, .int .u64 0, .int .u64 0] 157)).alloc (.cells #[.int .i64 2] 3)).cell? ⟨w.heap.size, k, none⟩ = some v := fun k v hk => (cellTwo w _ _ _ _ k).1.trans hk
  have h2 : ((w.alloc (.cells #[.int .u64 7, .int .u64 1, .int .u64 0, .int .u64 0, .int .u64 0, .int .u64 0] 157)).alloc (.cells #[.int .i64 2] 3)).cell? ⟨w.heap.size + 1, 0, none⟩ = some (.int .i64 2) := (cellTwo w _ _ _ _ 0).2
  have hul : w.heap.size + 1 < ((w.alloc (.cells #[.int .u64 7, .int .u64 1, .int .u64 0, .int .u64 0, .int .u64 0, .int .u64 0] 157)).alloc (.cells #[.int .i64 2] 3)).heap.size := by simp
  generalize (w.alloc (.cells #[.int .u64 7, .int .u64 1, .int .u64 0, .int .u64 0, .int .u64 0, .int .u64 0] 157)).alloc (.cells #[.int .i64 2] 3) = W at hB hu h2 hul ⊢
  have u0 := hu 0 _ rfl
  have u1 := hu 1 _ rfl
  have u2 := hu 2 _ rfl
  have u3 := hu 3 _ rfl
  have u4 := hu 4 _ rfl
  have u5 := hu 5 _ rfl
  have hmy := fun w1 (hb : Below W.heap.size W w1) => may_free n ⟨7, 1⟩ _ _ _ _ _ w1 ((hs.keep fun b g => hB.block b (by omega)).keep fun b g => hb.block b (by omega)) (by decide) rfl
  go_upto_region 3 with (first | (go_at_call 57; refine (hr _).mono ?_; rintro e w1 ⟨rfl, hb1⟩; have hw0 : w.heap.size < W.heap.size := (by omega); have h2' := (hb1.cell (p := ⟨w.heap.size + 1, 0, none⟩) hul).trans h2; have q0 := (hb1.cell (p := ⟨w.heap.size, 0, none⟩) hw0).trans u0; have q1 := (hb1.cell (p := ⟨w.heap.size, 1, none⟩) hw0).trans u1; have q2 := (hb1.cell (p := ⟨w.heap.size, 2, none⟩) hw0).trans u2; have q3 := (hb1.cell (p := ⟨w.heap.size, 3, none⟩) hw0).trans u3; have q4 := (hb1.cell (p := ⟨w.heap.size, 4, none⟩) hw0).trans u4; have q5 := (hb1.cell (p := ⟨w.heap.size, 5, none⟩) hw0).trans u5) | (go_at_call 146; refine (hmy _ hb1).mono ?_; rintro e w2 ⟨rfl, hb2⟩))
  have hB2 := hB.trans ((hb1.trans (hb2.mono hb1.size)).mono hB.size)
  have hul2 : w.heap.size + 1 < w2.heap.size := by have := hb1.size; have := hb2.size; omega
  have hbb := hb1.trans (hb2.mono hb1.size)
  have hu2 : ∀ k v, (#[Value.int .u64 7, .int .u64 1, .int .u64 0, .int .u64 0, .int .u64 0, .int .u64 0])[k]? = some v → w2.cell? ⟨w.heap.size, k, none⟩ = some v := fun k v hk => (hbb.cell (p := ⟨w.heap.size, k, none⟩) hw0).trans (hu k v hk)
  have h22 := (hbb.cell (p := ⟨w.heap.size + 1, 0, none⟩) hul).trans h2
  clear hmy hb1 hb2 hbb h2 h2' q0 q1 q2 q3 q4 q5 u0 u1 u2 u3 u4 u5 hu hB hul hw0
  have hs2 := hs.keep fun b g => hB2.block b (by omega)
  have v0 : ∀ s : BStep w2, s.val.cell? ⟨w.heap.size, 0, none⟩ = some (.int .u64 7) := BStep.cell (by show w.heap.size < _; omega) (hu2 0 _ rfl)
  have v1 : ∀ s : BStep w2, s.val.cell? ⟨w.heap.size, 1, none⟩ = some (.int .u64 1) := BStep.cell (by show w.heap.size < _; omega) (hu2 1 _ rfl)
  go_upto_region 4 with fail
  go_loopw [34] (fun i wx => ∃ k : Nat, k ≤ 2 ∧ i = .int .i64 k ∧ Below w2.heap.size w2 wx) (fun i _ => 2 - (intOf i).toNat)
  case atStart => exact ⟨0, by omega, rfl, Below.refl _ _⟩
  case round =>
    obtain ⟨k, hk, rfl, hbx⟩ := hrel
    by_cases hk2 : k < 2
    · have hkz : (k : Int) < 2 := by omega
      have hsx := hs2.keep fun b g => hbx.block b (by have := hs2.lt; omega)
      have hzx := hbx.size
      have y0 : ∀ s : BStep wr, s.val.cell? ⟨w.heap.size, 0, none⟩ = some (.int .u64 7) := BStep.cell (by show w.heap.size < _; omega) ((hbx.cell (p := ⟨w.heap.size, 0, none⟩) (by show w.heap.size < _; omega)).trans (hu2 0 _ rfl))
      have y1 : ∀ s : BStep wr, s.val.cell? ⟨w.heap.size, 1, none⟩ = some (.int .u64 1) := BStep.cell (by show w.heap.size < _; omega) ((hbx.cell (p := ⟨w.heap.size, 1, none⟩) (by show w.heap.size < _; omega)).trans (hu2 1 _ rfl))
      have a0 : ∀ s : BStep wr, s.val.cell? ⟨n + 6, 0, none⟩ = some (.map (some (n + 4))) := BStep.cell hsx.lt (hsx.cell 0 _ rfl)
      have hkw : IntKind.u64.wrap (k : Int) = k := by simp [IntKind.wrap, IntKind.bits, IntKind.signed]; omega
      have hkw2 : IntKind.u64.wrap (1 + (k : Int)) = 1 + k := by simp [IntKind.wrap, IntKind.bits, IntKind.signed]; omega
      have lk : ∀ s : BStep wr, (Instr.lookup 83 (.map (some (n + 4))) (.agg #[.int .u64 7, .int .u64 (1 + k)]) false).run Tryz.prog s.val = .ok (.pointer none) s.val := fun s => seqLook (bstepSeq hsx s) ⟨7, 1 + k⟩
      clear v0 v1
      go_upto_region 6 with fail
      refine wp_region_b (by kernel_rfl) (by kernel_rfl) ?_
      repeat (first | go_big_quiet_skip | (go_big_quiet_want; go_big_quiet_op; first | go_big_quiet_on | go_big_quiet_call (fail)))
      refine wpQuiet_nil ?_
      intro W' hC'
      have hBW' := BStep.of hC'
      clear y0 y1 a0 lk
      go_wp2
      exact ⟨⟨k + 1, by omega, by go_num, hbx.trans (hBW'.mono hzx)⟩, by simp [intOf]; omega⟩
    · obtain rfl : k = 2 := by omega
      have hsx := hs2.keep fun b g => hbx.block b (by have := hs2.lt; omega)
      have hzx := hbx.size
      have hux : ∀ k v, (#[Value.int .u64 7, .int .u64 1, .int .u64 0, .int .u64 0, .int .u64 0, .int .u64 0])[k]? = some v → wr.cell? ⟨w.heap.size, k, none⟩ = some v := fun k v hk => (hbx.cell (p := ⟨w.heap.size, k, none⟩) (by show w.heap.size < _; omega)).trans (hu2 k v hk)
      have hx2 := (hbx.cell (p := ⟨w.heap.size + 1, 0, none⟩) hul2).trans h22
      have hBx := hB2.trans (hbx.mono hB2.size)
      have huxl : w.heap.size + 1 < wr.heap.size := by omega
      clear v0 v1 hs2 hbx hu2 h22 hB2 hul2 hzx
      have u0 := hux 0 _ rfl
      have u1 := hux 1 _ rfl
      have u2 := hux 2 _ rfl
      have u3 := hux 3 _ rfl
      have u4 := hux 4 _ rfl
      have u5 := hux 5 _ rfl
      have hw0 : w.heap.size < wr.heap.size := by omega
      have how := fun w1 (hb : Below wr.heap.size wr w1) => run1_zero w.heap.size (w.heap.size + 1) w1 ((hb.cell (p := ⟨w.heap.size, 0, none⟩) hw0).trans u0) (by have := hb.size; omega)
      have hbr := Below.refl wr.heap.size wr
      go_upto_region 12 with (first | (go_at_call 147; refine (how _ (by assumption)).mono ?_; rintro e w3 ⟨rfl, hb3⟩; have hbr := Below.trans (by assumption) (hb3.mono (Below.size (by assumption))); have q4 := (hbr.cell (p := ⟨w.heap.size, 4, none⟩) hw0).trans u4; have q5 := (hbr.cell (p := ⟨w.heap.size, 5, none⟩) hw0).trans u5))
      have hB3 := hBx.trans (hbr.mono hBx.size)
      have hz3 := hbr.size
      have hu3 : ∀ k v, (#[Value.int .u64 7, .int .u64 1, .int .u64 0, .int .u64 0, .int .u64 0, .int .u64 0])[k]? = some v → w3.cell? ⟨w.heap.size, k, none⟩ = some v := fun k v hk => (hbr.cell (p := ⟨w.heap.size, k, none⟩) hw0).trans (hux k v hk)
      have h23 := (hbr.cell (p := ⟨w.heap.size + 1, 0, none⟩) huxl).trans hx2
      clear how hb3 hbr q4 q5 u0 u1 u2 u3 u4 u5 hux hx2 hBx hsx
      have hs3 := hs.keep fun b g => hB3.block b (by omega)
      have hsl3 := hs3.lt
      have hpt := put_first n ⟨7, 1⟩ true w3 hs3
      have u0 := hu3 0 _ rfl
      have u1 := hu3 1 _ rfl
      have u2 := hu3 2 _ rfl
      have u3 := hu3 3 _ rfl
      have u4 := hu3 4 _ rfl
      have u5 := hu3 5 _ rfl
      go_upto_region 13 with (go_at_call 148; refine hpt.mono ?_; rintro e w4 ⟨rfl, b1, ov, rv, hb1, hs4, hn4, ho4, hm4⟩)
      have hz4 := hm4.size
      have h24 : w4.cell? ⟨w.heap.size + 1, 0, none⟩ = some (.int .i64 2) := (World.cell?_of_block (w := w3) (hm4.block (w.heap.size + 1) (by omega) (by omega))).trans h23
      have y0 : w4.cell? ⟨w.heap.size, 0, none⟩ = some (.int .u64 7) := (World.cell?_of_block (w := w3) (hm4.block w.heap.size (by omega) (by omega))).trans u0
      have y1 : w4.cell? ⟨w.heap.size, 1, none⟩ = some (.int .u64 1) := (World.cell?_of_block (w := w3) (hm4.block w.heap.size (by omega) (by omega))).trans u1
      clear u0 u1 u2 u3 u4 u5 hpt h23 hu3 hs3
      go_upto_region 14 with fail
      have s0 : ∀ s : MStep (fun _ => False) w4, s.val.cell? ⟨w.heap.size, 0, none⟩ = some (.int .u64 7) := MStep.cell (by show w.heap.size < _; omega) id y0
      have s1 : ∀ s : MStep (fun _ => False) w4, s.val.cell? ⟨w.heap.size, 1, none⟩ = some (.int .u64 1) := MStep.cell (by show w.heap.size < _; omega) id y1
      have s2 : ∀ s : MStep (fun _ => False) w4, s.val.cell? ⟨w.heap.size + 1, 0, none⟩ = some (.int .i64 2) := MStep.cell (by show w.heap.size + 1 < _; omega) id h24
      have a0 : ∀ s : MStep (fun _ => False) w4, s.val.cell? ⟨n + 6, 0, none⟩ = some (.map (some (n + 4))) := MStep.cell hs4.lt id (hs4.cell 0 _ rfl)
      have lk : ∀ s : MStep (fun _ => False) w4, (Instr.lookup 83 (.map (some (n + 4))) (.agg #[.int .u64 7, .int .u64 1]) false).run Tryz.prog s.val = .ok (.pointer (some ⟨b1, 0, none⟩)) s.val := fun s => by
        have := seqLook (hs4.keep fun b g => s.h.block b (by have := hs4.lt; omega) id) ⟨7, 1⟩
        simpa [look, ptrV] using this
      have hch := chain_one n b1 w3.heap.size ⟨7, 1⟩ ov rv w4.drew (hs4.keep fun b g => rfl) hn4 (ownsRow_blk ho4 fun k e => rfl) (by omega) hb1 (by show w3.heap.size ≤ w4.heap.size; exact hz4) rfl
      refine wp_region_flow3 10 [0, 1, 2, 3, 4, 5, 6, 7, 8, 9] [10] (fun w' => ∃ s : MStep (fun _ => False) w4, w' = s.val) (by kernel_rfl) (by kernel_rfl) (fun _ _ d _ _ h => by cases d <;> exact h) (MStep.to (Mods.refl _ _).drew) ?_
      simp only [List.map_cons, List.map_nil, List.getElem?_cons_succ, List.getElem?_cons_zero, Option.getD_some]
      repeat (first | go_big_quiet_skip | (go_big_quiet_want; first | (fail; go_frame; go_big_quiet_on) | (go_big_quiet_op; go_big_quiet_on)))
      refine wpQuiet_nil ?_
      refine wpSeqF_step rfl ?_; simp only [List.getElem_toArray, List.getElem_cons_succ, List.getElem_cons_zero]
      go_wp2_with (go_at_call 149; refine hch.mono ?_; rintro e w5 ⟨rfl, b2, ov2, rv2, am, om, sl, hb2, hs5, hn5, hn5x, ho5, hm5⟩)
      refine wpSeqF_nil ?_
      go_wp2
      go_ret
      have hzw := hB3.size
      have hz4' : w4.heap.size ≤ b2 := hb2
      refine ⟨rfl, b1, b2, ov2, ⟨hs5.cell 1 _ rfl, ho5.rowP, rfl, ?_⟩, by omega, by omega, ownsRow_base ho5 hzw, ?_⟩
      · intro k b u h1 h2
        match k, h1, h2 with
        | 0, h1, h2 =>
          simp at h1 h2
          subst h1
          subst h2
          exact node_units hn5
        | 1, h1, h2 =>
          simp at h1 h2
          subst h1
          subst h2
          exact node_units hn5x
        | (k + 2), h1, _ => simp at h1
      · have h3 : Mods (fun b => b = n + 4 ∨ b = n + 5 ∨ b = n + 6) w w4 := (Mods.of_below hB3).trans (hm4.mono fun b g => by omega)
        exact ⟨hm5.os.trans h3.os, hm5.tape.trans h3.tape, hm5.output.trans h3.output, Nat.le_trans h3.size hm5.size, fun k hk hs => (hm5.block k (Nat.lt_of_lt_of_le hk h3.size) (by unfold ChS; omega)).trans (h3.block k hk hs)⟩
end Go.Proofs.YthhbiliimdpgmaaGreatDoor
/- Walks: gone in a document without deletes. -/
namespace Go.Proofs.YthhbiliimdpgmaaGreatDoor
open Go.RowKit Go.Lib

set_option maxRecDepth 100000 in
theorem bsearch_none (x : QId) (f : Value) (w : World) : Calls Tryz.prog 172 #[.slice none 0 0, .agg #[.int .u64 x.c, .int .u64 x.k], f] w fun e w' => e = .returned (.tuple #[.int .i64 0, .bool false]) ∧ Below w.heap.size w w' := by
  go_enter Tryz.func172, Tryz.ntmps172
  go_upto_region 3 with fail
  have hB : Below w.heap.size w (w.alloc (.cells #[.int .u64 x.c, .int .u64 x.k] 28)) := by (repeat (first | exact Below.refl _ _ | assumption | refine Below.alloc ?_ (by simp <;> omega) _ | refine Below.drew ?_ | refine below_drewN ?_ _ | refine Below.setCell ?_ (by simp <;> omega) _ | refine belowTrans ?_ (by assumption)))
  generalize w.alloc (.cells #[.int .u64 x.c, .int .u64 x.k] 28) = W at hB ⊢
  go_loopw [9, 10] (fun i j wx => i = .int .i64 0 ∧ j = .int .i64 0 ∧ wx = W) (fun _ _ _ => 0)
  case atStart => exact ⟨rfl, rfl, rfl⟩
  case round =>
    obtain ⟨rfl, rfl, rfl⟩ := hrel
    go_upto_region 8 with fail
    refine wp_region_b (by kernel_rfl) (by kernel_rfl) ?_
    repeat (first | go_big_quiet_skip | (go_big_quiet_want; go_big_quiet_op; first | go_big_quiet_on | go_big_quiet_call (fail)))
    refine wpQuiet_nil ?_
    intro W' hC'
    have hBW' := BStep.of hC'
    go_wp2
    refine bodyPost_ret (v := .tuple #[.int .i64 0, .bool false]) ?_ rfl ⟨rfl, hB.trans (hBW'.mono hB.size)⟩
    simp [results, Tryz.results172, go_sem]
set_option maxRecDepth 100000 in
theorem gone_none (n : Nat) (x : QId) (kl : List (Int × Value)) (wl : List (QId × Value)) (hv vv : Value) (st : Int) (w : World) (hd : DocC n w kl wl hv vv st) :
    Calls Tryz.prog 134 #[.pointer (some ⟨n + 11, 0, none⟩), .agg #[.int .u64 x.c, .int .u64 x.k]] w fun e w' => e = .returned (.bool false) ∧ Below w.heap.size w w' := by
  have hbs := fun f w => bsearch_none x f w
  have hdl := hd.lt
  go_enter Tryz.func134, Tryz.ntmps134
  go_upto_region 1 with fail
  have hB : Below w.heap.size w (w.alloc (.cells #[.int .u64 x.c, .int .u64 x.k] 28)) := by (repeat (first | exact Below.refl _ _ | assumption | refine Below.alloc ?_ (by simp <;> omega) _ | refine Below.drew ?_ | refine below_drewN ?_ _ | refine Below.setCell ?_ (by simp <;> omega) _ | refine belowTrans ?_ (by assumption)))
  have x0 : (w.alloc (.cells #[.int .u64 x.c, .int .u64 x.k] 28)).cell? ⟨w.heap.size, 0, none⟩ = some (.int .u64 x.c) := by go_simp
  have x1 : (w.alloc (.cells #[.int .u64 x.c, .int .u64 x.k] 28)).cell? ⟨w.heap.size, 1, none⟩ = some (.int .u64 x.k) := by go_simp
  have hz : w.heap.size < (w.alloc (.cells #[.int .u64 x.c, .int .u64 x.k] 28)).heap.size := by simp
  generalize w.alloc (.cells #[.int .u64 x.c, .int .u64 x.k] 28) = W at hB x0 x1 hz ⊢
  have hd2 := hd.keep fun b g => hB.block b (by omega)
  have s0 : ∀ s : BStep W, s.val.cell? ⟨w.heap.size, 0, none⟩ = some (.int .u64 x.c) := BStep.cell hz x0
  have s1 : ∀ s : BStep W, s.val.cell? ⟨w.heap.size, 1, none⟩ = some (.int .u64 x.k) := BStep.cell hz x1
  have s3 : ∀ s : BStep W, s.val.cell? ⟨n + 11, 3, none⟩ = some (.slice none 0 0) := BStep.cell hd2.lt (hd2.cell 3 _ rfl)
  refine wp_region_b (by kernel_rfl) (by kernel_rfl) ?_
  repeat (first | go_big_quiet_skip | (go_big_quiet_want; go_big_quiet_op; first | go_big_quiet_on | go_big_quiet_call ((go_at_call 172; exact callsB (hbs _ _)))))
  refine wpQuiet_nil ?_
  intro W' hC'
  have hBW' := BStep.of hC'
  have hB2 := hB.trans (hBW'.mono hB.size)
  have t3 : ∀ s : BStep W', s.val.cell? ⟨n + 11, 3, none⟩ = some (.slice none 0 0) := BStep.cell (Nat.lt_of_lt_of_le hd2.lt hBW'.size) ((hBW'.cell (p := ⟨n + 11, 3, none⟩) hd2.lt).trans (hd2.cell 3 _ rfl))
  clear s0 s1 s3 hC'
  go_upto_region 2 with fail
  refine wp_region_b (by kernel_rfl) (by kernel_rfl) ?_
  repeat (first | go_big_quiet_skip | (go_big_quiet_want; go_big_quiet_op; first | go_big_quiet_on | go_big_quiet_call (fail)))
  refine wpQuiet_nil ?_
  intro W' hC'
  have hBW' := BStep.of hC'
  go_wp2
  go_ret
  exact ⟨rfl, hB2.trans (hBW'.mono hB2.size)⟩
end Go.Proofs.YthhbiliimdpgmaaGreatDoor
/- As Range, with a condition that the function meets at each call of yield. -/
namespace Go.Proofs.YthhbiliimdpgmaaGreatDoor
open Go.RowKit Go.Shelf

section
variable {F : Fence} {n : Nat} {P : Program} {w : World}
theorem wpIn_range_allC {α : Type} {g : Operand} {ps : Array Tmp} {assign body : Code} {Q : Exit → Act → World → Prop} {a : Act}
    (hro : F.round = none) (h1 : 1 ≤ n) {gf : Nat} {lb : Array Value} (hg : a.eval g = .func (.func gf) #[] lb) (hFg : F.fn gf) (eg : ∀ args w, (callFunc gf args).run P w = .ok (.enter gf args) w)
    {encs : α → Array Value} (hps : ∀ x, (encs x).size = ps.size) (I : List α → World → Prop) (G : Nat → Prop) (C : World → Prop) {S : List α → Prop} {N : Nat}
    (hIp : ∀ pre W (r r' : Loop), I pre W → W.heap[w.heap.size + 1]? = some (.loop r) → I pre (W.putObj (w.heap.size + 1) (.loop r')))
    (h0 : ∀ r : Loop, I [] ((w.alloc (.deferred (some []))).alloc (.loop r)))
    (hround : ∀ pre x W r, I pre W → Book w.heap.size r W → pre.length < N → C W →
      assign.wpIn (F.inRound (w.heap.size + 1)) (n - 1 - 1) P (Exit.then (fun a1 W1 => Book w.heap.size r W1 ∧ Mods (RG G w.heap.size) W W1 ∧ ∀ r' : Loop, body.wpIn (F.inRound (w.heap.size + 1)) (n - 1 - 1) P
        (fun e _ W2 => e = .normal ∧ Book w.heap.size r' W2 ∧ Mods (RG G w.heap.size) (W1.putObj (w.heap.size + 1) (.loop r')) W2 ∧ I (pre ++ [x]) W2) a1 (W1.putObj (w.heap.size + 1) (.loop r'))) (fun _ _ _ => False))
        { tmps := (ps.zip (encs x)).foldl (fun t (p, v) => t.setIfInBounds p v) a.tmps, defers := [] } W)
    (hseq : ∀ rec : Loop, (∀ pre x W, I pre W → Book w.heap.size rec W → pre.length < N → C W → YieldAt F (n - 1 - 1) P (w.heap.size + 1) (encs x) W fun e W' => e = .returned (.bool true) ∧ I (pre ++ [x]) W' ∧ Book w.heap.size rec W' ∧ Mods (RG G w.heap.size) W W') →
      ∀ W, I [] W → Book w.heap.size rec W → W.heap.size = w.heap.size + 2 → CallsIn F (n - 1) P gf (#[.func (.yield (w.heap.size + 1)) #[] #[]] ++ lb) W fun e W' => (∃ v, e = .returned v) ∧ ∃ xs, S xs ∧ I xs W' ∧ Book w.heap.size rec W')
    (hdone : ∀ xs W, S xs → I xs W → W.heap[w.heap.size]? = some (.deferred (some [])) → Q .normal { a with defers := { target := .collected w.heap.size, args := #[] } :: a.defers } W) :
    (Code.rangeFunc g ps assign body).wpIn F n P Q a w := by
  refine wpIn_rangeFunc fun fn hfn => ?_
  rw [hro]
  obtain ⟨rec, hrec⟩ : ∃ rec : Loop, rec = { state := .ready, pending := none, fn, tmps := a.tmps, params := ps, assign, body, defers := w.heap.size } := ⟨_, rfl⟩
  have hB1 : Book w.heap.size rec ((w.alloc (.deferred (some []))).alloc (.loop rec)) := by
    refine ⟨?_, ?_⟩
    · have := World.alloc_heap_new (w.alloc (.deferred (some []))) (.loop rec)
      rwa [World.size_alloc] at this
    · exact (Below.heap_alloc _ _ _ (by simp)).trans (World.alloc_heap_new w _)
  refine ⟨w.heap.size + 1, [{ target := .collected w.heap.size, args := #[] }], (w.alloc (.deferred (some []))).alloc (.loop rec), { target := .fn (.func gf) lb, args := #[.func (.yield (w.heap.size + 1)) #[] #[]] },
    (w.alloc (.deferred (some []))).alloc (.loop rec), gf, #[.func (.yield (w.heap.size + 1)) #[] #[]] ++ lb, (w.alloc (.deferred (some []))).alloc (.loop rec), ?_, ?_, ?_, ?_, fun _ => h1, ?_⟩
  · rw [hrec]; exact run_enterLoop_outer _ _ _ _ _
  · simp only [resolve, hg]
    simp [go_sem]
  · intro f' hf'
    simp [Target.leads] at hf'
    subst hf'
    exact hFg
  · simp [invoke, go_sem, eg]
  · refine (hseq rec ?_ _ (h0 rec) hB1 (by simp)).mono ?_
    · intro pre x W hi hb hlen hcw
      have hy := run_yield (P := P) (args := encs x) hb.1 (by rw [hrec]; exact hps x)
      rw [hrec] at hy
      refine ⟨fn, _, assign, body, hy, roundIn_of_wpIn hfn (wpIn_mono (hround pre x W rec hi hb hlen hcw) ?_)⟩
      intro e a1 W1 h
      cases e with
      | normal =>
        obtain ⟨hb1, hm1, hbody⟩ := h
        refine ⟨_, run_beginRound hb1.1 (by rw [hrec]), wpIn_mono (hbody _) ?_⟩
        rintro e a2 W2 ⟨rfl, hb2, hm2, hi2⟩
        have hr := run_endRound (P := P) none hb2.1
        have e3 : ({ rec with state := .busy, pending := none } : Loop) = { rec with state := .busy } := by rw [hrec]
        refine ⟨_, _, hr, rfl, hIp _ _ _ _ hi2 hb2.1, ?_, mods_putObj ((mods_putObj hm1 (.inr rfl) _).trans hm2) (.inr rfl) _⟩
        have := hb2.put rec
        rw [hrec] at this ⊢
        exact this
      | ret => exact h.elim
      | exit id => exact h.elim
      | goto t => exact h.elim
      | panic ch => exact h.elim
      | outgrown => exact h.elim
    · rintro e W2 ⟨⟨v, rfl⟩, xs, hS, hi, hb⟩
      refine ⟨none, W2.putObj (w.heap.size + 1) (.loop { rec with state := .exhausted }), ?_, hdone xs _ hS (hIp _ _ _ _ hi hb.1) (hb.put _).2⟩
      have := run_endLoop (P := P) hb.1 (by rw [hrec]; simp)
      rw [hrec] at this ⊢
      exact this
end
end Go.Proofs.YthhbiliimdpgmaaGreatDoor
