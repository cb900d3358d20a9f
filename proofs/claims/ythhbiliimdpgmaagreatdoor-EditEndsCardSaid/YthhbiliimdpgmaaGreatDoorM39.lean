/- Walk: work where one operation waits and is ready. -/
import Derived.Test.YthhbiliimdpgmaaGreatDoorM38
import Derived.Test.YthhbiliimdpgmaaGreatDoorM37
import Derived.Test.YthhbiliimdpgmaaGreatDoorM24
import Derived.LoopNIn
import Derived.RangeFuncCalls
namespace Go.Proofs.YthhbiliimdpgmaaGreatDoor
open Go.RowKit Go.Shelf Go.Lib
attribute [local go_sem] Oper.semAt_some

/-- what work may turn. -/
def WG (n : Nat) (D : Nat → Prop) (k : Nat) : Prop := k = n ∨ k = n + 1 ∨ k = n + 2 ∨ k = n + 3 ∨ k = n + 11 ∨ D k
def dBox (n : Nat) (W : World) (b : Nat) : Prop := W.heap[b]? = some (.cells #[.pointer (some ⟨n + 11, 0, none⟩)] 24 (0, 0))
def mBox (v : Bool) (W : World) (b : Nat) : Prop := W.heap[b]? = some (.cells #[.bool v] 4 (0, 0))
/-- before the round, and behind it. -/
structure WkA (n : Nat) (X : Nat) (w W : World) : Prop where
  b : Below w.heap.size w W
  bx : dBox n W X
  bm : mBox false W (X + 1)
  bp : dBox n W (X + 2)
structure WkB (n N : Nat) (o : QOp) (D : Nat → Prop) (QW : Nat → World → Prop) (X B : Nat) (w W : World) : Prop where
  m : Mods (WG n D) w W
  d : ∃ hv, DocC n W [(o.id.c, .int .u64 N)] [] hv noS o.stamp ∧ SliceAt 3 encRng W hv []
  bx : dBox n W X
  bm : mBox true W (X + 1)
  bp : dBox n W (X + 2)
  q : ∃ s, B + 1 < s ∧ QW s W
theorem dBox.cell {n : Nat} {W : World} {b : Nat} (h : dBox n W b) : W.cell? ⟨b, 0, none⟩ = some (.pointer (some ⟨n + 11, 0, none⟩)) := by
  unfold dBox at h
  simp [World.cell?, h]
theorem mBox.cell {v : Bool} {W : World} {b : Nat} (h : mBox v W b) : W.cell? ⟨b, 0, none⟩ = some (.bool v) := by
  unfold mBox at h
  simp [World.cell?, h]
theorem mBox.frz {v : Bool} {W : World} {b : Nat} (h : mBox v W b) : W.frozen? ⟨b, 0, none⟩ = false := by
  unfold mBox at h
  simp [World.frozen?, h]
theorem mbox_learn {n : Nat} {D : Nat → Prop} {w W2 W7 w8 : World} (hD : ∀ k, D k → n ≤ k ∧ k ≤ n + 11) (hlt : n + 11 < w.heap.size) (hz : w.heap.size ≤ W2.heap.size) (hb : w.heap.size + 2 < W2.heap.size) (hM7 : Mods (fun b => b = n + 3 ∨ b = n + 11) W2 W7)
    (hm8 : Mods (fun b => b = n ∨ b = n + 1 ∨ b = n + 2 ∨ b = n + 11 ∨ D b) W7 w8) (h : mBox false W2 (w.heap.size + 1)) : mBox false w8 (w.heap.size + 1) := by
  have h1 := hM7.size
  refine (hm8.block _ (by omega) ?_).trans ((hM7.block _ (by omega) (by omega)).trans h)
  rintro (g | g | g | g | g)
  · omega
  · omega
  · omega
  · omega
  · have := hD _ g; omega
theorem wg_le {n : Nat} {D : Nat → Prop} (hD : ∀ k, D k → n ≤ k ∧ k ≤ n + 11) {k : Nat} (h : WG n D k) : k ≤ n + 11 := by
  rcases h with h | h | h | h | h | h
  · omega
  · omega
  · omega
  · omega
  · omega
  · exact (hD k h).2
theorem dBox.lt {n : Nat} {W : World} {b : Nat} (h : dBox n W b) : b < W.heap.size := (Array.getElem?_eq_some_iff.1 h).1
theorem mBox.lt {v : Bool} {W : World} {b : Nat} (h : mBox v W b) : b < W.heap.size := (Array.getElem?_eq_some_iff.1 h).1
theorem sliceZ {W W' : World} {hv : Value} (h : SliceAt 3 encRng W hv []) (hs : W.heap.size ≤ W'.heap.size) : SliceAt 3 encRng W' hv [] := by
  rcases h with h | ⟨b, off, c, h1, h2, h3, _⟩
  · exact .inl h
  · exact .inr ⟨b, off, c, h1, h2, Nat.lt_of_lt_of_le h3 hs, fun j x hj => by cases hj⟩
theorem WkA.to {n X : Nat} {w W W' : World} (h : WkA n X w W) (hX : X = w.heap.size) (hm : Mods (fun k => w.heap.size + 3 ≤ k) W W') : WkA n X w W' := by
  have h1 := h.bp.lt
  have h2 := h.b.size
  exact ⟨⟨hm.os.trans h.b.os, hm.tape.trans h.b.tape, hm.output.trans h.b.output, Nat.le_trans h2 hm.size, fun k hk => (hm.block k (by omega) (by omega)).trans (h.b.block k hk)⟩,
    (hm.block _ h.bx.lt (by omega)).trans h.bx, (hm.block _ h.bm.lt (by omega)).trans h.bm, (hm.block _ h1 (by omega)).trans h.bp⟩
theorem WkB.to {n N : Nat} {o : QOp} {D : Nat → Prop} {QW : Nat → World → Prop} {X B : Nat} {w W W' : World} (h : WkB n N o D QW X B w W) (hX : X = w.heap.size) (hB : B = w.heap.size + 3) (hlt : n + 11 < w.heap.size)
    (hQ : ∀ s w w', Mods (fun b => n + 11 < b ∧ b < s) w w' → n + 11 < w.heap.size → QW s w → QW s w') (hm : Mods (fun k => k = B + 1) W W') : WkB n N o D QW X B w W' := by
  have hz := h.m.size
  obtain ⟨hv, d1, d2⟩ := h.d
  obtain ⟨s, q1, q2⟩ := h.q
  exact ⟨⟨hm.os.trans h.m.os, hm.tape.trans h.m.tape, hm.output.trans h.m.output, Nat.le_trans hz hm.size, fun k hk hs => (hm.block k (by omega) (by omega)).trans (h.m.block k hk hs)⟩,
    ⟨hv, d1.keep fun b g => hm.block b (by omega) (by omega), sliceZ d2 hm.size⟩, (hm.block _ h.bx.lt (by omega)).trans h.bx, (hm.block _ h.bm.lt (by omega)).trans h.bm, (hm.block _ h.bp.lt (by omega)).trans h.bp,
    ⟨s, q1, hQ s _ _ (hm.mono fun b g => by subst g; omega) (by omega) q2⟩⟩
def WorkR (n N : Nat) (o : QOp) (D : Nat → Prop) (QW : Nat → World → Prop) (w : World) (e : Ending) (w' : World) : Prop :=
  e = .returned (.tuple #[]) ∧ ∃ hv, DocC n w' [(o.id.c, .int .u64 N)] [] hv noS o.stamp ∧ SliceAt 3 encRng w' hv [] ∧ (∃ s, w.heap.size ≤ s ∧ QW s w') ∧ Mods (WG n D) w w'
set_option maxRecDepth 100000 in
set_option maxHeartbeats 4000000 in
theorem work_one (n N base : Nat) (o : QOp) (hv : Value) (D : Nat → Prop) (P : World → Prop) (QW : Nat → World → Prop) (w : World) (hd : DocC n w [] [(o.id, opV o)] hv noS 0) (hh : OwnAt base 95 3 encRng w hv [⟨o.id.c, 1, 1 + N⟩]) (hs : StoreZ n w) (ho : HoldO o N) (hf : o.free) (hT : Tabs w) (hF : TabFree fun b => n ≤ b)
    (hbase : n + 11 < base) (hck : ∀ w, Tabs w → Calls Tryz.prog 30 #[opV o] w fun e w' => e = .returned (.int .i64 0) ∧ Below w.heap.size w w') (hst : 0 ≤ o.stamp) (hD : ∀ k, D k → n ≤ k ∧ k ≤ n + 11) (hP0 : P w)
    (hP : ∀ w w', Mods (fun b => b = n ∨ b = n + 1 ∨ b = n + 2 ∨ b = n + 3 ∨ b = n + 11) w w' → n + 11 < w.heap.size → P w → P w')
    (hQ : ∀ s w w', Mods (fun b => n + 11 < b ∧ b < s) w w' → n + 11 < w.heap.size → QW s w → QW s w')
    (hdoes : ∀ w hv, DocC n w [(o.id.c, .int .u64 N)] [] hv noS o.stamp → P w → Tabs w → Calls Tryz.prog 72 #[.pointer (some ⟨n + 11, 0, none⟩), opV o] w fun e w' => e = .returned (.bool true) ∧ DocC n w' [(o.id.c, .int .u64 N)] [] hv noS o.stamp ∧ QW w.heap.size w' ∧ Mods D w w') :
    Calls Tryz.prog 20 #[.pointer (some ⟨n + 11, 0, none⟩)] w (WorkR n N o D QW w) := by
  have hlt := hd.lt
  obtain ⟨p7, c7, rfl⟩ : ∃ p c, hv = .slice p 1 c := ownsRow_len hh
  refine (callsIn_wide (n := 9)).1 (callsIn_of_wp_marks Tryz.func20 rfl trivial ?_ rfl)
  simp only [Tryz.ntmps20, List.size_toArray, List.length_cons, List.length_nil, Nat.reduceAdd, Nat.reduceSub, Array.replicate_succ, Array.replicate_zero, List.push_toArray, List.append_toArray, List.nil_append, List.cons_append]
  gi_wp2
  refine wpIn_loop_rounds 3 ?_
  rw [roundsIn_succ]
  have hrd := fun W => (callsIn_wide (n := 8)).2 (ready_any (.pointer (some ⟨n + 11, 0, none⟩)) W rfl)
  have hfn : Fence.wide.fn 35 := trivial
  gi_wp2_with (gi_at_call 35; refine (hrd _).mono ?_; rintro e w' ⟨rfl, rfl⟩)
  have hA0 : WkA n w.heap.size w (((w.alloc (.cells #[.pointer (some ⟨n + 11, 0, none⟩)] 24)).alloc (.cells #[.bool false] 4)).alloc (.cells #[.pointer (some ⟨n + 11, 0, none⟩)] 24)) :=
    ⟨by (repeat (first | exact Below.refl _ _ | assumption | refine Below.alloc ?_ (by simp <;> omega) _ | refine Below.drew ?_ | refine below_drewN ?_ _ | refine Below.setCell ?_ (by simp <;> omega) _ | refine belowTrans ?_ (by assumption))), by unfold dBox; rw [alloc_heap_if, if_neg (by simp; omega), alloc_heap_if, if_neg (by simp), alloc_heap_if, if_pos rfl], by unfold mBox; rw [alloc_heap_if, if_neg (by simp), alloc_heap_if, if_pos (by simp)], by unfold dBox; rw [alloc_heap_if, if_pos (by simp)]⟩
  have hz0 : (((w.alloc (.cells #[.pointer (some ⟨n + 11, 0, none⟩)] 24)).alloc (.cells #[.bool false] 4)).alloc (.cells #[.pointer (some ⟨n + 11, 0, none⟩)] 24)).heap.size = w.heap.size + 3 := by simp
  try simp only [World.size_alloc]
  generalize ((w.alloc (.cells #[.pointer (some ⟨n + 11, 0, none⟩)] 24)).alloc (.cells #[.bool false] 4)).alloc (.cells #[.pointer (some ⟨n + 11, 0, none⟩)] 24) = W0 at hA0 hz0 ⊢
  refine wpIn_range_all (α := Unit) (gf := 66) (lb := #[.pointer (some ⟨w.heap.size + 2, 0, none⟩)]) (encs := fun _ => #[opV o]) (S := fun xs => xs = [()]) (N := 1) rfl (by omega) rfl trivial (enters_of Tryz.func66 (by kernel_rfl) rfl) (fun _ => rfl)
    (fun pre W => (pre = [] ∧ WkA n w.heap.size w W) ∨ (pre = [()] ∧ WkB n N o D QW w.heap.size W0.heap.size w W)) (fun k => WG n D k ∨ k = w.heap.size + 1) ?hIp ?h0 ?hround ?hseq ?hdone
  case hIp =>
    rintro pre W r r' (⟨rfl, hA⟩ | ⟨rfl, hB⟩) hr
    · exact .inl ⟨rfl, hA.to rfl (mods_putObj (Mods.refl _ _) (by omega) _)⟩
    · exact .inr ⟨rfl, hB.to rfl hz0 hlt hQ (mods_putObj (S := fun k => k = W0.heap.size + 1) (Mods.refl _ _) rfl _)⟩
  case h0 =>
    intro r
    exact .inl ⟨rfl, hA0.to rfl (((Mods.refl _ _).alloc _).alloc _)⟩
  case hround =>
    rintro pre x W r (⟨rfl, hA⟩ | ⟨rfl, hB⟩) hbk hl
    · have HZ0 := Lib.hid hz0
      have HO := Lib.hid ho
      clear hrd hfn hz0
      gi_wp2_with (refine wpListIn_store_r (T := 35) (v := opV o) rfl rfl rfl rfl (OpBox.store (OpBox.new W opZero) o) ?_)
      have hb1 : Below W.heap.size W (putOp (W.alloc (.cells (encOp opZero).toArray 35)) W.heap.size o) := below_putOp ((Below.refl _ _).alloc (Nat.le_refl _) _) (Nat.le_refl _) o
      have hbx1 : OpBox (putOp (W.alloc (.cells (encOp opZero).toArray 35)) W.heap.size o) W.heap.size o := (OpBox.new W opZero).put o
      have hBl := (Array.getElem?_eq_some_iff.1 hbk.1).1
      have hXl : W0.heap.size + 1 < W.heap.size := hBl
      generalize putOp (W.alloc (.cells (encOp opZero).toArray 35)) W.heap.size o = W1 at hb1 hbx1 ⊢
      have hk1 : Book W0.heap.size r W1 := hbk.keep fun k hk => hb1.block k (by omega)
      refine ⟨hk1, Mods.of_below hb1, fun r' => ?_⟩
      dsimp only [Act.put]
      have hBw : W0.heap.size = w.heap.size + 3 := HZ0.out
      have hk2 : Book W0.heap.size r' (W1.putObj (W0.heap.size + 1) (.loop r')) := hk1.put r'
      have hA2 : WkA n w.heap.size w (W1.putObj (W0.heap.size + 1) (.loop r')) := (hA.to rfl (Mods.of_below hb1)).to rfl (mods_putObj (Mods.refl _ _) (by omega) _)
      have hbx2 : OpBox (W1.putObj (W0.heap.size + 1) (.loop r')) W.heap.size o := (World.putObj_heap_other (by omega)).trans hbx1
      generalize W.heap.size = XO at hbx2 hXl ⊢
      generalize W1.putObj (W0.heap.size + 1) (.loop r') = W2 at hk2 hA2 hbx2 ⊢
      clear hA hbk hb1 hbx1 hBl hk1
      clear W1
      clear W
      have hd2 : DocC n W2 [] [(o.id, opV o)] (.slice p7 1 c7) noS 0 := hd.keep fun b g => hA2.b.block b (by omega)
      have hdl := hd2.lt
      have hbl := hbx2.lt
      have hxl := hA2.bx.lt
      have x0 : ∀ s : MStep (fun _ => False) W2, s.val.cell? ⟨w.heap.size, 0, none⟩ = some (.pointer (some ⟨n + 11, 0, none⟩)) := MStep.cell hxl id hA2.bx.cell
      have d4 : ∀ s : MStep (fun _ => False) W2, s.val.cell? ⟨n + 11, 4, none⟩ = some (.map (some (n + 3))) := MStep.cell hdl id (hd2.cell 4 _ rfl)
      have y0 : ∀ s : MStep (fun _ => False) W2, s.val.cell? ⟨XO, 0, none⟩ = some (.int .u64 o.id.c) := MStep.cell hbl id (hbx2.cells 0 _ rfl)
      have y1 : ∀ s : MStep (fun _ => False) W2, s.val.cell? ⟨XO, 1, none⟩ = some (.int .u64 o.id.k) := MStep.cell hbl id (hbx2.cells 1 _ rfl)
      obtain ⟨ob, hdel, hmap⟩ := run_del1 idKey (T := 59) (E := 35) (by kernel_rfl) (hd2.wt.blk (w' := W2.drew) rfl)
      unfold idV at hdel
      clear hBw
      gi_wp2
      refine wpIn_round_flow3 6 [0, 1, 2, 3, 4, 5] [6] (fun w' => ∃ s : MStep (fun _ => False) W2, w' = s.val) (by kernel_rfl) (by kernel_rfl) (by kernel_rfl) (fun ⟨_, _, h⟩ => by have h2 : Exit.outgrown = Exit.normal := And.left h; cases h2) (fun _ _ d _ _ h => by cases d <;> exact h) (MStep.to (Mods.refl _ _).drew) ?_
      simp only [List.map_cons, List.map_nil, List.getElem?_cons_succ, List.getElem?_cons_zero, Option.getD_some]
      repeat (first | go_big_quiet_skip | (go_big_quiet_want; first | (fail; go_frame; go_big_quiet_on) | (go_big_quiet_op; go_big_quiet_on)))
      refine wpQuiet_nil ?_
      refine wpSeqF_step rfl ?_; simp only [List.getElem_toArray, List.getElem_cons_succ, List.getElem_cons_zero]
      go_wp2_with (refine wpList_delB rfl _ _ _ _ rfl _ _ rfl rfl hdel ?_)
      refine wpSeqF_nil ?_
      have hBw : W0.heap.size = w.heap.size + 3 := HZ0.out
      have hd3 : DocC n (putMap W2.drew (n + 3) ob) [] [] (.slice p7 1 c7) noS 0 := {
        kn := (hd2.kn.blk (w' := W2.drew) rfl).blk (putMap_other (by omega))
        wt := hmap
        dc := (putMap_other (by omega)).trans hd2.dc }
      have hM3 : Mods (fun b => b = n + 3) W2 (putMap W2.drew (n + 3) ob) := ⟨rfl, rfl, rfl, by rw [putMap_size]; exact Nat.le_refl _, fun k hk hs => putMap_other hs⟩
      have hbx3 : OpBox (putMap W2.drew (n + 3) ob) XO o := (putMap_other (by have := hA2.b.size; omega)).trans hbx2
      generalize putMap W2.drew (n + 3) ob = W3 at hd3 hM3 hbx3 ⊢
      clear x0 d4 y0 y1 hdel hmap hd2 hdl hbl hxl hbx2
      have hwz := hA2.b.size
      have hbp2 := hA2.bp.lt
      have hh3 : OwnAt base 95 3 encRng W3 (.slice p7 1 c7) [⟨o.id.c, 1, 1 + N⟩] := ownsRow_blk hh fun b e => by
        have h1 := (World.ownsRow.lt hh b e)
        exact (hM3.block b (by omega) (by omega)).trans (hA2.b.block b h1.2)
      have hx3 := OwnAt.slice (k := 3) (enc := encRng) (fun _ => rfl) hh3
      have hFn : TabFree fun b => b = n + 3 := ⟨fun g => hF.1 (by omega), fun g => hF.2 (by omega)⟩
      have hT3 : Tabs W3 := (hT.below hA2.b).mods hM3 hFn
      have hrng := (HO.out.range W3.drew (hT3.below (Below.refl _ _).drew))
      rw [HO.out.rng] at hrng
      have hdl := hd3.lt
      have hbl := hbx3.lt
      have hxl : w.heap.size < W3.heap.size := by have := hM3.size; omega
      have x0 : ∀ s : MStep (fun _ => False) W3, s.val.cell? ⟨w.heap.size, 0, none⟩ = some (.pointer (some ⟨n + 11, 0, none⟩)) := MStep.cell hxl id (dBox.cell ((hM3.block _ (by omega) (by omega)).trans hA2.bx))
      have d5 : ∀ s : MStep (fun _ => False) W3, s.val.cell? ⟨n + 11, 5, none⟩ = some (.slice p7 1 c7) := MStep.cell hdl id (hd3.cell 5 _ rfl)
      have l1 : ∀ w', (∃ s : MStep (fun _ => False) W3, w' = s.val) → (loadVar 35 ⟨XO, 0, none⟩).run Tryz.prog w' = .ok (opV o) w' := by
        rintro _ ⟨s, rfl⟩
        exact OpBox.load ((s.h.block _ hbl id).trans hbx3)
      clear hBw
      gi_wp2
      refine wpIn_round_flow3 9 [0, 1, 2, 3, 4, 5] [6, 7, 8, 9, 10, 11] (fun w' => ∃ s : MStep (fun _ => False) W3, w' = s.val) (by kernel_rfl) (by kernel_rfl) (by kernel_rfl) (fun ⟨_, _, h⟩ => by have h2 : Exit.outgrown = Exit.normal := And.left h; cases h2) (fun _ _ d _ _ h => by cases d <;> exact h) (MStep.to (Mods.refl _ _).drew) ?_
      simp only [List.map_cons, List.map_nil, List.getElem?_cons_succ, List.getElem?_cons_zero, Option.getD_some]
      repeat (first | go_big_quiet_skip | (go_big_quiet_want; first | ((refine quiet_load 35 _ _ rfl rfl l1 ?_); go_frame; go_big_quiet_on) | (go_big_quiet_op; go_big_quiet_on)))
      refine wpQuiet_nil ?_
      refine wpSeqF_step rfl ?_; simp only [List.getElem_toArray, List.getElem_cons_succ, List.getElem_cons_zero]
      go_wp2_with (go_at_call 31; refine hrng.mono ?_; rintro e w4 ⟨rfl, hb4'⟩)
      have hb4 : Below W3.heap.size W3 w4 := belowTrans (Below.refl _ _).drew hb4'
      refine ⟨MStep.to (Mods.of_below hb4), ?_⟩
      refine wpSeqF_step rfl ?_; simp only [List.getElem_toArray, List.getElem_cons_succ, List.getElem_cons_zero]
      go_wp2_with fail
      have hb5 : Below W3.heap.size W3 (w4.alloc (.cells #[.int .u64 o.id.c, .int .u64 1, .int .u64 (1 + N)] 95)) := hb4.alloc hb4.size _
      refine ⟨MStep.to (Mods.of_below hb5), ?_⟩
      have hone : SliceAt 3 encRng (w4.alloc (.cells #[.int .u64 o.id.c, .int .u64 1, .int .u64 (1 + N)] 95)) (.slice (some ⟨w4.heap.size, 0, none⟩) 1 1) [⟨o.id.c, 1, 1 + N⟩] := rng_one w4 ⟨o.id.c, 1, 1 + N⟩
      generalize w4.alloc (.cells #[.int .u64 o.id.c, .int .u64 1, .int .u64 (1 + N)] 95) = w5 at hb5 hone ⊢
      have hmin := minus_any (.slice p7 1 c7) _ [(⟨o.id.c, 1, 1 + N⟩ : QRng)] _ _ (hx3.below hb5) hone (by simp) (by simp) rfl rfl
      refine wpSeqF_step rfl ?_; simp only [List.getElem_toArray, List.getElem_cons_succ, List.getElem_cons_zero]
      go_wp2_with (go_at_call 32; refine hmin.mono ?_; rintro e w6 ⟨xv, rfl, xs, hxc, hxh, hxo, hb6'⟩)
      obtain rfl : xs = [] := clean_none hxc fun i => by rw [hxh]; simp
      have hb6 : Below W3.heap.size W3 w6 := belowTrans hb5 hb6'
      refine ⟨MStep.to (Mods.of_below hb6), ?_⟩
      have hd6 := hd3.keep fun b g => hb6.block b (by omega)
      have hbx6 := hbx3.below hb6 hbl
      obtain ⟨p8, c8, rfl⟩ : ∃ p c, xv = .slice p 0 c := ownsRow_len hxo
      have hxs6 := OwnAt.slice (k := 3) (enc := encRng) (fun _ => rfl) hxo
      have c5 := hd6.cell 5 _ rfl
      have f5 := hd6.frz 5
      clear hmin hone hxc hxh hxo hb6' hb5 hb4 hb4' hrng
      refine wpSeqF_step rfl ?_; simp only [List.getElem_toArray, List.getElem_cons_succ, List.getElem_cons_zero]
      go_wp2
      refine wpSeqF_step rfl ?_; simp only [List.getElem_toArray, List.getElem_cons_succ, List.getElem_cons_zero]
      go_wp2
      refine wpSeqF_step rfl ?_; simp only [List.getElem_toArray, List.getElem_cons_succ, List.getElem_cons_zero]
      go_wp2
      refine wpSeqF_nil ?_
      have hsz7 : w6.heap.size ≤ (w6.setCell ⟨n + 11, 5, none⟩ (.slice p8 0 c8)).heap.size := by simp [World.setCell]
      have hd7 : DocC n (w6.setCell ⟨n + 11, 5, none⟩ (.slice p8 0 c8)) [] [] (.slice p8 0 c8) noS 0 := {
        kn := hd6.kn.blk (Below.heap_setCell _ _ _ _ (by show ¬ n + 2 = n + 11; omega))
        wt := hd6.wt.blk (Below.heap_setCell _ _ _ _ (by show ¬ n + 3 = n + 11; omega))
        dc := by
          show (w6.setCell ⟨n + 11, 5, none⟩ (.slice p8 0 c8)).heap[n + 11]? = _
          simp [World.setCell, Array.getElem?_modify, hd6.dc] }
      have hM7 : Mods (fun b => b = n + 3 ∨ b = n + 11) W2 (w6.setCell ⟨n + 11, 5, none⟩ (.slice p8 0 c8)) := ((hM3.mono fun b g => .inl g).trans (Mods.of_below hb6)).setCell (p := ⟨n + 11, 5, none⟩) (.inr rfl) _
      have hBw : W0.heap.size = w.heap.size + 3 := HZ0.out
      have hbx7 : OpBox (w6.setCell ⟨n + 11, 5, none⟩ (.slice p8 0 c8)) XO o := (Below.heap_setCell _ _ _ _ (by show ¬ XO = n + 11; omega)).trans hbx6
      have hz7 := sliceZ hxs6 hsz7
      generalize w6.setCell ⟨n + 11, 5, none⟩ (.slice p8 0 c8) = W7 at hd7 hM7 hbx7 hz7 ⊢
      clear x0 d5 l1 c5 f5 hd3 hM3 hbx3 hd6 hbx6 hxs6 hb6 hh3 hx3 hFn hT3 hdl hbl hxl hsz7
      have hF2 : TabFree fun b => b = n + 3 ∨ b = n + 11 := ⟨fun g => hF.1 (by omega), fun g => hF.2 (by omega)⟩
      have hT7 : Tabs W7 := (hT.below hA2.b).mods hM7 hF2
      have hz27 := hM7.size
      have hs7 : StoreZ n W7 := hs.keep fun b g => (hM7.block b (by omega) (by omega)).trans (hA2.b.block b (by omega))
      have hP7 : P W7 := hP W2 W7 (hM7.mono fun b g => by omega) (by omega) (hP w W2 (Mods.of_below hA2.b) hlt hP0)
      have hln := learn_new n N o [] (.slice p8 0 c8) D (fun W => P W ∧ W0.heap.size + 1 < W.heap.size) (fun W => ∃ s, W0.heap.size + 1 < s ∧ QW s W) W7 hd7 hs7 HO.out hT7 hF hck hst ⟨hP7, by have := hbx7.lt; omega⟩
        (fun u u' hm hl hp => ⟨hP u u' (hm.mono fun b g => by omega) hl hp.1, Nat.lt_of_lt_of_le hp.2 hm.size⟩) (fun u hd' hp ht => (hdoes u _ hd' hp.1 ht).mono fun e u' ⟨h1, h2, h3, h4⟩ => ⟨h1, h2, ⟨_, hp.2, h3⟩, h4⟩)
      have cx := dBox.cell ((hM7.block _ (by omega) (by omega)).trans hA2.bx)
      clear hBw
      have hfn : Fence.wide.fn 36 := trivial
      gi_wp2_with (first | (refine wpListIn_load_r 35 ⟨XO, 0, none⟩ rfl rfl rfl hbx7.load ?_) | (gi_at_call 36; refine (((callsIn_wide (n := 9 - 1 - 1 - 1)).2 hln).inRound _).mono ?_; rintro e w8 ⟨rfl, hd8, ⟨s8, q8, q8'⟩, hm8⟩; have hbm8 := mbox_learn hD hlt hA2.b.size hbp2 hM7 hm8 hA2.bm; have cm := hbm8.cell; have fm := hbm8.frz))
      have hBw : W0.heap.size = w.heap.size + 3 := HZ0.out
      have hz8 := hm8.size
      have hM9 : Mods (fun k => WG n D k ∨ k = w.heap.size + 1) W2 (w8.setCell ⟨w.heap.size + 1, 0, none⟩ (.bool true)) := by
        refine ((hM7.mono fun b g => ?_).trans (hm8.mono fun b g => ?_)).setCell (p := ⟨w.heap.size + 1, 0, none⟩) (.inr rfl) _
        · refine .inl ?_
          unfold WG
          omega
        · refine .inl ?_
          rcases g with g | g | g | g | g
          · exact .inl g
          · exact .inr (.inl g)
          · exact .inr (.inr (.inl g))
          · exact .inr (.inr (.inr (.inr (.inl g))))
          · exact .inr (.inr (.inr (.inr (.inr g))))
      have hout : ∀ k, n + 11 < k → k ≠ w.heap.size + 1 → ¬ (WG n D k ∨ k = w.heap.size + 1) := fun k h1 h2 h => by
        rcases h with h | h
        · have := wg_le hD h
          omega
        · exact h2 h
      have hk2l := (Array.getElem?_eq_some_iff.1 hk2.1).1
      have hl8 := hbm8.lt
      refine ⟨hk2.keep fun k hk => hM9.block k (by omega) (hout k (by omega) (by omega)), hM9.mono fun k g => .inl g, ?_⟩
      exact {
        m := ⟨hM9.os.trans hA2.b.os, hM9.tape.trans hA2.b.tape, hM9.output.trans hA2.b.output, Nat.le_trans hwz hM9.size, fun k hk hs => (hM9.block k (by omega) (fun g => g.elim hs (by omega))).trans (hA2.b.block k hk)⟩
        d := ⟨.slice p8 0 c8, hd8.keep fun b g => Below.heap_setCell _ _ _ _ (by show ¬ b = w.heap.size + 1; omega), sliceZ hz7 (Nat.le_trans hz8 (by simp [World.setCell]))⟩
        bx := (hM9.block _ (by omega) (hout _ hlt (by omega))).trans hA2.bx
        bm := by unfold mBox at hbm8 ⊢; simp [World.setCell, Array.getElem?_modify, hbm8]
        bp := (hM9.block _ hbp2 (hout _ (by omega) (by omega))).trans hA2.bp
        q := ⟨s8, q8, hQ s8 w8 _ ((Mods.refl _ w8).setCell (p := ⟨w.heap.size + 1, 0, none⟩) (show n + 11 < w.heap.size + 1 ∧ w.heap.size + 1 < s8 from ⟨by omega, by omega⟩) _) (by omega) q8'⟩ }
    · exact absurd hl (by simp)
  case hseq =>
    intro rec hy W hi hb
    rcases hi with ⟨_, hA⟩ | ⟨e, _⟩
    · have hBl := (Array.getElem?_eq_some_iff.1 hb.1).1
      refine (ready1_one n N o (w.heap.size + 2) base (.slice p7 1 c7) 8 (by omega) (W0.heap.size + 1) (RG (fun k => WG n D k ∨ k = w.heap.size + 1) W0.heap.size) (Book W0.heap.size rec)
        (fun pre W => (pre = [] ∧ WkA n w.heap.size w W) ∨ (pre = [o] ∧ WkB n N o D QW w.heap.size W0.heap.size w W)) hf ho ?A ?B ?Ib ?Bb W ?G ?Y (.inl ⟨rfl, hA⟩) hb).mono ?_
      case A =>
        rintro W (⟨_, h⟩ | ⟨e, _⟩)
        · exact ⟨hd.keep fun b g => h.b.block b (by omega), ownsRow_blk hh fun b e => h.b.block b (ownsRow_lt hh b e), h.bp.cell, h.bp.lt⟩
        · cases e
      case B =>
        rintro W (⟨e, _⟩ | ⟨_, h⟩)
        · cases e
        · obtain ⟨hv2, d, _⟩ := h.d
          exact ⟨⟨_, _, d⟩, h.bp.cell, h.bp.lt⟩
      case Ib =>
        rintro pre W W' (⟨rfl, h⟩ | ⟨rfl, h⟩) hb
        · exact .inl ⟨rfl, h.to rfl (Mods.of_below hb)⟩
        · exact .inr ⟨rfl, h.to rfl hz0 hlt hQ (Mods.of_below hb)⟩
      case Bb =>
        intro W W' h hb
        have h1 := (Array.getElem?_eq_some_iff.1 h.1).1
        exact h.keep fun k hk => hb.block k (by omega)
      case G =>
        intro k hk
        have h1 := hA.b.size
        rcases hk with (hk | hk) | hk
        · have : k ≤ n + 11 := by
            rcases hk with h | h | h | h | h | h
            · omega
            · omega
            · omega
            · omega
            · omega
            · exact (hD k h).2
          omega
        · omega
        · omega
      case Y =>
        rintro pre W (⟨rfl, h⟩ | ⟨rfl, h⟩) hb hl
        · obtain ⟨fn, tmps, assign, body, h1, h2⟩ := hy [] () W (.inl ⟨rfl, h⟩) hb hl
          refine ⟨fn, tmps, assign, body, h1, h2.mono ?_⟩
          rintro e W' ⟨rfl, (⟨e, _⟩ | ⟨_, hI⟩), hb', hm⟩
          · cases e
          · exact ⟨rfl, .inr ⟨rfl, hI⟩, hb', hm⟩
        · exact absurd hl (by simp)
      rintro e W' ⟨hv', xs, rfl, (⟨e, _⟩ | ⟨_, hI⟩), hb'⟩
      · cases e
      · exact ⟨hv', [()], rfl, .inr ⟨rfl, hI⟩, hb'⟩
    · cases e
  case hdone =>
    rintro xs W rfl (⟨e, _⟩ | ⟨_, hB⟩) hdf
    · cases e
    · have c1 := hB.bm.cell
      have c2 := hB.bx.cell
      have l2 := hB.bx.lt
      obtain ⟨hv2, hd2, hh2⟩ := hB.d
      gi_wp2
      rw [roundsIn_succ]
      gi_wp2_with (gi_at_call 35; refine (hrd _).mono ?_; rintro e w' ⟨rfl, rfl⟩)
      have hb3 : Below W.heap.size W ((W.alloc (.cells #[.bool false] 4)).alloc (.cells #[.pointer (some ⟨n + 11, 0, none⟩)] 24)) := by (repeat (first | exact Below.refl _ _ | assumption | refine Below.alloc ?_ (by simp <;> omega) _ | refine Below.drew ?_ | refine below_drewN ?_ _ | refine Below.setCell ?_ (by simp <;> omega) _ | refine belowTrans ?_ (by assumption)))
      have hm3 : mBox false ((W.alloc (.cells #[.bool false] 4)).alloc (.cells #[.pointer (some ⟨n + 11, 0, none⟩)] 24)) W.heap.size := by unfold mBox; rw [alloc_heap_if, if_neg (by simp), alloc_heap_if, if_pos rfl]
      have hp3 : dBox n ((W.alloc (.cells #[.bool false] 4)).alloc (.cells #[.pointer (some ⟨n + 11, 0, none⟩)] 24)) (W.heap.size + 1) := by unfold dBox; rw [alloc_heap_if, if_pos (by simp)]
      generalize (W.alloc (.cells #[.bool false] 4)).alloc (.cells #[.pointer (some ⟨n + 11, 0, none⟩)] 24) = W3 at hb3 hm3 hp3 ⊢
      refine wpIn_range_all (α := Unit) (gf := 66) (lb := #[.pointer (some ⟨W.heap.size + 1, 0, none⟩)]) (encs := fun _ => #[opV o]) (S := fun xs => xs = []) (N := 0) rfl (by omega) rfl trivial (enters_of Tryz.func66 (by kernel_rfl) rfl) (fun _ => rfl)
        (fun pre W' => pre = [] ∧ Below W3.heap.size W3 W') (fun _ => False) ?hIp ?h0 ?hround ?hseq ?hdone
      case hIp =>
        rintro pre W' r r' ⟨rfl, h⟩ hr
        exact ⟨rfl, ⟨h.os, h.tape, h.output, by simpa [World.putObj] using h.size, fun k hk => (World.putObj_heap_other (by omega)).trans (h.block k hk)⟩⟩
      case h0 =>
        intro r
        exact ⟨rfl, by (repeat (first | exact Below.refl _ _ | assumption | refine Below.alloc ?_ (by simp <;> omega) _ | refine Below.drew ?_ | refine below_drewN ?_ _ | refine Below.setCell ?_ (by simp <;> omega) _ | refine belowTrans ?_ (by assumption)))⟩
      case hround =>
        intro pre x W' r _ _ hl
        exact absurd hl (by omega)
      case hseq =>
        rintro rec hy W' ⟨_, h⟩ hb
        have h1 := hb3.size
        have h2 := h.size
        have hdl := hd2.lt
        refine (ready1_none n (W.heap.size + 1) _ _ hv2 _ _ 8 (by omega) (W3.heap.size + 1) W' (hd2.keep fun b g => (h.block b (by omega)).trans (hb3.block b (by omega))) (sliceZ hh2 (by omega)) ((h.cell (p := ⟨W.heap.size + 1, 0, none⟩) hp3.lt).trans hp3.cell)).mono ?_
        rintro e W4 ⟨hv', h4⟩
        have h5 := (Array.getElem?_eq_some_iff.1 hb.1).1
        exact ⟨hv', [], rfl, ⟨rfl, belowTrans h h4⟩, hb.keep fun k hk => h4.block k (by omega)⟩
      case hdone =>
        rintro xs W' rfl ⟨_, h⟩ hdf2
        have c3 := (h.cell (p := ⟨W.heap.size, 0, none⟩) hm3.lt).trans hm3.cell
        gi_wp2
        rw [roundsIn_succ]
        gi_wp2
        have h1 := (Array.getElem?_eq_some_iff.1 hdf).1
        have h2 := hb3.size
        have h3 := hp3.lt
        have h4 := h.size
        have h5 := (Array.getElem?_eq_some_iff.1 hdf2).1
        have h6 := hB.m.size
        have e1 : (W'.alloc (.cells #[.bool false] 4)).heap[W3.heap.size]? = some (.deferred (some [])) := by rw [alloc_heap_if, if_neg (by omega)]; exact hdf2
        have e2 : ((W'.alloc (.cells #[.bool false] 4)).putObj W3.heap.size (.deferred none)).heap[w.heap.size + 3]? = some (.deferred (some [])) := by
          rw [World.putObj_heap_other (by omega), alloc_heap_if, if_neg (by omega), h.block _ (by omega), hb3.block _ (by omega), ← hz0]
          exact hdf
        have hmf : Mods (fun b => b = w.heap.size + 3 ∨ W.heap.size ≤ b) W (((W'.alloc (.cells #[.bool false] 4)).putObj W3.heap.size (.deferred none)).putObj (w.heap.size + 3) (.deferred none)) :=
          mods_putObj (mods_putObj ((Mods.of_below (hb3.trans (h.mono (by omega)))).alloc _) (.inr h2) _) (.inl rfl) _
        have hmg : Mods (fun b => b = w.heap.size + 3) W (((W'.alloc (.cells #[.bool false] 4)).putObj W3.heap.size (.deferred none)).putObj (w.heap.size + 3) (.deferred none)) :=
          ⟨hmf.os, hmf.tape, hmf.output, hmf.size, fun k hk hs => hmf.block k hk (by omega)⟩
        refine ⟨by simp, .inl ⟨_, _, rfl, run_takeDeferred e1, by simp, .inl ⟨_, _, rfl, run_takeDeferred e2, ⟨_, results_none rfl _ _ _, ?_⟩⟩⟩⟩
        obtain ⟨s, q1, q2⟩ := hB.q
        exact ⟨rfl, hv2, hd2.keep fun b g => hmg.block b (by omega) (by omega), sliceZ hh2 hmg.size, ⟨s, by omega, hQ s _ _ (hmg.mono fun b g => by subst g; omega) (by omega) q2⟩,
          ⟨hmg.os.trans hB.m.os, hmg.tape.trans hB.m.tape, hmg.output.trans hB.m.output, Nat.le_trans h6 hmg.size, fun k hk hs => (hmg.block k (by omega) (by omega)).trans (hB.m.block k hk hs)⟩⟩
end Go.Proofs.YthhbiliimdpgmaaGreatDoor
