/- A slice literal of one whole operation. -/
import Derived.Test.YthhbiliimdpgmaaGreatDoorM06
import Derived.Great.Walk
import Derived.Test.YthhbiliimdpgmaaGreatDoorM16
import Derived.Test.YthhbiliimdpgmaaGreatDoorM19
import Derived.Test.YthhbiliimdpgmaaGreatDoorM11
import Derived.Test.YthhbiliimdpgmaaGreatDoorM20
import Derived.Test.YthhbiliimdpgmaaGreatDoorM18
namespace Go.Proofs.YthhbiliimdpgmaaGreatDoor
open Go.RowKit

/-- a slice literal of one whole set. -/
theorem wpList_sliceOp {ops : Array Oper} {rest : List Oper} {o : Oper} {a : Act} {w : World} {Q : Exit → Act → World → Prop} (x1 : QOp) (hg : o.guard = none) (x : Operand) (ho : o.op = .buildSlice 39 1 #[(0, x)]) (hx : a.eval x = opV x1)
    (h : wpList Tryz.prog ops Q rest (a.put o.dst (.slice (some ⟨w.heap.size, 0, none⟩) 1 1)) (w.alloc (.cells (encOp x1).toArray 35))) : wpList Tryz.prog ops Q (o :: rest) a w := by
  refine Great.wpList_buildSliceTo hg 39 35 1 #[(0, x)] ho w.heap.size rfl o.dst rfl Tryz.underlying39 (encOp x1).toArray ?_ h
  rw [show (#[(0, x)].map fun (p : Nat × Operand) => (p.1, a.eval p.2)).toList = [(0, opV x1)] by simp [hx]]
  kernel_rfl
end Go.Proofs.YthhbiliimdpgmaaGreatDoor
/- Walk: hold of an operation in a document that knows nothing. -/
namespace Go.Proofs.YthhbiliimdpgmaaGreatDoor
open Go.RowKit Go.Lib

/-- what hold needs of an operation: its clocks from 1 to N of one client. -/
structure HoldO (o : QOp) (N : Nat) : Prop where
  k : o.id.k = 1
  rng : o.rng = ⟨o.id.c, 1, 1 + N⟩
  right : o.rng.rightB = true
  n1 : 1 ≤ N
  n2 : N ≤ 5000
  range : ∀ w, Tabs w → Calls Tryz.prog 31 #[opV o] w fun e w' => e = .returned (.agg #[.int .u64 o.rng.c, .int .u64 o.rng.a, .int .u64 o.rng.b]) ∧ Below w.heap.size w w'
  cut : ∀ w, Tabs w → Calls Tryz.prog 33 #[opV o, .int .i64 0, .int .i64 N] w fun e w' => e = .returned (.tuple #[opV o, .bool true]) ∧ Below w.heap.size w w'
def HoldR (n : Nat) (o : QOp) (w : World) (e : Ending) (w' : World) : Prop :=
  ∃ hv, e = .returned (.bool true) ∧ DocC n w' [] [(o.id, opV o)] hv noS 0 ∧ OwnAt w.heap.size 95 3 encRng w' hv [o.rng] ∧ Mods (fun b => b = n + 3 ∨ b = n + 11) w w'
theorem zeroU (w : World) : (zeroValue 26).run Tryz.prog w = .ok (.int .u64 0) w := by kernel_rfl
set_option maxRecDepth 100000 in
set_option maxHeartbeats 4000000 in
theorem hold_new (n N : Nat) (o : QOp) (w : World) (hd : DocC n w [] [] noS noS 0) (ho : HoldO o N) (hT : Tabs w) :
    Calls Tryz.prog 19 #[.pointer (some ⟨n + 11, 0, none⟩), opV o] w (HoldR n o w) := by
  have hlt := hd.lt
  have HO := Lib.hid ho
  have hrng := ho.range
  rw [ho.rng] at hrng
  have HK := Lib.hid ho.k
  clear ho
  unfold opV
  go_enter Tryz.func19, Tryz.ntmps19
  go_upto_region 1 with fail
  obtain ⟨W, hW⟩ : ∃ W, w.alloc (.cells (encOp o).toArray 35) = W := ⟨_, rfl⟩
  have hB : Below w.heap.size w W := by rw [← hW]; exact (Below.refl _ _).alloc (Nat.le_refl _) _
  have hbx : OpBox W w.heap.size o := by rw [← hW]; exact OpBox.new _ _
  change Code.wp _ _ _ _ (w.alloc (.cells (encOp o).toArray 35))
  rw [hW]
  clear hW
  have hbl := hbx.lt
  have hr1 := hrng W (hT.below hB)
  go_upto_region 2 with (first | (refine wpList_load_eq (T := 35) (v := opV o) rfl rfl rfl hbx.load ?_) | (go_at_call 31; refine hr1.mono ?_; rintro e w1 ⟨rfl, hb1⟩))
  have hbx1 := hbx.below hb1 hbl
  have hB1 := belowTrans hB hb1
  have hB2 : Below w.heap.size w (w1.alloc (.cells #[.int .u64 o.id.c, .int .u64 1, .int .u64 (1 + N)] 95)) := hB1.alloc hB1.size _
  have hr2 : RngBox (w1.alloc (.cells #[.int .u64 o.id.c, .int .u64 1, .int .u64 (1 + N)] 95)) w1.heap.size ⟨o.id.c, 1, 1 + N⟩ := RngBox.new w1 ⟨o.id.c, 1, 1 + N⟩
  have hbx2 : OpBox (w1.alloc (.cells #[.int .u64 o.id.c, .int .u64 1, .int .u64 (1 + N)] 95)) w.heap.size o := hbx1.below ((Below.refl _ _).alloc (Nat.le_refl _) _) hbx1.lt
  have hX1 : w.heap.size < w1.heap.size := hbx1.lt
  generalize w1.heap.size = X at hr2 hX1 ⊢
  generalize w1.alloc (.cells #[.int .u64 o.id.c, .int .u64 1, .int .u64 (1 + N)] 95) = W2 at hB2 hr2 hbx2 ⊢
  clear hr1 hbx hb1 hbl hB hbx1 hB1
  clear W
  have hd2 := hd.keep fun b g => hB2.block b (by omega)
  have hxl := hr2.lt
  have hwl : n + 11 < W2.heap.size := Nat.lt_of_lt_of_le hlt hB2.size
  have d1 : ∀ s : BStep W2, s.val.cell? ⟨n + 11, 1, none⟩ = some (.map (some (n + 2))) := BStep.cell hwl (hd2.cell 1 _ rfl)
  have r0 : ∀ s : BStep W2, s.val.cell? ⟨X, 0, none⟩ = some (.int .u64 o.id.c) := BStep.cell hxl hr2.cells.1
  have k1 : ∀ s : BStep W2, (Instr.lookup 58 (.map (some (n + 2))) (.int .u64 o.id.c) false).run Tryz.prog s.val = .ok (.int .u64 0) s.val := fun s => by
    have := run_look u64Key (T := 58) (E := 26) (by kernel_rfl) zeroU (hd2.kn.blk (s.h.block _ (by omega))) o.id.c false
    exact this
  refine wp_region_b (by kernel_rfl) (by kernel_rfl) ?_
  repeat (first | go_big_quiet_skip | (go_big_quiet_want; first | (fail; go_frame; go_big_quiet_on) | (go_big_quiet_op; first | go_big_quiet_on | go_big_quiet_call (fail))))
  refine wpQuiet_nil ?_
  intro W' hC'
  have hBW' := BStep.of hC'
  have hB3 := belowTrans hB2 hBW'
  have hr3 := hr2.below hBW' hxl
  have hbx3 := hbx2.below hBW' hbx2.lt
  have hd3 := hd2.keep fun b g => hBW'.block b (by omega)
  clear hC' hBW' d1 r0 k1 hd2 hbx2 hr2 hB2 hxl hwl
  clear W2
  obtain ⟨w3, rfl⟩ : ∃ w3, w3 = W' := ⟨_, rfl⟩
  obtain ⟨a0, a1, a2⟩ := hr3.cells
  go_upto_region 5 with fail
  have hxl := hr3.lt
  have hwl : n + 11 < w3.heap.size := Nat.lt_of_lt_of_le hlt hB3.size
  have q0 : ∀ s : MStep (fun _ => False) w3, s.val.cell? ⟨X, 0, none⟩ = some (.int .u64 o.id.c) := MStep.cell hxl id a0
  have q1 : ∀ s : MStep (fun _ => False) w3, s.val.cell? ⟨X, 1, none⟩ = some (.int .u64 1) := MStep.cell hxl id a1
  have q2 : ∀ s : MStep (fun _ => False) w3, s.val.cell? ⟨X, 2, none⟩ = some (.int .u64 (1 + N)) := MStep.cell hxl id a2
  have s5 : ∀ s : MStep (fun _ => False) w3, s.val.cell? ⟨n + 11, 5, none⟩ = some (.slice none 0 0) := MStep.cell hwl id (hd3.cell 5 _ rfl)
  refine wp_region_flow3 6 [0, 2, 3, 4, 5] [1, 6, 7] (fun w' => ∃ s : MStep (fun _ => False) w3, w' = s.val) (by kernel_rfl) (by kernel_rfl) (fun _ _ d _ _ h => by cases d <;> exact h) (MStep.to (Mods.refl _ _).drew) ?_
  simp only [List.map_cons, List.map_nil, List.getElem?_cons_succ, List.getElem?_cons_zero, Option.getD_some]
  repeat (first | go_big_quiet_skip | (go_big_quiet_want; first | (fail; go_frame; go_big_quiet_on) | (go_big_quiet_op; go_big_quiet_on)))
  refine wpQuiet_nil ?_
  refine wpSeqF_step rfl ?_; simp only [List.getElem_toArray, List.getElem_cons_succ, List.getElem_cons_zero]
  go_wp2_with fail
  have hB5 : Below w3.heap.size w3 ((w3.alloc (.cells #[.int .u64 o.id.c, .int .u64 1, .int .u64 (1 + N)] 95)).drew) := ((Below.refl _ _).alloc (Nat.le_refl _) _).drew
  refine ⟨MStep.to (Mods.of_below hB5), ?_⟩
  have hone : SliceAt 3 encRng ((w3.alloc (.cells #[.int .u64 o.id.c, .int .u64 1, .int .u64 (1 + N)] 95)).drew) (.slice (some ⟨w3.heap.size, 0, none⟩) 1 1) [⟨o.id.c, 1, 1 + N⟩] := rng_one w3 ⟨o.id.c, 1, 1 + N⟩
  have hmin := minus_any _ _ [(⟨o.id.c, 1, 1 + N⟩ : QRng)] [] _ hone (.inl ⟨rfl, rfl⟩) (by simp) (by simp) rfl rfl
  refine wpSeqF_step rfl ?_; simp only [List.getElem_toArray, List.getElem_cons_succ, List.getElem_cons_zero]
  go_wp2_with fail
  refine hmin.mono ?_
  rintro e w6 ⟨xv, rfl, xs, hxc, hxh, hxo, hb6⟩
  obtain rfl : xs = [⟨o.id.c, 1, 1 + N⟩] := clean_unique _ _ hxc (clean_single (by have := HO.out.right; rwa [HO.out.rng] at this)) fun i => by rw [hxh]; simp [hasRngs]
  have hB6 := belowTrans hB5 hb6
  go_wp2_with fail
  refine wpSeqF_step rfl ?_; simp only [List.getElem_toArray, List.getElem_cons_succ, List.getElem_cons_zero]
  go_wp2_with fail
  refine wpSeqF_nil ?_
  obtain ⟨p7, c7, rfl⟩ : ∃ p c, xv = .slice p 1 c := ownsRow_len hxo
  have hx7 := OwnAt.slice (k := 3) (enc := encRng) (fun _ => rfl) hxo
  obtain ⟨g7, rfl⟩ : ∃ b, p7 = some ⟨b, 0, none⟩ := by
    rcases hxo.2 with ⟨e, _⟩ | ⟨g, cap, cur, e, _⟩
    · cases e
    · cases e; exact ⟨_, rfl⟩
  have hd6 := hd3.keep fun b g => hB6.block b (by omega)
  have hbx6 := hbx3.below hB6 hbx3.lt
  have hBw6 := belowTrans hB3 hB6
  have hg7 : w.heap.size ≤ g7 := by
    have h1 := (World.ownsRow.lt hxo g7 (by rcases hxo.2 with ⟨e2, _⟩ | ⟨g, cap, cur, e2, _⟩ <;> cases e2; rfl)).1
    have h2 := hB5.size
    have h3 := hB3.size
    omega
  have hxw := ownsRow_base hxo (show w.heap.size ≤ _ from Nat.le_trans hB3.size hB5.size)
  clear hmin hone hxo hxc hxh hb6 hB5 hd3 hbx3 hr3 hB3 q0 q1 q2 s5 a0 a1 a2 hxl hwl hB6
  go_upto_region 7 with fail
  have hXw6 : n + 11 < w6.heap.size := hd6.lt
  go_loopw [40] (fun z wx => (z = .int .i64 0 ∧ wx = w6) ∨ (z = .int .i64 1 ∧ DocC n wx [] [(o.id, opV o)] noS noS 0 ∧ Mods (fun b => b = n + 3) w6 wx)) (fun z _ => 1 - (intOf z).toNat)
  case atStart => exact .inl ⟨rfl, rfl⟩
  case round =>
    rcases hrel with ⟨rfl, rfl⟩ | ⟨rfl, hdr, hmr⟩
    · obtain ⟨hcc, hgl, t0, t1, t2⟩ := SliceAt.cells3 hx7 (k := 0) (x := ⟨o.id.c, 1, 1 + N⟩) rfl
      have c0 : wr.cell? ⟨g7, 0, none⟩ = some (.int .u64 o.id.c) := by simpa using t0
      have c1 : wr.cell? ⟨g7, 1, none⟩ = some (.int .u64 1) := by simpa using t1
      have c2 : wr.cell? ⟨g7, 2, none⟩ = some (.int .u64 (1 + N)) := by simpa using t2
      clear hcc t0 t1 t2
      have b1 : wr.cell? ⟨w.heap.size, 1, none⟩ = some (.int .u64 1) := by have := hbx6.cells 1 _ rfl; rwa [HK.out] at this
      go_upto_region 9 with fail
      have hbx7 : OpBox (wr.alloc (.cells #[.int .u64 o.id.c, .int .u64 1, .int .u64 (1 + N)] 95)) w.heap.size o := hbx6.below ((Below.refl _ _).alloc (Nat.le_refl _) _) hbx6.lt
      have hr7 : RngBox (wr.alloc (.cells #[.int .u64 o.id.c, .int .u64 1, .int .u64 (1 + N)] 95)) wr.heap.size ⟨o.id.c, 1, 1 + N⟩ := RngBox.new wr ⟨o.id.c, 1, 1 + N⟩
      have hB7 : Below wr.heap.size wr (wr.alloc (.cells #[.int .u64 o.id.c, .int .u64 1, .int .u64 (1 + N)] 95)) := (Below.refl _ _).alloc (Nat.le_refl _) _
      generalize hY : wr.heap.size = Y at hr7 ⊢
      have HY := Lib.hid hY
      generalize wr.alloc (.cells #[.int .u64 o.id.c, .int .u64 1, .int .u64 (1 + N)] 95) = W7 at hbx7 hr7 hB7 ⊢
      clear c0 c1 c2 b1 hY
      obtain ⟨a0, a1, a2⟩ := hr7.cells
      have b1 : W7.cell? ⟨w.heap.size, 1, none⟩ = some (.int .u64 1) := by have := hbx7.cells 1 _ rfl; rwa [HK.out] at this
      have hcu := HO.out.cut W7 ((hT.below hBw6).below hB7)
      have hN2 := HO.out.n2
      have e1 : (1 : Int) + N - 1 = N := by omega
      go_upto_region 10 with (first | (refine wpList_load_eq (T := 35) (v := opV o) rfl rfl rfl hbx7.load ?_) | (go_at_call 33; refine hcu.mono ?_; rintro e w8 ⟨rfl, hb8⟩) | (refine wpList_store_eq (T := 35) (v := opV o) rfl rfl rfl rfl (OpBox.store (OpBox.new w8 opZero) o) ?_))
      try go_frame
      have hbc : Below w8.heap.size w8 (putOp (w8.alloc (.cells (encOp opZero).toArray 35)) w8.heap.size o) := below_putOp ((Below.refl _ _).alloc (Nat.le_refl _) _) (Nat.le_refl _) _
      have hby : OpBox (putOp (w8.alloc (.cells (encOp opZero).toArray 35)) w8.heap.size o) w8.heap.size o := (OpBox.new w8 opZero).put _
      have hB9 := belowTrans hB7 (belowTrans hb8 hbc)
      generalize putOp (w8.alloc (.cells (encOp opZero).toArray 35)) w8.heap.size o = W9 at hB9 hby ⊢
      generalize w8.heap.size = Z at hby ⊢
      clear hbc hb8 hcu b1 a0 a1 a2 hr7 hbx7 e1 hB7
      have hd9 := hd6.keep fun b g => hB9.block b (by omega)
      have hyl := hby.lt
      have hdl := hd9.lt
      go_upto_region 11 with fail
      have d4 : ∀ s : MStep (fun _ => False) W9, s.val.cell? ⟨n + 11, 4, none⟩ = some (.map (some (n + 3))) := MStep.cell hdl id (hd9.cell 4 _ rfl)
      have y0 : ∀ s : MStep (fun _ => False) W9, s.val.cell? ⟨Z, 0, none⟩ = some (.int .u64 o.id.c) := MStep.cell hyl id (hby.cells 0 _ rfl)
      have y1 : ∀ s : MStep (fun _ => False) W9, s.val.cell? ⟨Z, 1, none⟩ = some (.int .u64 o.id.k) := MStep.cell hyl id (hby.cells 1 _ rfl)
      have l1 : ∀ w', (∃ s : MStep (fun _ => False) W9, w' = s.val) → (loadVar 35 ⟨Z, 0, none⟩).run Tryz.prog w' = .ok (opV o) w' := by
        rintro _ ⟨s, rfl⟩
        exact OpBox.load ((s.h.block Z hyl id).trans hby)
      refine wp_region_flow3 7 [0, 1, 2, 3, 4, 5, 6] [7] (fun w' => ∃ s : MStep (fun _ => False) W9, w' = s.val) (by kernel_rfl) (by kernel_rfl) (fun _ _ d _ _ h => by cases d <;> exact h) (MStep.to (Mods.refl _ _).drew) ?_
      simp only [List.map_cons, List.map_nil, List.getElem?_cons_succ, List.getElem?_cons_zero, Option.getD_some]
      repeat (first | go_big_quiet_skip | (go_big_quiet_want; first | ((refine quiet_load 35 _ _ rfl rfl l1 ?_); go_frame; go_big_quiet_on) | (go_big_quiet_op; go_big_quiet_on)))
      refine wpQuiet_nil ?_
      obtain ⟨ob, hput, hkey⟩ := run_put idKey (T := 59) (E := 35) (by kernel_rfl) (hd9.wt.blk (w' := W9.drew) rfl) o.id (opV o)
      unfold idV at hput
      refine wpSeqF_step rfl ?_; simp only [List.getElem_toArray, List.getElem_cons_succ, List.getElem_cons_zero]
      go_wp2
      refine wpSeqF_nil ?_
      have hd10 : DocC n (putMap W9.drew (n + 3) ob) [] [(o.id, opV o)] noS noS 0 := {
        kn := (hd9.kn.blk (w' := W9.drew) rfl).blk (putMap_other (by omega))
        wt := hkey
        dc := (putMap_other (by omega)).trans hd9.dc }
      have hm10 : Mods (fun b => b = n + 3) wr (putMap W9.drew (n + 3) ob) := by
        have h1 : Mods (fun b => b = n + 3) wr W9.drew := (Mods.of_below hB9).drew
        exact ⟨h1.os, h1.tape, h1.output, by rw [putMap_size]; exact h1.size, fun k hk hs => (putMap_other hs).trans (h1.block k hk hs)⟩
      generalize putMap W9.drew (n + 3) ob = W10 at hd10 hm10 ⊢
      clear hput hkey d4 y0 y1 l1 hd9 hyl hdl hB9 hby
      go_wp2_with fail
      exact ⟨.inr ⟨by go_num, hd10, hm10⟩, by simp [intOf]⟩
    · have hx8 : SliceAt 3 encRng wr (.slice (some ⟨g7, 0, none⟩) 1 c7) [⟨o.id.c, 1, 1 + N⟩] := hx7.keep hmr.size fun b off m c e hl => hmr.block b hl (by cases e; omega)
      have hcs : CleanL [(⟨o.id.c, 1, 1 + N⟩ : QRng)] := clean_single (by have := HO.out.right; rwa [HO.out.rng] at this)
      have hjn := join_any (.slice none 0 0) _ [] [(⟨o.id.c, 1, 1 + N⟩ : QRng)] wr (.inl ⟨rfl, rfl⟩) hx8 (by simp) (by simp) rfl rfl
      have d5 : wr.cell? ⟨n + 11, 5, none⟩ = some (.slice none 0 0) := hdr.cell 5 _ rfl
      have hdl := hdr.lt
      go_upto_region 14 with (go_at_call 34; refine hjn.mono ?_; rintro e w8 ⟨xv, rfl, xs, hxc, hxh, hxo, hb8⟩; obtain rfl : xs = [⟨o.id.c, 1, 1 + N⟩] := clean_unique _ _ hxc hcs (fun i => by rw [hxh]; simp [hasRngs]); obtain ⟨px, cx, rfl⟩ : ∃ p c, xv = .slice p 1 c := ownsRow_len hxo; have d8 : w8.cell? ⟨n + 11, 5, none⟩ = some (.slice none 0 0) := (hb8.cell (p := ⟨n + 11, 5, none⟩) hdl).trans d5; have f8 : w8.frozen? ⟨n + 11, 5, none⟩ = false := (hb8.frozen (p := ⟨n + 11, 5, none⟩) hdl).trans (hdr.frz 5))
      have hd8 := hdr.keep fun b g => hb8.block b (by omega)
      have hd9 : DocC n (w8.setCell ⟨n + 11, 5, none⟩ (.slice px 1 cx)) [] [(o.id, opV o)] (.slice px 1 cx) noS 0 := {
        kn := hd8.kn.blk (Below.heap_setCell _ _ _ _ (by show ¬ n + 2 = n + 11; omega))
        wt := hd8.wt.blk (Below.heap_setCell _ _ _ _ (by show ¬ n + 3 = n + 11; omega))
        dc := by simp [World.setCell, Array.getElem?_modify, hd8.dc] }
      go_wp2_with fail
      go_ret
      have hsz : w.heap.size ≤ wr.heap.size := Nat.le_trans hBw6.size hmr.size
      refine ⟨.slice px 1 cx, rfl, hd9, ?_, ?_⟩
      · rw [HO.out.rng]
        exact ownsRow_blk (ownsRow_base hxo hsz) fun b e => Below.heap_setCell _ _ _ _ (by have := (World.ownsRow.lt hxo b e).1; show ¬ b = n + 11; omega)
      · exact ((((Mods.of_below hBw6).trans (hmr.mono fun b g => .inl g)).trans (Mods.of_below hb8))).setCell (p := ⟨n + 11, 5, none⟩) (.inr rfl) _
end Go.Proofs.YthhbiliimdpgmaaGreatDoor
/- Walk: store.Add of a text that goes on where what is known ends. -/
namespace Go.Proofs.YthhbiliimdpgmaaGreatDoor
open Go.RowKit Go.Lib

/-- what Add leaves: the piece that it took, its client's text grown. -/
def AddR (F : Nat → Prop) (sb : Nat) (K : List (Int × ByteArray)) (Q : List QOp) (H : List QRng) (o : QOp) (w : World) (e : Ending) (w' : World) : Prop :=
  ∃ B, e = .returned (.slice (some ⟨B, 0, none⟩) 1 1) ∧ OpBox w' B o ∧ w.heap.size ≤ B ∧ StoreIn w' (fun b => F b ∨ (w.heap.size ≤ b ∧ b ≠ B)) sb K Q H ∧ Mods F w w'

set_option maxRecDepth 100000 in
set_option maxHeartbeats 4000000 in
theorem add_more (F : Nat → Prop) (sb : Nat) (K : List (Int × ByteArray)) (Q : List QOp) (H : List QRng) (i l r : QId) (t : ByteArray) (t0 u : ByteArray) (N : Int) (w : World) (h : StoreIn w F sb K Q H) (hK : KSmall K) (hT : Tabs w)
    (hg : GoodT i l r t) (hs : t.size ≤ 1000000000000) (hu : u.size ≤ 1000000000000) (hc : kfind K i.c = some t0) (hN : N = (runesB t0).length) (hnext : i.k ≤ N + 1) (hlim : N + (runesB u).length ≤ 4096)
    (hrest : ∀ w, StoreIn w F sb K Q H → Tabs w → Calls Tryz.prog 116 #[.pointer (some ⟨sb, 0, none⟩), opV (tOp i l r t)] w fun e w' => e = .returned (.tuple #[opV (tOp ⟨i.c, 1 + N⟩ ⟨i.c, 1 + N - 1⟩ idZero u), .bool true]) ∧ Below w.heap.size w w') :
    Calls Tryz.prog 71 #[.pointer (some ⟨sb, 0, none⟩), opV (tOp i l r t)] w (AddR F sb (kadd K i.c u) Q H (tOp ⟨i.c, 1 + N⟩ ⟨i.c, 1 + N - 1⟩ idZero u) w) := by
  have hcheck := fun w hT => opsCheck_t i l r t w hg hs hT
  have hkn := fun w h hT => known_any F sb K Q H i.c w h hK hT
  have hkc : kcount K i.c = N := by unfold kcount; rw [hc, hN]
  rw [hkc] at hkn
  have ht0 : t0.size ≤ 1000000000000 := hK _ (kfind_mem hc)
  have hN0 : 0 ≤ N := by omega
  have hfit := fun w hT => fits_yes ⟨i.c, 1⟩ idZero idZero t0 u N w hN ht0 hu (by show (1 : Int) ≤ 1; omega) (by show (1 : Int) + N < _; omega) hlim hT
  dsimp only at hfit
  have HN := Lib.hid hN
  have HC := Lib.hid hc
  obtain ⟨O, hO⟩ : ∃ O, tOp ⟨i.c, 1 + N⟩ ⟨i.c, 1 + N - 1⟩ idZero u = O := ⟨_, rfl⟩
  rw [hO] at hfit hrest ⊢
  have HO := Lib.hid hO
  clear hN hc hkc hO
  have d1 : decide (N + 1 < i.k) = false := by simp; omega
  have hd1x : ¬ N + 1 < i.k := by omega
  change Calls Tryz.prog 71 #[.pointer (some ⟨sb, 0, none⟩), .agg #[.int .u64 i.c, .int .u64 i.k, .int .i64 1, .int .u64 0, .int .u64 l.c, .int .u64 l.k, .int .u64 r.c, .int .u64 r.k, .string t, .int .i64 0, .int .i64 0, .float .f64 0, .string ⟨#[]⟩, .string ⟨#[]⟩, .int .u64 0, .int .u64 0, .int .u64 0, .int .u64 0, .bool false, .int .u64 0, .int .u64 0, .bool false]] w _
  go_enter Tryz.func71, Tryz.ntmps71
  go_upto_region 1 with fail
  obtain ⟨W, hW⟩ : ∃ W, w.alloc (.cells (encOp (tOp i l r t)).toArray 35) = W := ⟨_, rfl⟩
  have hB : Below w.heap.size w W := by rw [← hW]; exact (Below.refl _ _).alloc (Nat.le_refl _) _
  have hbx : OpBox W w.heap.size (tOp i l r t) := by rw [← hW]; exact OpBox.new _ _
  change Code.wp _ _ _ _ (w.alloc (.cells (encOp (tOp i l r t)).toArray 35))
  rw [hW]
  clear hW
  have hbl := hbx.lt
  have hTW : ∀ s : BStep W, Tabs s.val := fun s => (hT.below hB).below s.h
  have hSW : ∀ s : BStep W, StoreIn s.val F sb K Q H := fun s => (h.below hB).below s.h
  have q0 : ∀ s : BStep W, s.val.cell? ⟨w.heap.size, 0, none⟩ = some (.int .u64 i.c) := BStep.cell hbl (hbx.cells 0 _ rfl)
  have q1 : ∀ s : BStep W, s.val.cell? ⟨w.heap.size, 1, none⟩ = some (.int .u64 i.k) := BStep.cell hbl (hbx.cells 1 _ rfl)
  have l1 : ∀ w', (∃ s : BStep W, w' = s.val) → (loadVar 35 ⟨w.heap.size, 0, none⟩).run Tryz.prog w' = .ok (opV (tOp i l r t)) w' := by
    rintro _ ⟨s, rfl⟩
    exact OpBox.load ((s.h.block _ hbl).trans hbx)
  refine wp_region_b (by kernel_rfl) (by kernel_rfl) ?_
  repeat (first | go_big_quiet_skip | (go_big_quiet_want; first | ((refine quiet_load 35 _ _ rfl rfl l1 ?_); go_frame; go_big_quiet_on) | (go_big_quiet_op; first | go_big_quiet_on | go_big_quiet_call ((first | (go_at_call 30; exact callsB (hcheck _ (hTW _))) | (go_at_call 115; exact callsB (hkn _ (hSW _) (hTW _))))))))
  refine wpQuiet_nil ?_
  intro W' hC'
  have hBW' := BStep.of hC'
  clear hTW hSW q0 q1 l1 hcheck hC'
  have hB1 := belowTrans hB hBW'
  have hbx1 := hbx.below hBW' hbl
  clear hB hbx hBW' hbl
  clear W
  have hx1 := hbx1.lt
  go_upto_region 4 with (first | (refine wpList_load_eq (T := 35) (v := opV (tOp i l r t)) rfl rfl rfl hbx1.load ?_) | (go_at_call 116; refine (hrest _ (h.below hB1) (hT.below hB1)).mono ?_; rintro e w2 ⟨rfl, hb2⟩; have hbx2 := hbx1.below hb2 hx1) | (refine wpList_store_eq (T := 35) (v := opV O) rfl rfl rfl rfl (OpBox.store hbx2 O) ?_))
  have hB2 := belowTrans hB1 hb2
  have hB3 : Below w.heap.size w (putOp w2 w.heap.size O) := below_putOp hB2 (Nat.le_refl _) O
  have hbx3 : OpBox (putOp w2 w.heap.size O) w.heap.size O := hbx2.put O
  obtain ⟨w3, hw3⟩ : ∃ w3, putOp w2 w.heap.size O = w3 := ⟨_, rfl⟩
  rw [hw3] at hB3 hbx3 ⊢
  clear hw3 hB1 hb2 hbx1 hbx2 hx1 hB2 hrest
  clear w2 W'
  obtain ⟨L, hS0, hF⟩ := h
  have hS := hS0.keep fun b hb => hB3.block b (hS0.foot_lt b hb)
  have HF := Lib.hid hF
  clear hF
  have hx3 := hbx3.lt
  have hsb3 : sb < w3.heap.size := (Array.getElem?_eq_some_iff.1 hS.st).1
  obtain ⟨b, cap, hv, hb, hoc, hfz⟩ := OwnAt.one (hS.rows _ (kfind_mem HC.out))
  have hbF : F b := HF.out b (.inr (.inr (.inl ⟨_, kfind_mem HC.out, by rw [hv]; rfl⟩)))
  have hbw : b < w.heap.size := hS0.foot_lt b (.inr (.inr (.inl ⟨_, kfind_mem HC.out, by rw [hv]; rfl⟩)))
  clear hS0
  dsimp only at hv hoc
  have hlk := hS.lookRow i.c
  rw [HC.out, Option.map_some, Option.getD_some, hv] at hlk
  have s0 : ∀ s : BStep w3, s.val.cell? ⟨sb, 0, none⟩ = some (.map (some L.m)) := BStep.cell hsb3 (by simp [World.cell?, hS.st])
  have q0 : ∀ s : BStep w3, s.val.cell? ⟨w.heap.size, 0, none⟩ = some (.int .u64 i.c) := BStep.cell hx3 (hbx3.cells 0 _ (by rw [← HO.out]; rfl))
  have k1 : ∀ s : BStep w3, (Instr.lookup 80 (.map (some L.m)) (.int .u64 i.c) false).run Tryz.prog s.val = .ok (.slice (some ⟨b, 0, none⟩) 1 cap) s.val := fun s => by
    have h1 := (hS.below s.h).lookRow i.c
    rwa [HC.out, Option.map_some, Option.getD_some, hv] at h1
  go_upto_region 6 with fail
  refine wp_region_b (by kernel_rfl) (by kernel_rfl) ?_
  repeat (first | go_big_quiet_skip | (go_big_quiet_want; first | (fail; go_frame; go_big_quiet_on) | (go_big_quiet_op; first | go_big_quiet_on | go_big_quiet_call (fail))))
  refine wpQuiet_nil ?_
  intro W' hC'
  have hBW' := BStep.of hC'
  have hS4 := hS.below hBW'
  have hbx4 := hbx3.below hBW' hx3
  have hB4 := belowTrans hB3 hBW'
  have hoc4 : OpCells W' b 0 (kOp i.c t0) := fun j y hy => (hBW'.cell (p := ⟨b, 0 + j, none⟩) hb).trans (hoc j y hy)
  have hb4 : b < W'.heap.size := Nat.lt_of_lt_of_le hb hBW'.size
  clear hS hbx3 hB3 hBW' hoc hb hlk s0 q0 k1 hx3 hsb3 hfz hC'
  clear w3
  obtain ⟨w4, rfl⟩ : ∃ w4, w4 = W' := ⟨_, rfl⟩
  have hx4 := hbx4.lt
  go_upto_region 8 with fail
  have hTW : ∀ s : BStep w4, Tabs s.val := fun s => (hT.below hB4).below s.h
  have l1 : ∀ w', (∃ s : BStep w4, w' = s.val) → (loadVar 35 ⟨w.heap.size, 0, none⟩).run Tryz.prog w' = .ok (opV O) w' := by
    rintro _ ⟨s, rfl⟩
    exact OpBox.load ((s.h.block _ hx4).trans hbx4)
  have l2 : ∀ w', (∃ s : BStep w4, w' = s.val) → (loadVar 35 ⟨b, 0, none⟩).run Tryz.prog w' = .ok (opV (kOp i.c t0)) w' := by
    rintro _ ⟨s, rfl⟩
    exact load_op fun j y hy => (s.h.cell (p := ⟨b, 0 + j, none⟩) hb4).trans (hoc4 j y hy)
  refine wp_region_b (by kernel_rfl) (by kernel_rfl) ?_
  repeat (first | go_big_quiet_skip | (go_big_quiet_want; first | ((first | refine quiet_load 35 _ _ rfl rfl l1 ?_ | refine quiet_load 35 _ _ rfl rfl l2 ?_); go_frame; go_big_quiet_on) | (go_big_quiet_op; first | go_big_quiet_on | go_big_quiet_call ((go_at_call 117; exact callsB (hfit _ (hTW _)))))))
  refine wpQuiet_nil ?_
  intro W' hC'
  have hBW' := BStep.of hC'
  have hS5 := hS4.below hBW'
  have hbx5 := hbx4.below hBW' hx4
  have hB5 := belowTrans hB4 hBW'
  have hoc5 : OpCells W' b 0 (kOp i.c t0) := fun j y hy => (hBW'.cell (p := ⟨b, 0 + j, none⟩) hb4).trans (hoc4 j y hy)
  have hb5 : b < W'.heap.size := Nat.lt_of_lt_of_le hb4 hBW'.size
  clear hS4 hbx4 hB4 hBW' hoc4 hb4 l1 l2 hTW hC' hx4 hfit
  clear w4
  obtain ⟨w5, rfl⟩ : ∃ w5, w5 = W' := ⟨_, rfl⟩
  have hx5 := hbx5.lt
  go_upto_region 9 with fail
  have hO8 : w5.cell? ⟨w.heap.size, 8, none⟩ = some (.string u) := hbx5.cells 8 _ (by rw [← HO.out]; rfl)
  have hb8 : w5.cell? ⟨b, 8, none⟩ = some (.string t0) := by have := hoc5 8 _ rfl; rwa [Nat.zero_add] at this
  have q8 : ∀ s : MStep (fun _ => False) w5, s.val.cell? ⟨w.heap.size, 8, none⟩ = some (.string u) := MStep.cell hx5 id hO8
  have b8 : ∀ s : MStep (fun _ => False) w5, s.val.cell? ⟨b, 8, none⟩ = some (.string t0) := MStep.cell hb5 id hb8
  have hrow5 := hS5.rows _ (kfind_mem HC.out)
  dsimp only at hrow5
  obtain ⟨cur, hcur⟩ := ownsRow_obj hrow5 (b := b) (by rw [hv]; rfl)
  have ff : w5.frozen? ⟨b, 8, none⟩ = false := by simp [World.frozen?, hcur]
  refine wp_region_flow3 8 [0, 1, 2, 3, 4, 5, 6, 7] [8, 9, 10] (fun w' => ∃ s : MStep (fun _ => False) w5, w' = s.val) (by kernel_rfl) (by kernel_rfl) (fun _ _ d _ _ h => by cases d <;> exact h) (MStep.to (Mods.refl _ _).drew) ?_
  simp only [List.map_cons, List.map_nil, List.getElem?_cons_succ, List.getElem?_cons_zero, Option.getD_some]
  repeat (first | go_big_quiet_skip | (go_big_quiet_want; first | (fail; go_frame; go_big_quiet_on) | (go_big_quiet_op; go_big_quiet_on)))
  refine wpQuiet_nil ?_
  refine wpSeqF_step rfl ?_; simp only [List.getElem_toArray, List.getElem_cons_succ, List.getElem_cons_zero]
  go_wp2_with fail
  refine wpSeqF_step rfl ?_; simp only [List.getElem_toArray, List.getElem_cons_succ, List.getElem_cons_zero]
  go_wp2_with fail
  refine wpSeqF_step rfl ?_; simp only [List.getElem_toArray, List.getElem_cons_succ, List.getElem_cons_zero]
  go_wp2_with fail
  refine wpSeqF_nil ?_
  have hne : ∀ k, k ≠ b → ((w5.setCell ⟨b, 8, none⟩ (.string (t0 ++ u))).drew).heap[k]? = w5.heap[k]? := fun k hk => Below.heap_setCell _ _ _ _ hk
  have hrow6 : OwnAt 0 35 22 encOp ((w5.setCell ⟨b, 8, none⟩ (.string (t0 ++ u))).drew) (L.row i.c) [kOp i.c (t0 ++ u)] := by
    rw [hv] at hrow5 ⊢
    have h6 := OwnAt.set (k := 22) (enc := encOp) (i := 8) (z := kOp i.c (t0 ++ u)) (x := kOp i.c t0) (u := .string (t0 ++ u)) (fun _ => rfl) hrow5 (j := 0) (by simp) (by decide) rfl
    exact h6
  have hS6 := hS5.merge HC.out (b := b) (by rw [hv]; rfl) hne hrow6
  have hbx6 : OpBox ((w5.setCell ⟨b, 8, none⟩ (.string (t0 ++ u))).drew) w.heap.size O := (hne _ (by omega)).trans hbx5
  have hm6 : Mods F w ((w5.setCell ⟨b, 8, none⟩ (.string (t0 ++ u))).drew) := ⟨hB5.os, hB5.tape, hB5.output, by have := hB5.size; simpa using this, fun k hk hs => (hne k (fun e => hs (e ▸ hbF))).trans (hB5.block k hk)⟩
  obtain ⟨w6, hw6⟩ : ∃ w6, (w5.setCell ⟨b, 8, none⟩ (.string (t0 ++ u))).drew = w6 := ⟨_, rfl⟩
  rw [hw6] at hS6 hbx6 hm6 ⊢
  clear hw6 hne hrow6 hrow5 hS5 hbx5 hB5 hoc5 hb5 hO8 hb8 q8 b8 hcur ff hx5
  clear w5
  go_wp2_with (first | (refine wpList_load_eq (T := 35) (v := opV O) rfl rfl rfl hbx6.load ?_) | (refine wpList_sliceOp O rfl _ rfl rfl ?_))

  go_ret
  have hBn : Below w6.heap.size w6 (w6.alloc (.cells (encOp O).toArray 35)) := (Below.refl _ _).alloc (Nat.le_refl _) _
  refine ⟨w6.heap.size, rfl, OpBox.new w6 O, hm6.size, ⟨L, hS6.below hBn, fun b hb => .inl (HF.out b (hb.merge HC.out))⟩, ?_⟩
  exact hm6.alloc _
end Go.Proofs.YthhbiliimdpgmaaGreatDoor
