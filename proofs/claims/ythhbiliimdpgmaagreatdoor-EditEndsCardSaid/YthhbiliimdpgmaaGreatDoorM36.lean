/- Walk: store.Add of a client's first text. -/
import Derived.Test.YthhbiliimdpgmaaGreatDoorM35
namespace Go.Proofs.YthhbiliimdpgmaaGreatDoor
open Go.RowKit Go.Lib

set_option maxRecDepth 100000 in
set_option maxHeartbeats 4000000 in
theorem add_first (F : Nat → Prop) (sb : Nat) (K : List (Int × ByteArray)) (Q : List QOp) (H : List QRng) (c : Int) (u : ByteArray) (w : World) (h : StoreIn w F sb K Q H) (hK : KSmall K) (hT : Tabs w)
    (hg : GoodT ⟨c, 1⟩ idZero idZero u) (hs : u.size ≤ 1000000000000) (hc : kfind K c = none) :
    Calls Tryz.prog 71 #[.pointer (some ⟨sb, 0, none⟩), opV (kOp c u)] w (AddR F sb (kadd K c u) Q H (kOp c u) w) := by
  have hcheck := fun w hT => opsCheck_t ⟨c, 1⟩ idZero idZero u w hg hs hT
  have hkn := fun w h hT => known_any F sb K Q H c w h hK hT
  have hkc : kcount K c = 0 := by unfold kcount; rw [hc]
  have hrest := fun w h hT => rest_new F sb K Q H ⟨c, 1⟩ idZero idZero u w h hK hT (by show kcount K c < 1; rw [hkc]; omega)
  rw [hkc] at hkn
  have HC := Lib.hid hc
  obtain ⟨O, hO⟩ : ∃ O, kOp c u = O := ⟨_, rfl⟩
  have hO' : tOp ⟨c, 1⟩ idZero idZero u = O := hO
  rw [hO'] at hcheck hrest
  rw [hO]
  have HO := Lib.hid hO
  clear hc hkc hO'
  rw [← HO.out]
  change Calls Tryz.prog 71 #[.pointer (some ⟨sb, 0, none⟩), .agg #[.int .u64 (⟨c, 1⟩ : QId).c, .int .u64 (⟨c, 1⟩ : QId).k, .int .i64 1, .int .u64 0, .int .u64 idZero.c, .int .u64 idZero.k, .int .u64 idZero.c, .int .u64 idZero.k, .string u, .int .i64 0, .int .i64 0, .float .f64 0, .string ⟨#[]⟩, .string ⟨#[]⟩, .int .u64 0, .int .u64 0, .int .u64 0, .int .u64 0, .bool false, .int .u64 0, .int .u64 0, .bool false]] w _
  rw [HO.out]
  go_enter Tryz.func71, Tryz.ntmps71
  go_upto_region 1 with fail
  obtain ⟨W, hW⟩ : ∃ W, w.alloc (.cells (encOp (tOp ⟨c, 1⟩ idZero idZero u)).toArray 35) = W := ⟨_, rfl⟩
  have hB : Below w.heap.size w W := by rw [← hW]; exact (Below.refl _ _).alloc (Nat.le_refl _) _
  have hbx : OpBox W w.heap.size (tOp ⟨c, 1⟩ idZero idZero u) := by rw [← hW]; exact OpBox.new _ _
  change Code.wp _ _ _ _ (w.alloc (.cells (encOp (tOp ⟨c, 1⟩ idZero idZero u)).toArray 35))
  rw [hW]
  clear hW
  rw [show tOp ⟨c, 1⟩ idZero idZero u = O from hO] at hbx
  have hbl := hbx.lt
  have hTW : ∀ s : BStep W, Tabs s.val := fun s => (hT.below hB).below s.h
  have hSW : ∀ s : BStep W, StoreIn s.val F sb K Q H := fun s => (h.below hB).below s.h
  have q0 : ∀ s : BStep W, s.val.cell? ⟨w.heap.size, 0, none⟩ = some (.int .u64 c) := BStep.cell hbl (hbx.cells 0 _ (by rw [← hO]; rfl))
  have q1 : ∀ s : BStep W, s.val.cell? ⟨w.heap.size, 1, none⟩ = some (.int .u64 1) := BStep.cell hbl (hbx.cells 1 _ (by rw [← hO]; rfl))
  have l1 : ∀ w', (∃ s : BStep W, w' = s.val) → (loadVar 35 ⟨w.heap.size, 0, none⟩).run Tryz.prog w' = .ok (opV O) w' := by
    rintro _ ⟨s, rfl⟩
    exact OpBox.load ((s.h.block _ hbl).trans hbx)
  refine wp_region_b (by kernel_rfl) (by kernel_rfl) ?_
  repeat (first | go_big_quiet_skip | (go_big_quiet_want; first | ((refine quiet_load 35 _ _ rfl rfl l1 ?_); go_frame; go_big_quiet_on) | (go_big_quiet_op; first | go_big_quiet_on | go_big_quiet_call ((first | (go_at_call 30; exact callsB (hcheck _ (hTW _))) | (go_at_call 115; exact callsB (hkn _ (hSW _) (hTW _))))))))
  refine wpQuiet_nil ?_
  intro W' hC'
  have hBW' := BStep.of hC'
  clear hTW hSW q0 q1 l1 hcheck hC'
  have hB1 := belowTrans hB hBW'
  have hbx1 := hbx.below hBW' hbl
  clear hB hbx hBW' hbl
  clear W
  have hx1 := hbx1.lt
  go_upto_region 4 with (first | (refine wpList_load_eq (T := 35) (v := opV O) rfl rfl rfl hbx1.load ?_) | (go_at_call 116; refine (hrest _ (h.below hB1) (hT.below hB1)).mono ?_; rintro e w2 ⟨rfl, hb2⟩; have hbx2 := hbx1.below hb2 hx1) | (refine wpList_store_eq (T := 35) (v := opV O) rfl rfl rfl rfl (OpBox.store hbx2 O) ?_))
  have hB2 := belowTrans hB1 hb2
  have hB3 : Below w.heap.size w (putOp w2 w.heap.size O) := below_putOp hB2 (Nat.le_refl _) O
  have hbx3 : OpBox (putOp w2 w.heap.size O) w.heap.size O := hbx2.put O
  obtain ⟨w3, hw3⟩ : ∃ w3, putOp w2 w.heap.size O = w3 := ⟨_, rfl⟩
  rw [hw3] at hB3 hbx3 ⊢
  clear hw3 hB1 hb2 hbx1 hbx2 hx1 hB2 hrest
  clear w2 W'
  obtain ⟨L, hS0, hF⟩ := h
  have hS := hS0.keep fun b hb => hB3.block b (hS0.foot_lt b hb)
  have HF := Lib.hid hF
  clear hF
  have hx3 := hbx3.lt
  have hsb3 : sb < w3.heap.size := (Array.getElem?_eq_some_iff.1 hS.st).1
  have hlk := hS.lookRow c
  rw [HC.out, Option.map_none, Option.getD_none] at hlk
  have s0 : ∀ s : BStep w3, s.val.cell? ⟨sb, 0, none⟩ = some (.map (some L.m)) := BStep.cell hsb3 (by simp [World.cell?, hS.st])
  have q0 : ∀ s : BStep w3, s.val.cell? ⟨w.heap.size, 0, none⟩ = some (.int .u64 c) := BStep.cell hx3 (hbx3.cells 0 _ (by rw [← HO.out]; rfl))
  have k1 : ∀ s : BStep w3, (Instr.lookup 80 (.map (some L.m)) (.int .u64 c) false).run Tryz.prog s.val = .ok (.slice none 0 0) s.val := fun s => by
    have h1 := (hS.below s.h).lookRow c
    rwa [HC.out, Option.map_none, Option.getD_none] at h1
  go_upto_region 6 with fail
  refine wp_region_b (by kernel_rfl) (by kernel_rfl) ?_
  repeat (first | go_big_quiet_skip | (go_big_quiet_want; first | (fail; go_frame; go_big_quiet_on) | (go_big_quiet_op; first | go_big_quiet_on | go_big_quiet_call (fail))))
  refine wpQuiet_nil ?_
  intro W' hC'
  have hBW' := BStep.of hC'
  have hS4 := hS.below hBW'
  have hbx4 := hbx3.below hBW' hx3
  have hB4 := belowTrans hB3 hBW'
  clear hS hbx3 hB3 hBW' hlk s0 q0 k1 hx3 hsb3 hC'
  clear w3
  obtain ⟨w4, rfl⟩ : ∃ w4, w4 = W' := ⟨_, rfl⟩
  have hx4 := hbx4.lt
  go_upto_region 8 with fail
  refine wp_region_b (by kernel_rfl) (by kernel_rfl) ?_
  repeat (first | go_big_quiet_skip | (go_big_quiet_want; first | (fail; go_frame; go_big_quiet_on) | (go_big_quiet_op; first | go_big_quiet_on | go_big_quiet_call (fail))))
  refine wpQuiet_nil ?_
  intro W' hC'
  have hBW' := BStep.of hC'
  have hS5 := hS4.below hBW'
  have hbx5 := hbx4.below hBW' hx4
  have hB5 := belowTrans hB4 hBW'
  clear hS4 hbx4 hB4 hBW' hC' hx4
  clear w4
  obtain ⟨w5, rfl⟩ : ∃ w5, w5 = W' := ⟨_, rfl⟩
  have hx5 := hbx5.lt
  have hsb5 : sb < w5.heap.size := (Array.getElem?_eq_some_iff.1 hS5.st).1
  have s0 : ∀ s : MStep (fun _ => False) w5, s.val.cell? ⟨sb, 0, none⟩ = some (.map (some L.m)) := MStep.cell hsb5 id (by simp [World.cell?, hS5.st])
  have q0 : ∀ s : MStep (fun _ => False) w5, s.val.cell? ⟨w.heap.size, 0, none⟩ = some (.int .u64 c) := MStep.cell hx5 id (hbx5.cells 0 _ (by rw [← HO.out]; rfl))
  have l1 : ∀ w', (∃ s : MStep (fun _ => False) w5, w' = s.val) → (loadVar 35 ⟨w.heap.size, 0, none⟩).run Tryz.prog w' = .ok (opV O) w' := by
    rintro _ ⟨s, rfl⟩
    exact OpBox.load ((s.h.block _ hx5 id).trans hbx5)
  obtain ⟨ix, hix, hz0, hz1, hz2⟩ := info_parts infoOp
  go_upto_region 10 with fail
  refine wp_region_flow3 11 [0, 1, 2, 3, 4, 5, 6, 7, 8] [9, 10, 11] (fun w' => ∃ s : MStep (fun _ => False) w5, w' = s.val) (by kernel_rfl) (by kernel_rfl) (fun _ _ d _ _ h => by cases d <;> exact h) (MStep.to (Mods.refl _ _).drew) ?_
  simp only [List.map_cons, List.map_nil, List.getElem?_cons_succ, List.getElem?_cons_zero, Option.getD_some]
  repeat (first | go_big_quiet_skip | (go_big_quiet_want; first | (refine quiet_load 35 _ _ rfl rfl l1 ?_; go_frame; go_big_quiet_on) | (go_big_quiet_op; go_big_quiet_on)))
  refine wpQuiet_nil ?_
  refine wpSeqF_step rfl ?_; simp only [List.getElem_toArray, List.getElem_cons_succ, List.getElem_cons_zero]
  go_wp2_with (refine wpList_sliceOp O rfl _ rfl rfl ?_)
  refine ⟨MStep.to (((Mods.refl _ w5).alloc (.cells (encOp O).toArray 35)).drew), ?_⟩
  refine wpSeqF_step rfl ?_; simp only [List.getElem_toArray, List.getElem_cons_succ, List.getElem_cons_zero]
  refine wpList_append_own_at _ rfl _ _ 39 (by rfl) w5.heap.size 35 ix (opV opZero) 22 200 Tryz.underlying39 hix hz0 hz1 hz2 (by rfl) (by decide) _ 0 [] (by rfl) (OwnAt.nil (α := QOp) (k := 22) (enc := encOp)) ⟨w5.heap.size, 0, none⟩ 1 1 (encOp O) (by rfl) (by rfl) ?tc1 ?tc2 ?tc3 ?tc4 ?tc5 ?_
  case tc1 => exact fun j x hu => by rw [Addr.add_lit]; exact (show OpBox ((w5.alloc (.cells (encOp O).toArray 35)).drew) w5.heap.size O from OpBox.new w5 O).cells j x hu
  case tc2 => intro x hx; simp [encOp] at hx; rcases hx with h | h | h | h | h | h | h | h | h | h | h | h | h | h | h | h | h | h | h | h | h | h <;> (subst h; rfl)
  case tc3 => unfold maxLen; omega
  case tc4 => omega
  case tc5 => first | omega | (simp; omega) | (show w5.heap.size ≤ (w5.alloc _).heap.size; simp)
  intro v' w8 hown8 hgrow8 hnil8 hblk8
  go_frame
  have hm8 : Mods (fun _ => False) w5 w8 := ((Mods.refl _ w5).alloc _).drew.grown hgrow8 (fun b hb => by cases hb)
  refine ⟨fun _ => MStep.to hm8, ?_⟩
  have hmap8 : MapK u64V w8 L.m (K.map fun p => (p.1, L.row p.1)) := hS5.map.blk (hm8.block _ hS5.map.lt id)
  obtain ⟨ob, hput, hkey⟩ := run_put u64Key (T := 80) (E := 39) (by kernel_rfl) hmap8 c v'
  unfold u64V at hput
  refine wpSeqF_step rfl ?_; simp only [List.getElem_toArray, List.getElem_cons_succ, List.getElem_cons_zero]
  go_wp2
  refine wpSeqF_nil ?_
  have hmw : L.m < w5.heap.size := hS5.map.lt
  have hrow8 : OwnAt w5.heap.size 35 22 encOp w8 v' [O] := by simpa [OwnAt] using hown8
  obtain ⟨g, cap, hv', hgl, _, _⟩ := OwnAt.one hrow8
  have hgb : w5.heap.size ≤ g := (World.ownsRow.lt hrow8 g (by rw [hv']; rfl)).1
  have hrow9 : OwnAt 0 35 22 encOp (putMap w8 L.m ob) v' [kOp c u] := by
    rw [HO.out]
    refine ownsRow_blk (ownsRow_base hrow8 (Nat.zero_le _)) fun b e => putMap_other ?_
    have := (World.ownsRow.lt hrow8 b e).1
    omega
  have hw9 : ∀ k, k < w5.heap.size → k ≠ L.m → (putMap w8 L.m ob).heap[k]? = w5.heap[k]? := fun k hk hne => (putMap_other hne).trans (hm8.block k hk id)
  have hS9 := hS5.fresh HC.out (v := v') (g := g) (by rw [hv']; rfl) hgb hw9 hkey hrow9
  have hLw : L.m < w.heap.size := hS0.map.lt
  have hmF : F L.m := HF.out _ (.inr (.inl rfl))
  have hbx9 : OpBox (putMap w8 L.m ob) w.heap.size O := (hw9 _ hx5 (by omega)).trans hbx5
  have hm9 : Mods F w (putMap w8 L.m ob) := ⟨hm8.os.trans hB5.os, hm8.tape.trans hB5.tape, hm8.output.trans hB5.output, by have h1 := hB5.size; have h2 := hm8.size; rw [putMap_size]; omega, fun k hk hs => (hw9 k (Nat.lt_of_lt_of_le hk hB5.size) (fun e => hs (e ▸ hmF))).trans (hB5.block k hk)⟩
  have hB5s := hB5.size
  obtain ⟨w9, hw9'⟩ : ∃ w9, putMap w8 L.m ob = w9 := ⟨_, rfl⟩
  rw [hw9'] at hS9 hbx9 hm9 ⊢
  clear hw9' hput hkey hmap8 hm8 hown8 hgrow8 hnil8 hblk8 hrow8 hrow9 hw9 hB5 hbx5 hS5 s0 q0 l1 hx5 hsb5
  have hx9 := hbx9.lt
  go_wp2_with (first | (refine wpList_load_eq (T := 35) (v := opV O) rfl rfl rfl hbx9.load ?_) | (refine wpList_sliceOp O rfl _ rfl rfl ?_))
  go_ret
  have hBn : Below w9.heap.size w9 (w9.alloc (.cells (encOp O).toArray 35)) := (Below.refl _ _).alloc (Nat.le_refl _) _
  refine ⟨w9.heap.size, rfl, OpBox.new w9 O, hm9.size, ⟨_, hS9.below hBn, fun b hb => ?_⟩, hm9.alloc _⟩
  have hblt := hS9.foot_lt b hb
  rcases hb.fresh HC.out with h1 | h1
  · exact .inl (HF.out b h1)
  · rw [hv'] at h1
    have : g = b := by simpa [Value.ownBlock] using h1
    exact .inr ⟨by omega, by omega⟩
end Go.Proofs.YthhbiliimdpgmaaGreatDoor
/- Walk: store.Add of any right operation of a client of whom nothing is known. -/
namespace Go.Proofs.YthhbiliimdpgmaaGreatDoor
open Go.RowKit Go.Lib

def AddAny (F : Nat → Prop) (_ : QOp) (w : World) (e : Ending) (w' : World) : Prop := ∃ v, e = .returned v ∧ Mods F w w'
set_option maxRecDepth 100000 in
set_option maxHeartbeats 4000000 in
theorem rest_g (F : Nat → Prop) (sb : Nat) (K : List (Int × ByteArray)) (Q : List QOp) (H : List QRng) (o : QOp) (w : World) (h : StoreIn w F sb K Q H) (hK : KSmall K) (hT : Tabs w) (hlt : kcount K o.id.c < o.id.k) :
    Calls Tryz.prog 116 #[.pointer (some ⟨sb, 0, none⟩), opV o] w fun e w' => e = .returned (.tuple #[opV o, .bool true]) ∧ Below w.heap.size w w' := by
  have hkn := fun w h hT => known_any F sb K Q H o.id.c w h hK hT
  generalize kcount K o.id.c = n at hkn hlt
  have d1 : decide (n < o.id.k) = true := by simpa using hlt
  change Calls Tryz.prog 116 #[.pointer (some ⟨sb, 0, none⟩), .agg #[.int .u64 o.id.c, .int .u64 o.id.k, .int .i64 o.kind, .int .u64 o.stamp, .int .u64 o.left.c, .int .u64 o.left.k, .int .u64 o.right.c, .int .u64 o.right.k, .string o.text, .int .i64 o.v.kind, .int .i64 o.v.n, .float .f64 o.v.f, .string o.v.s, .string o.key, .int .u64 o.parent.c, .int .u64 o.parent.k, .int .u64 o.frm.c, .int .u64 o.frm.k, .bool o.frmA, .int .u64 o.til.c, .int .u64 o.til.k, .bool o.tilA]] w _
  go_enter Tryz.func116, Tryz.ntmps116
  go_upto_region 1 with fail
  obtain ⟨W, hW⟩ : ∃ W, (w.alloc (.cells (encOp o).toArray 35)).alloc (.cells (encOp opZero).toArray 35) = W := ⟨_, rfl⟩
  have hB : Below w.heap.size w W := by rw [← hW]; exact ((Below.refl _ _).alloc (Nat.le_refl _) _).alloc (by simp) _
  have hbx : OpBox W w.heap.size o := by rw [← hW]; exact (OpBox.new w o).below ((Below.refl _ _).alloc (Nat.le_refl _) _) (by simp)
  have hby : OpBox W (w.heap.size + 1) opZero := by rw [← hW]; have := OpBox.new (w.alloc (.cells (encOp o).toArray 35)) opZero; rwa [World.size_alloc] at this
  change Code.wp _ _ _ _ ((w.alloc (.cells (encOp o).toArray 35)).alloc (.cells (encOp opZero).toArray 35))
  rw [hW]
  clear hW
  have hz0 : w.heap.size < W.heap.size := hbx.lt
  have hz1 : w.heap.size + 1 < W.heap.size := hby.lt
  have q0 : W.cell? ⟨w.heap.size, 0, none⟩ = some (.int .u64 o.id.c) := hbx.cells 0 _ rfl
  go_upto_region 2 with (go_at_call 115; refine (hkn _ (h.below hB) (hT.below hB)).mono ?_; rintro e w1 ⟨rfl, hb1⟩)
  have hbx1 := hbx.below hb1 hz0
  have hby1 := hby.below hb1 hz1
  have hB1 := belowTrans hB hb1
  have hy1 := hby1.lt
  clear hbx hby hB hb1 hz0 hz1 q0 h hkn
  clear W
  have q1 : w1.cell? ⟨w.heap.size, 1, none⟩ = some (.int .u64 o.id.k) := hbx1.cells 1 _ rfl
  have hres := Lib.hid (hby1.put o).load
  go_wp2_with (first | (refine wpList_load_eq (T := 35) (v := opV o) rfl rfl rfl hbx1.load ?_) | (refine wpList_store_eq (T := 35) (v := opV o) rfl rfl rfl rfl (OpBox.store hby1 o) ?_))
  refine bodyPost_ret (v := .tuple #[opV o, .bool true]) ?_ rfl ⟨rfl, below_putOp hB1 (by omega) _⟩
  have h9 := hres.out
  simp [results, Tryz.results116, asAddr, h9]
set_option maxRecDepth 100000 in
set_option maxHeartbeats 4000000 in
theorem add_one (F : Nat → Prop) (sb : Nat) (K : List (Int × ByteArray)) (Q : List QOp) (H : List QRng) (c : Int) (O : QOp) (w : World) (h : StoreIn w F sb K Q H) (hK : KSmall K) (hT : Tabs w)
    (hid : O.id = ⟨c, 1⟩) (hcheck : ∀ w, Tabs w → Calls Tryz.prog 30 #[opV O] w fun e w' => e = .returned (.int .i64 0) ∧ Below w.heap.size w w') (hc : kfind K c = none) :
    Calls Tryz.prog 71 #[.pointer (some ⟨sb, 0, none⟩), opV O] w (AddAny F O w) := by
  have hkn := fun w h hT => known_any F sb K Q H c w h hK hT
  have hkc : kcount K c = 0 := by unfold kcount; rw [hc]
  have hoc : O.id.c = c := by rw [hid]
  have hok : O.id.k = 1 := by rw [hid]
  have hrest := fun w h hT => rest_g F sb K Q H O w h hK hT (by rw [hid]; show kcount K c < 1; rw [hkc]; omega)
  rw [hkc] at hkn
  have HC := Lib.hid hc
  have HOC := Lib.hid hoc
  have HOK := Lib.hid hok
  clear hc hkc hid hoc hok
  unfold opV
  go_enter Tryz.func71, Tryz.ntmps71
  go_upto_region 1 with fail
  obtain ⟨W, hW⟩ : ∃ W, w.alloc (.cells (encOp O).toArray 35) = W := ⟨_, rfl⟩
  have hB : Below w.heap.size w W := by rw [← hW]; exact (Below.refl _ _).alloc (Nat.le_refl _) _
  have hbx : OpBox W w.heap.size O := by rw [← hW]; exact OpBox.new _ _
  change Code.wp _ _ _ _ (w.alloc (.cells (encOp O).toArray 35))
  rw [hW]
  clear hW
  have hbl := hbx.lt
  have hTW : ∀ s : BStep W, Tabs s.val := fun s => (hT.below hB).below s.h
  have hSW : ∀ s : BStep W, StoreIn s.val F sb K Q H := fun s => (h.below hB).below s.h
  have q0 : ∀ s : BStep W, s.val.cell? ⟨w.heap.size, 0, none⟩ = some (.int .u64 c) := BStep.cell hbl (by have := hbx.cells 0 _ rfl; rw [this, HOC.out])
  have q1 : ∀ s : BStep W, s.val.cell? ⟨w.heap.size, 1, none⟩ = some (.int .u64 1) := BStep.cell hbl (by have := hbx.cells 1 _ rfl; rw [this, HOK.out])
  have l1 : ∀ w', (∃ s : BStep W, w' = s.val) → (loadVar 35 ⟨w.heap.size, 0, none⟩).run Tryz.prog w' = .ok (opV O) w' := by
    rintro _ ⟨s, rfl⟩
    exact OpBox.load ((s.h.block _ hbl).trans hbx)
  refine wp_region_b (by kernel_rfl) (by kernel_rfl) ?_
  repeat (first | go_big_quiet_skip | (go_big_quiet_want; first | ((refine quiet_load 35 _ _ rfl rfl l1 ?_); go_frame; go_big_quiet_on) | (go_big_quiet_op; first | go_big_quiet_on | go_big_quiet_call ((first | (go_at_call 30; exact callsB (hcheck _ (hTW _))) | (go_at_call 115; exact callsB (hkn _ (hSW _) (hTW _))))))))
  refine wpQuiet_nil ?_
  intro W' hC'
  have hBW' := BStep.of hC'
  clear hTW hSW q0 q1 l1 hcheck hC'
  have hB1 := belowTrans hB hBW'
  have hbx1 := hbx.below hBW' hbl
  clear hB hbx hBW' hbl
  clear W
  have hx1 := hbx1.lt
  go_upto_region 4 with (first | (refine wpList_load_eq (T := 35) (v := opV O) rfl rfl rfl hbx1.load ?_) | (go_at_call 116; refine (hrest _ (h.below hB1) (hT.below hB1)).mono ?_; rintro e w2 ⟨rfl, hb2⟩; have hbx2 := hbx1.below hb2 hx1) | (refine wpList_store_eq (T := 35) (v := opV O) rfl rfl rfl rfl (OpBox.store hbx2 O) ?_))
  have hB2 := belowTrans hB1 hb2
  have hB3 : Below w.heap.size w (putOp w2 w.heap.size O) := below_putOp hB2 (Nat.le_refl _) O
  have hbx3 : OpBox (putOp w2 w.heap.size O) w.heap.size O := hbx2.put O
  obtain ⟨w3, hw3⟩ : ∃ w3, putOp w2 w.heap.size O = w3 := ⟨_, rfl⟩
  rw [hw3] at hB3 hbx3 ⊢
  clear hw3 hB1 hb2 hbx1 hbx2 hx1 hB2 hrest
  clear w2 W'
  obtain ⟨L, hS0, hF⟩ := h
  have hS := hS0.keep fun b hb => hB3.block b (hS0.foot_lt b hb)
  have HF := Lib.hid hF
  clear hF
  have hx3 := hbx3.lt
  have hsb3 : sb < w3.heap.size := (Array.getElem?_eq_some_iff.1 hS.st).1
  have hlk := hS.lookRow c
  rw [HC.out, Option.map_none, Option.getD_none] at hlk
  have s0 : ∀ s : BStep w3, s.val.cell? ⟨sb, 0, none⟩ = some (.map (some L.m)) := BStep.cell hsb3 (by simp [World.cell?, hS.st])
  have q0 : ∀ s : BStep w3, s.val.cell? ⟨w.heap.size, 0, none⟩ = some (.int .u64 c) := BStep.cell hx3 (by have := hbx3.cells 0 _ rfl; rw [this, HOC.out])
  have k1 : ∀ s : BStep w3, (Instr.lookup 80 (.map (some L.m)) (.int .u64 c) false).run Tryz.prog s.val = .ok (.slice none 0 0) s.val := fun s => by
    have h1 := (hS.below s.h).lookRow c
    rwa [HC.out, Option.map_none, Option.getD_none] at h1
  go_upto_region 6 with fail
  refine wp_region_b (by kernel_rfl) (by kernel_rfl) ?_
  repeat (first | go_big_quiet_skip | (go_big_quiet_want; first | (fail; go_frame; go_big_quiet_on) | (go_big_quiet_op; first | go_big_quiet_on | go_big_quiet_call (fail))))
  refine wpQuiet_nil ?_
  intro W' hC'
  have hBW' := BStep.of hC'
  have hS4 := hS.below hBW'
  have hbx4 := hbx3.below hBW' hx3
  have hB4 := belowTrans hB3 hBW'
  clear hS hbx3 hB3 hBW' hlk s0 q0 k1 hx3 hsb3 hC'
  clear w3
  obtain ⟨w4, rfl⟩ : ∃ w4, w4 = W' := ⟨_, rfl⟩
  have hx4 := hbx4.lt
  go_upto_region 8 with fail
  refine wp_region_b (by kernel_rfl) (by kernel_rfl) ?_
  repeat (first | go_big_quiet_skip | (go_big_quiet_want; first | (fail; go_frame; go_big_quiet_on) | (go_big_quiet_op; first | go_big_quiet_on | go_big_quiet_call (fail))))
  refine wpQuiet_nil ?_
  intro W' hC'
  have hBW' := BStep.of hC'
  have hS5 := hS4.below hBW'
  have hbx5 := hbx4.below hBW' hx4
  have hB5 := belowTrans hB4 hBW'
  clear hS4 hbx4 hB4 hBW' hC' hx4
  clear w4
  obtain ⟨w5, rfl⟩ : ∃ w5, w5 = W' := ⟨_, rfl⟩
  have hx5 := hbx5.lt
  have hsb5 : sb < w5.heap.size := (Array.getElem?_eq_some_iff.1 hS5.st).1
  have s0 : ∀ s : MStep (fun _ => False) w5, s.val.cell? ⟨sb, 0, none⟩ = some (.map (some L.m)) := MStep.cell hsb5 id (by simp [World.cell?, hS5.st])
  have q0 : ∀ s : MStep (fun _ => False) w5, s.val.cell? ⟨w.heap.size, 0, none⟩ = some (.int .u64 c) := MStep.cell hx5 id (by have := hbx5.cells 0 _ rfl; rw [this, HOC.out])
  have l1 : ∀ w', (∃ s : MStep (fun _ => False) w5, w' = s.val) → (loadVar 35 ⟨w.heap.size, 0, none⟩).run Tryz.prog w' = .ok (opV O) w' := by
    rintro _ ⟨s, rfl⟩
    exact OpBox.load ((s.h.block _ hx5 id).trans hbx5)
  obtain ⟨ix, hix, hz0, hz1, hz2⟩ := info_parts infoOp
  go_upto_region 10 with fail
  refine wp_region_flow3 11 [0, 1, 2, 3, 4, 5, 6, 7, 8] [9, 10, 11] (fun w' => ∃ s : MStep (fun _ => False) w5, w' = s.val) (by kernel_rfl) (by kernel_rfl) (fun _ _ d _ _ h => by cases d <;> exact h) (MStep.to (Mods.refl _ _).drew) ?_
  simp only [List.map_cons, List.map_nil, List.getElem?_cons_succ, List.getElem?_cons_zero, Option.getD_some]
  repeat (first | go_big_quiet_skip | (go_big_quiet_want; first | (refine quiet_load 35 _ _ rfl rfl l1 ?_; go_frame; go_big_quiet_on) | (go_big_quiet_op; go_big_quiet_on)))
  refine wpQuiet_nil ?_
  refine wpSeqF_step rfl ?_; simp only [List.getElem_toArray, List.getElem_cons_succ, List.getElem_cons_zero]
  go_wp2_with (refine wpList_sliceOp O rfl _ rfl rfl ?_)
  refine ⟨MStep.to (((Mods.refl _ w5).alloc (.cells (encOp O).toArray 35)).drew), ?_⟩
  refine wpSeqF_step rfl ?_; simp only [List.getElem_toArray, List.getElem_cons_succ, List.getElem_cons_zero]
  refine wpList_append_own_at _ rfl _ _ 39 (by rfl) w5.heap.size 35 ix (opV opZero) 22 200 Tryz.underlying39 hix hz0 hz1 hz2 (by rfl) (by decide) _ 0 [] (by rfl) (OwnAt.nil (α := QOp) (k := 22) (enc := encOp)) ⟨w5.heap.size, 0, none⟩ 1 1 (encOp O) (by rfl) (by rfl) ?tc1 ?tc2 ?tc3 ?tc4 ?tc5 ?_
  case tc1 => exact fun j x hu => by rw [Addr.add_lit]; exact (show OpBox ((w5.alloc (.cells (encOp O).toArray 35)).drew) w5.heap.size O from OpBox.new w5 O).cells j x hu
  case tc2 => intro x hx; simp [encOp] at hx; rcases hx with h | h | h | h | h | h | h | h | h | h | h | h | h | h | h | h | h | h | h | h | h | h <;> (subst h; rfl)
  case tc3 => unfold maxLen; omega
  case tc4 => omega
  case tc5 => first | omega | (simp; omega) | (show w5.heap.size ≤ (w5.alloc _).heap.size; simp)
  intro v' w8 hown8 hgrow8 hnil8 hblk8
  go_frame
  have hm8 : Mods (fun _ => False) w5 w8 := ((Mods.refl _ w5).alloc _).drew.grown hgrow8 (fun b hb => by cases hb)
  refine ⟨fun _ => MStep.to hm8, ?_⟩
  have hmap8 : MapK u64V w8 L.m (K.map fun p => (p.1, L.row p.1)) := hS5.map.blk (hm8.block _ hS5.map.lt id)
  obtain ⟨ob, hput, hkey⟩ := run_put u64Key (T := 80) (E := 39) (by kernel_rfl) hmap8 c v'
  unfold u64V at hput
  refine wpSeqF_step rfl ?_; simp only [List.getElem_toArray, List.getElem_cons_succ, List.getElem_cons_zero]
  go_wp2
  refine wpSeqF_nil ?_
  have hmw : L.m < w5.heap.size := hS5.map.lt
  have hrow8 : OwnAt w5.heap.size 35 22 encOp w8 v' [O] := by simpa [OwnAt] using hown8
  obtain ⟨g, cap, hv', hgl, _, _⟩ := OwnAt.one hrow8
  have hgb : w5.heap.size ≤ g := (World.ownsRow.lt hrow8 g (by rw [hv']; rfl)).1
  have hw9 : ∀ k, k < w5.heap.size → k ≠ L.m → (putMap w8 L.m ob).heap[k]? = w5.heap[k]? := fun k hk hne => (putMap_other hne).trans (hm8.block k hk id)
  have hLw : L.m < w.heap.size := hS0.map.lt
  have hmF : F L.m := HF.out _ (.inr (.inl rfl))
  have hbx9 : OpBox (putMap w8 L.m ob) w.heap.size O := (hw9 _ hx5 (by omega)).trans hbx5
  have hm9 : Mods F w (putMap w8 L.m ob) := ⟨hm8.os.trans hB5.os, hm8.tape.trans hB5.tape, hm8.output.trans hB5.output, by have h1 := hB5.size; have h2 := hm8.size; rw [putMap_size]; omega, fun k hk hs => (hw9 k (Nat.lt_of_lt_of_le hk hB5.size) (fun e => hs (e ▸ hmF))).trans (hB5.block k hk)⟩
  have hB5s := hB5.size
  obtain ⟨w9, hw9'⟩ : ∃ w9, putMap w8 L.m ob = w9 := ⟨_, rfl⟩
  rw [hw9'] at hbx9 hm9 ⊢
  clear hw9' hput hkey hmap8 hm8 hown8 hgrow8 hnil8 hblk8 hrow8 hw9 hB5 hbx5 hS5 s0 q0 l1 hx5 hsb5
  have hx9 := hbx9.lt
  go_wp2_with (first | (refine wpList_load_eq (T := 35) (v := opV O) rfl rfl rfl hbx9.load ?_) | (refine wpList_sliceOp O rfl _ rfl rfl ?_))
  go_ret
  exact ⟨_, rfl, hm9.alloc _⟩
end Go.Proofs.YthhbiliimdpgmaaGreatDoor
