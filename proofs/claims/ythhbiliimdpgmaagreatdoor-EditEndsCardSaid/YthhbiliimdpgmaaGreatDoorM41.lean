/- Walk: edit.made of an insertion at the beginning of a document without units. -/
import Derived.Test.YthhbiliimdpgmaaGreatDoorM23
import Derived.Test.YthhbiliimdpgmaaGreatDoorM37
import Derived.Test.YthhbiliimdpgmaaGreatDoorM40
namespace Go.Proofs.YthhbiliimdpgmaaGreatDoor
open Go.RowKit Go.Lib

def MadeR (o : QOp) (w : World) (e : Ending) (w' : World) : Prop := ∃ ob, e = .returned (.agg #[.slice (some ⟨ob, 0, none⟩) 1 1, .slice none 0 0]) ∧ OpCells w' ob 0 o ∧ w.heap.size ≤ ob ∧ ob < w'.heap.size ∧ Below w.heap.size w w'
theorem OpBox.setG {w : World} {b k : Nat} {o o' : QOp} {v : Value} (h : OpBox w b o) (he : (encOp o).set k v = encOp o') : OpBox (w.setCell ⟨b, k, none⟩ v) b o' := by
  unfold OpBox at *
  simp [World.setCell, Array.getElem?_modify, h, ← he]
/-- the operation as made lays it first. -/
def opK (c k kd : Int) : QOp := ⟨⟨c, k⟩, kd, 0, idZero, idZero, ⟨#[]⟩, valZero, ⟨#[]⟩, idZero, idZero, false, idZero, false⟩
def op0 (c k : Int) : QOp := opK c k 0
def NewO (o : QOp) (W : World) (u : Value) (wx : World) : Prop := ∃ ob, u = .pointer (some ⟨ob, 0, none⟩) ∧ OpBox wx ob o ∧ W.heap.size ≤ ob ∧ Below W.heap.size W wx
set_option maxRecDepth 100000 in
set_option maxHeartbeats 4000000 in
theorem made_insert (n : Nat) (c : Int) (t : ByteArray) (kl : List (Int × Value)) (wl : List (QId × Value)) (hv vv : Value) (st : Int) (w : World) (hd : DocC n w kl wl hv vv st) (hs : SeqZ n w)
    (hN : ∀ W, Below w.heap.size w W → Calls Tryz.prog 12 #[.pointer (some ⟨n + 11, 0, none⟩), .int .u64 c] W fun e w' => e = .returned (.int .u64 1) ∧ Below W.heap.size W w') (hc1 : 1 ≤ c) (hc2 : c ≤ 9007199254740991) (ht : okT t = true) (hts : t.size ≤ 1000000) (hT : Tabs w) :
    Calls Tryz.prog 26 #[.pointer (some ⟨n + 11, 0, none⟩), .int .u64 c, edV 1 0 0 t valZero ⟨#[]⟩ (.slice none 0 0)] w (MadeR (tOp ⟨c, 1⟩ idZero idZero t) w) := by
  have d3 : decide (c < 1) = false := by simp; omega
  have d4 : decide (9007199254740991 < c) = false := by simp; omega
  have hdl := hd.lt
  have hun := fun W (hb : Below w.heap.size w W) => units_none n kl wl hv vv st W (hd.keep fun b g => hb.block b (by omega)) (hs.keep fun b g => hb.block b (by omega))
  have hcl : ∀ W, Calls Tryz.prog 42 #[.agg #[.int .i64 0, .int .i64 0, .float .f64 0, .string ⟨#[]⟩]] W fun e w' => e = .returned (.agg #[.int .i64 0, .int .i64 0, .float .f64 0, .string ⟨#[]⟩]) ∧ Below W.heap.size W w' := valClean_any valZero
  change Calls Tryz.prog 26 #[.pointer (some ⟨n + 11, 0, none⟩), .int .u64 c, .agg #[.int .i64 1, .int .i64 0, .int .i64 0, .string t, .int .i64 0, .int .i64 0, .float .f64 0, .string ⟨#[]⟩, .string ⟨#[]⟩, .slice none 0 0]] w _
  go_enter Tryz.func26, Tryz.ntmps26
  go_upto_region 3 with fail
  have hB : Below w.heap.size w ((w.alloc (.cells #[.int .i64 1, .int .i64 0, .int .i64 0, .string t, .int .i64 0, .int .i64 0, .float .f64 0, .string ⟨#[]⟩, .string ⟨#[]⟩, .slice none 0 0] 48)).alloc (.cells #[.slice none 0 0, .slice none 0 0] 42)) := by (repeat (first | exact Below.refl _ _ | assumption | refine Below.alloc ?_ (by simp <;> omega) _ | refine Below.drew ?_ | refine below_drewN ?_ _ | refine Below.setCell ?_ (by simp <;> omega) _ | refine belowTrans ?_ (by assumption)))
  have he : ((w.alloc (.cells #[.int .i64 1, .int .i64 0, .int .i64 0, .string t, .int .i64 0, .int .i64 0, .float .f64 0, .string ⟨#[]⟩, .string ⟨#[]⟩, .slice none 0 0] 48)).alloc (.cells #[.slice none 0 0, .slice none 0 0] 42)).heap[w.heap.size]? = some (.cells #[.int .i64 1, .int .i64 0, .int .i64 0, .string t, .int .i64 0, .int .i64 0, .float .f64 0, .string ⟨#[]⟩, .string ⟨#[]⟩, .slice none 0 0] 48 (0, 0)) := by rw [alloc_heap_if, if_neg (by simp), alloc_heap_if, if_pos rfl]
  have hrb : updBox ((w.alloc (.cells #[.int .i64 1, .int .i64 0, .int .i64 0, .string t, .int .i64 0, .int .i64 0, .float .f64 0, .string ⟨#[]⟩, .string ⟨#[]⟩, .slice none 0 0] 48)).alloc (.cells #[.slice none 0 0, .slice none 0 0] 42)) (w.heap.size + 1) := by unfold updBox; rw [alloc_heap_if, if_pos (by simp)]
  generalize (w.alloc (.cells #[.int .i64 1, .int .i64 0, .int .i64 0, .string t, .int .i64 0, .int .i64 0, .float .f64 0, .string ⟨#[]⟩, .string ⟨#[]⟩, .slice none 0 0] 48)).alloc (.cells #[.slice none 0 0, .slice none 0 0] 42) = W at hB he hrb ⊢
  have hu1 := hun W hB
  go_upto_region 4 with (go_at_call 41; refine hu1.mono ?_; rintro e w1 ⟨rfl, hb1⟩)
  have hB1 := belowTrans hB hb1
  have hel := (Array.getElem?_eq_some_iff.1 he).1
  have he1 := (hb1.block _ hel).trans he
  have hrl := (Array.getElem?_eq_some_iff.1 hrb).1
  have hrb1 : updBox w1 (w.heap.size + 1) := (hb1.block _ hrl).trans hrb
  have hel1 := (Array.getElem?_eq_some_iff.1 he1).1
  have e4 : ∀ s : MStep (fun _ => False) w1, s.val.cell? ⟨w.heap.size, 4, none⟩ = some (.int .i64 0) := MStep.cell hel1 id (by simp [World.cell?, he1])
  have e5 : ∀ s : MStep (fun _ => False) w1, s.val.cell? ⟨w.heap.size, 5, none⟩ = some (.int .i64 0) := MStep.cell hel1 id (by simp [World.cell?, he1])
  have e6 : ∀ s : MStep (fun _ => False) w1, s.val.cell? ⟨w.heap.size, 6, none⟩ = some (.float .f64 0) := MStep.cell hel1 id (by simp [World.cell?, he1])
  have e7 : ∀ s : MStep (fun _ => False) w1, s.val.cell? ⟨w.heap.size, 7, none⟩ = some (.string ⟨#[]⟩) := MStep.cell hel1 id (by simp [World.cell?, he1])
  have hnx := fun W2 (hb : Below w1.heap.size w1 W2) => hN W2 (belowTrans hB1 hb)
  clear hu1 hb1 he hrb hel hrl hB
  clear W
  go_cut [8] (fun u wx => NewO (op0 c 1) w1 u wx)
  case first =>
    have bz : ∀ W : World, OpBox (W.alloc (.cells (encOp opZero).toArray 35)).drew W.heap.size opZero := fun W => OpBox.drew (OpBox.new W opZero)
    refine wp_region_flow7 (.rd [0, 1, 2, 5, 6] (.two 3 (.rd [4] (.two 7 (.rd [8] (.one 9 (.one 10 .nil))) 9 (.one 7 (.rd [8] (.one 10 .nil))))) 9 (.one 3 (.rd [4] (.one 7 (.rd [8] (.one 10 .nil))))))) (fun w' => ∃ s : MStep (fun _ => False) w1, w' = s.val) (by kernel_rfl) (by kernel_rfl) (fun _ _ d _ _ h => by cases d <;> exact h) (MStep.to (Mods.refl _ _).drew) ?_
    refine wpRT_rd ?_
    simp only [List.map_cons, List.map_nil, List.getElem?_toArray, List.getElem?_cons_succ, List.getElem?_cons_zero, Option.getD_some]
    repeat (first | go_big_quiet_skip | (go_big_quiet_want; first | (fail; go_frame; go_big_quiet_on) | (go_big_quiet_op; go_big_quiet_on)))
    refine wpQuiet_nil ?_
    have hb0 : Below w1.heap.size w1 w1.drew := (Below.refl _ _).drew
    refine wpRT_two ?_ ?_
    · refine wpRT_one rfl ?_; simp only [List.getElem_toArray, List.getElem_cons_succ, List.getElem_cons_zero]
      go_wp2_with (go_at_call 12; refine (hnx w1.drew hb0).mono ?_; rintro e w2 ⟨rfl, hb2'⟩)
      have hb2 := belowTrans hb0 hb2'
      refine ⟨MStep.to (Mods.of_below hb2), ?_⟩
      refine wpRT_rd ?_
      simp only [List.map_cons, List.map_nil, List.getElem?_toArray, List.getElem?_cons_succ, List.getElem?_cons_zero, Option.getD_some]
      repeat (first | go_big_quiet_skip | (go_big_quiet_want; first | (fail; go_frame; go_big_quiet_on) | (go_big_quiet_op; go_big_quiet_on)))
      refine wpQuiet_nil ?_
      refine wpRT_two ?_ ?_
      · refine wpRT_one rfl ?_; simp only [List.getElem_toArray, List.getElem_cons_succ, List.getElem_cons_zero]
        go_wp2_with (go_at_call 42; refine (hcl _).mono ?_; rintro e w3 ⟨rfl, hb3'⟩)
        have hb3 := belowTrans hb2 hb3'
        refine ⟨MStep.to (Mods.of_below hb3), ?_⟩
        refine wpRT_rd ?_
        simp only [List.map_cons, List.map_nil, List.getElem?_toArray, List.getElem?_cons_succ, List.getElem?_cons_zero, Option.getD_some]
        repeat (first | go_big_quiet_skip | (go_big_quiet_want; first | (fail; go_frame; go_big_quiet_on) | (go_big_quiet_op; go_big_quiet_on)))
        refine wpQuiet_nil ?_
        refine wpRT_one rfl ?_; simp only [List.getElem_toArray, List.getElem_cons_succ, List.getElem_cons_zero]
        go_wp2
        refine ⟨MStep.to ((Mods.of_below hb3).alloc _), ?_⟩
        refine wpRT_one rfl ?_; simp only [List.getElem_toArray, List.getElem_cons_succ, List.getElem_cons_zero]
        have hfin : NewO (op0 c 1) w1 (.pointer (some ⟨w3.heap.size, 0, none⟩)) (putOp (w3.alloc (.cells (encOp opZero).toArray 35)) w3.heap.size (op0 c 1)) := ⟨_, rfl, (OpBox.new w3 opZero).put _, hb3.size, below_putOp (hb3.alloc hb3.size _) hb3.size _⟩
        go_wp2_with (refine wpList_store_eq (T := 35) (v := opV (op0 c 1)) rfl rfl rfl rfl (OpBox.store (OpBox.new w3 opZero) (op0 c 1)) ?_)
        refine ⟨MStep.to (Mods.of_below (below_putOp (hb3.alloc hb3.size _) hb3.size _)), ?_⟩
        refine wpRT_nil ?_
        go_wp2
        go_meet
        exact hfin
      · refine wpRT_one rfl ?_; simp only [List.getElem_toArray, List.getElem_cons_succ, List.getElem_cons_zero]
        go_wp2
        have hbx2 : OpBox (w2.alloc (.cells (encOp opZero).toArray 35)) w2.heap.size opZero := OpBox.new w2 opZero
        have hb3 : Below w1.heap.size w1 (w2.alloc (.cells (encOp opZero).toArray 35)) := hb2.alloc hb2.size _
        refine ⟨MStep.to (Mods.of_below hb3), ?_⟩
        change wpRT _ _ _ _ _ _ (w2.alloc (.cells (encOp opZero).toArray 35))
        have hlx := hbx2.lt
        have hlz := hb2.size
        generalize w2.alloc (.cells (encOp opZero).toArray 35) = W3 at hbx2 hb3 hlx ⊢
        generalize w2.heap.size = Z at hbx2 hlx hlz ⊢
        refine wpRT_one rfl ?_; simp only [List.getElem_toArray, List.getElem_cons_succ, List.getElem_cons_zero]
        go_wp2_with (go_at_call 42; refine (hcl _).mono ?_; rintro e w4 ⟨rfl, hb4'⟩)
        have hb4 := belowTrans hb3 hb4'
        have hbx4 := hbx2.below hb4' hlx
        refine ⟨MStep.to (Mods.of_below hb4), ?_⟩
        refine wpRT_rd ?_
        simp only [List.map_cons, List.map_nil, List.getElem?_toArray, List.getElem?_cons_succ, List.getElem?_cons_zero, Option.getD_some]
        repeat (first | go_big_quiet_skip | (go_big_quiet_want; first | (fail; go_frame; go_big_quiet_on) | (go_big_quiet_op; go_big_quiet_on)))
        refine wpQuiet_nil ?_
        have hfin : NewO (op0 c 1) w1 (.pointer (some ⟨Z, 0, none⟩)) (putOp w4 Z (op0 c 1)) := ⟨_, rfl, hbx4.put _, hlz, below_putOp hb4 hlz _⟩
        refine wpRT_one rfl ?_; simp only [List.getElem_toArray, List.getElem_cons_succ, List.getElem_cons_zero]
        go_wp2_with (refine wpList_store_eq (T := 35) (v := opV (op0 c 1)) rfl rfl rfl rfl (OpBox.store hbx4 (op0 c 1)) ?_)
        refine ⟨MStep.to (Mods.of_below (below_putOp hb4 hlz _)), ?_⟩
        refine wpRT_nil ?_
        go_wp2
        go_meet
        exact hfin
    · refine wpRT_one rfl ?_; simp only [List.getElem_toArray, List.getElem_cons_succ, List.getElem_cons_zero]
      go_wp2
      have hbx2 : OpBox (w1.alloc (.cells (encOp opZero).toArray 35)).drew w1.heap.size opZero := bz w1
      have hb2 : Below w1.heap.size w1 (w1.alloc (.cells (encOp opZero).toArray 35)).drew := ((Below.refl _ _).alloc (Nat.le_refl _) _).drew
      refine ⟨MStep.to (Mods.of_below hb2), ?_⟩
      change wpRT _ _ _ _ _ _ (w1.alloc (.cells (encOp opZero).toArray 35)).drew
      have hlx := hbx2.lt
      have hlz := Nat.le_refl w1.heap.size
      generalize (w1.alloc (.cells (encOp opZero).toArray 35)).drew = W2 at hbx2 hb2 hlx ⊢
      obtain ⟨Z, hZ⟩ : ∃ Z, w1.heap.size = Z := ⟨_, rfl⟩
      rw [hZ] at hbx2 hlx ⊢
      have HZ := Lib.hid hZ
      clear hZ hlz
      refine wpRT_one rfl ?_; simp only [List.getElem_toArray, List.getElem_cons_succ, List.getElem_cons_zero]
      go_wp2_with (go_at_call 12; refine (hnx W2 hb2).mono ?_; rintro e w3 ⟨rfl, hb3'⟩)
      have hb3 := belowTrans hb2 hb3'
      have hbx3 := hbx2.below hb3' hlx
      refine ⟨MStep.to (Mods.of_below hb3), ?_⟩
      refine wpRT_rd ?_
      simp only [List.map_cons, List.map_nil, List.getElem?_toArray, List.getElem?_cons_succ, List.getElem?_cons_zero, Option.getD_some]
      repeat (first | go_big_quiet_skip | (go_big_quiet_want; first | (fail; go_frame; go_big_quiet_on) | (go_big_quiet_op; go_big_quiet_on)))
      refine wpQuiet_nil ?_
      have hlx3 := hbx3.lt
      refine wpRT_one rfl ?_; simp only [List.getElem_toArray, List.getElem_cons_succ, List.getElem_cons_zero]
      go_wp2_with (go_at_call 42; refine (hcl _).mono ?_; rintro e w4 ⟨rfl, hb4'⟩)
      have hb4 := belowTrans hb3 hb4'
      have hbx4 := hbx3.below hb4' hlx3
      refine ⟨MStep.to (Mods.of_below hb4), ?_⟩
      refine wpRT_rd ?_
      simp only [List.map_cons, List.map_nil, List.getElem?_toArray, List.getElem?_cons_succ, List.getElem?_cons_zero, Option.getD_some]
      repeat (first | go_big_quiet_skip | (go_big_quiet_want; first | (fail; go_frame; go_big_quiet_on) | (go_big_quiet_op; go_big_quiet_on)))
      refine wpQuiet_nil ?_
      have hfin : NewO (op0 c 1) w1 (.pointer (some ⟨Z, 0, none⟩)) (putOp w4 Z (op0 c 1)) := ⟨_, rfl, hbx4.put _, Nat.le_of_eq HZ.out, below_putOp hb4 (Nat.le_of_eq HZ.out) _⟩
      refine wpRT_one rfl ?_; simp only [List.getElem_toArray, List.getElem_cons_succ, List.getElem_cons_zero]
      go_wp2_with (refine wpList_store_eq (T := 35) (v := opV (op0 c 1)) rfl rfl rfl rfl (OpBox.store hbx4 (op0 c 1)) ?_)
      refine ⟨MStep.to (Mods.of_below (below_putOp hb4 (Nat.le_of_eq HZ.out) _)), ?_⟩
      refine wpRT_nil ?_
      go_wp2
      go_meet
      exact hfin
  case rest =>
    obtain ⟨ob, rfl, hbx, hob, hbc⟩ := hcut
    have hBc := belowTrans hB1 hbc
    have hec := (hbc.block _ hel1).trans he1
    have hrc : updBox wc (w.heap.size + 1) := (hbc.block _ (Array.getElem?_eq_some_iff.1 hrb1).1).trans hrb1
    have hrl1 := (Array.getElem?_eq_some_iff.1 hrb1).1
    clear hnx he1 hrb1 e4 e5 e6 e7 hN hcl
    obtain ⟨h1, h2, h3⟩ := okT_iff ht
    have hv : ∀ w, Tabs w → Calls Tryz.prog 44 #[.string t] w fun e w' => e = .returned (.bool true) ∧ Below w.heap.size w w' := fun w hT => by have := utfCheck_any t w (by omega) hT; rwa [h1] at this
    have hl := fun w hT => utfLen_any t w (by omega) hT
    have htn : t.toList.isEmpty = false := by
      rw [Lib.toList_data, List.isEmpty_eq_false_iff]
      exact nonempty_bytes h2
    have hln : ¬ (4096 : Int) < ((runesB t).length : Int) := by omega
    have hTc := hT.below hBc
    have x0 : wc.cell? ⟨w.heap.size, 0, none⟩ = some (.int .i64 1) := by simp [World.cell?, hec]
    have x1 : wc.cell? ⟨w.heap.size, 1, none⟩ = some (.int .i64 0) := by simp [World.cell?, hec]
    have o2 : wc.cell? ⟨ob, 2, none⟩ = some (.int .i64 0) := hbx.cells 2 _ rfl
    have f2 := hbx.f 2
    have hobl := hbx.lt
    clear h1 h2 h3
    go_upto_region 11 with fail
    have hbx2 : OpBox (wc.setCell ⟨ob, 2, none⟩ (.int .i64 2)) ob (opK c 1 2) := hbx.setG rfl
    have hec2 : (wc.setCell ⟨ob, 2, none⟩ (.int .i64 2)).heap[w.heap.size]? = some (.cells #[.int .i64 1, .int .i64 0, .int .i64 0, .string t, .int .i64 0, .int .i64 0, .float .f64 0, .string ⟨#[]⟩, .string ⟨#[]⟩, .slice none 0 0] 48 (0, 0)) := (Below.heap_setCell _ _ _ _ (by show ¬ w.heap.size = ob; omega)).trans hec
    have hrc2 : updBox (wc.setCell ⟨ob, 2, none⟩ (.int .i64 2)) (w.heap.size + 1) := (Below.heap_setCell _ _ _ _ (by show ¬ w.heap.size + 1 = ob; omega)).trans hrc
    have hB2 : Below w.heap.size w (wc.setCell ⟨ob, 2, none⟩ (.int .i64 2)) := hBc.setCell (p := ⟨ob, 2, none⟩) (by show w.heap.size ≤ ob; omega) _
    clear x0 x1 o2 f2 hec hrc hbx hBc hbc hTc
    have hobw := hbx2.lt
    generalize wc.setCell ⟨ob, 2, none⟩ (.int .i64 2) = W2 at hbx2 hec2 hrc2 hB2 hobw ⊢
    have x0 : W2.cell? ⟨w.heap.size, 0, none⟩ = some (.int .i64 1) := by simp [World.cell?, hec2]
    have x3 : W2.cell? ⟨w.heap.size, 3, none⟩ = some (.string t) := by simp [World.cell?, hec2]
    have hel2 := (Array.getElem?_eq_some_iff.1 hec2).1
    have hT2 := hT.below hB2
    go_upto_region 15 with (first | (go_at_call 44; refine (hv _ hT2).mono ?_; rintro e w3 ⟨rfl, hb3⟩; have x3' := (hb3.cell (p := ⟨w.heap.size, 3, none⟩) hel2).trans x3) | (go_at_call 45; refine (hl _ (hT2.below hb3)).mono ?_; rintro e w4 ⟨rfl, hb4⟩))
    have hb34 := belowTrans hb3 hb4
    have hB4 := belowTrans hB2 hb34
    have hbx4 := hbx2.below hb34 hobw
    have hec4 := (hb34.block _ hel2).trans hec2
    have hrc4 : updBox w4 (w.heap.size + 1) := (hb34.block _ (Array.getElem?_eq_some_iff.1 hrc2).1).trans hrc2
    clear x0 x3 x3' hb3 hb4 hb34 hec2 hrc2 hbx2 hB2 hobw hel2 hT2 hv hl htn hln
    have hobw := hbx4.lt
    have hel4 := (Array.getElem?_eq_some_iff.1 hec4).1
    have y3 : ∀ s : MStep (fun b => b = ob) w4, s.val.cell? ⟨w.heap.size, 3, none⟩ = some (.string t) := MStep.cell hel4 (by show ¬ w.heap.size = ob; omega) (by simp [World.cell?, hec4])
    have o2 : w4.cell? ⟨ob, 2, none⟩ = some (.int .i64 2) := hbx4.cells 2 _ rfl
    have f2 := hbx4.f 2
    refine wp_region_flow7 (.rd [0, 1, 2, 3] (.one 4 (.rd [5] (.one 6 (.rd [7] (.one 8 .nil)))))) (fun w' => ∃ s : MStep (fun b => b = ob) w4, w' = s.val) (by kernel_rfl) (by kernel_rfl) (fun _ _ d _ _ h => by cases d <;> exact h) (MStep.to (Mods.refl _ _).drew) ?_
    refine wpRT_rd ?_
    simp only [List.map_cons, List.map_nil, List.getElem?_toArray, List.getElem?_cons_succ, List.getElem?_cons_zero, Option.getD_some]
    repeat (first | go_big_quiet_skip | (go_big_quiet_want; first | (fail; go_frame; go_big_quiet_on) | (go_big_quiet_op; go_big_quiet_on)))
    refine wpQuiet_nil ?_
    refine wpRT_one rfl ?_; simp only [List.getElem_toArray, List.getElem_cons_succ, List.getElem_cons_zero]
    go_wp2
    have hbx5 : OpBox (w4.setCell ⟨ob, 2, none⟩ (.int .i64 1)).drew ob (opK c 1 1) := OpBox.drew (hbx4.setG rfl)
    have hM5 : Mods (fun b => b = ob) w4 (w4.setCell ⟨ob, 2, none⟩ (.int .i64 1)).drew := ((Mods.refl (fun b => b = ob) w4).setC (p := ⟨ob, 2, none⟩) (.inl rfl) _).drew
    refine ⟨MStep.to hM5, ?_⟩
    generalize (w4.setCell ⟨ob, 2, none⟩ (.int .i64 1)).drew = W5 at hbx5 hM5 ⊢
    refine wpRT_rd ?_
    simp only [List.map_cons, List.map_nil, List.getElem?_toArray, List.getElem?_cons_succ, List.getElem?_cons_zero, Option.getD_some]
    repeat (first | go_big_quiet_skip | (go_big_quiet_want; first | (fail; go_frame; go_big_quiet_on) | (go_big_quiet_op; go_big_quiet_on)))
    refine wpQuiet_nil ?_
    have o8 : W5.cell? ⟨ob, 8, none⟩ = some (.string ⟨#[]⟩) := hbx5.cells 8 _ rfl
    have f8 := hbx5.f 8
    refine wpRT_one rfl ?_; simp only [List.getElem_toArray, List.getElem_cons_succ, List.getElem_cons_zero]
    go_wp2
    have hbx6 : OpBox (W5.setCell ⟨ob, 8, none⟩ (.string t)) ob (tOp ⟨c, 1⟩ idZero idZero t) := hbx5.setG rfl
    have hM6 : Mods (fun b => b = ob) w4 (W5.setCell ⟨ob, 8, none⟩ (.string t)) := hM5.setC (p := ⟨ob, 8, none⟩) (.inl rfl) _
    refine ⟨MStep.to hM6, ?_⟩
    generalize W5.setCell ⟨ob, 8, none⟩ (.string t) = W6 at hbx6 hM6 ⊢
    refine wpRT_rd ?_
    simp only [List.map_cons, List.map_nil, List.getElem?_toArray, List.getElem?_cons_succ, List.getElem?_cons_zero, Option.getD_some]
    repeat (first | go_big_quiet_skip | (go_big_quiet_want; first | (fail; go_frame; go_big_quiet_on) | (go_big_quiet_op; go_big_quiet_on)))
    refine wpQuiet_nil ?_
    have v9 : W6.cell? ⟨ob, 9, none⟩ = some (.int .i64 0) := hbx6.cells 9 _ rfl
    have v10 : W6.cell? ⟨ob, 10, none⟩ = some (.int .i64 0) := hbx6.cells 10 _ rfl
    have v11 : W6.cell? ⟨ob, 11, none⟩ = some (.float .f64 0) := hbx6.cells 11 _ rfl
    have v12 : W6.cell? ⟨ob, 12, none⟩ = some (.string ⟨#[]⟩) := hbx6.cells 12 _ rfl
    have g9 := hbx6.f 9
    have g10 := hbx6.f 10
    have g11 := hbx6.f 11
    have g12 := hbx6.f 12
    have hsf := store_float
    clear o2 f2 o8 f8 hbx5 hM5 hbx4
    refine wpRT_one rfl ?_; simp only [List.getElem_toArray, List.getElem_cons_succ, List.getElem_cons_zero]
    go_wp2
    have hbx7 := hbx6.setVz
    have hM7 : Mods (fun b => b = ob) w4 ((((W6.setCell ⟨ob, 9, none⟩ (.int .i64 0)).setCell ⟨ob, 10, none⟩ (.int .i64 0)).setCell ⟨ob, 11, none⟩ (.float .f64 0)).setCell ⟨ob, 12, none⟩ (.string ⟨#[]⟩)) := (((hM6.setC (p := ⟨ob, 9, none⟩) (.inl rfl) _).setC (p := ⟨ob, 10, none⟩) (.inl rfl) _).setC (p := ⟨ob, 11, none⟩) (.inl rfl) _).setC (p := ⟨ob, 12, none⟩) (.inl rfl) _
    refine ⟨MStep.to hM7, ?_⟩
    refine wpRT_nil ?_
    generalize (((W6.setCell ⟨ob, 9, none⟩ (.int .i64 0)).setCell ⟨ob, 10, none⟩ (.int .i64 0)).setCell ⟨ob, 11, none⟩ (.float .f64 0)).setCell ⟨ob, 12, none⟩ (.string ⟨#[]⟩) = W7 at hbx7 hM7 ⊢
    clear v9 v10 v11 v12 g9 g10 g11 g12 hbx6 hM6 y3 hsf
    have hB7 : Below w.heap.size w W7 := ⟨hM7.os.trans hB4.os, hM7.tape.trans hB4.tape, hM7.output.trans hB4.output, Nat.le_trans hB4.size hM7.size, fun k hk => (hM7.block k (Nat.lt_of_lt_of_le hk hB4.size) (by omega)).trans (hB4.block k hk)⟩
    have hec7 := (hM7.block _ hel4 (by omega)).trans hec4
    have hrc7 : updBox W7 (w.heap.size + 1) := (hM7.block _ (Array.getElem?_eq_some_iff.1 hrc4).1 (by omega)).trans hrc4
    have hel7 := (Array.getElem?_eq_some_iff.1 hec7).1
    have z1 : W7.cell? ⟨w.heap.size, 1, none⟩ = some (.int .i64 0) := by simp [World.cell?, hec7]
    have hor := origins_none n kl wl hv vv st none 0 0 W7 (hd.keep fun b g => hB7.block b (by omega)) (hs.keep fun b g => hB7.block b (by omega))
    simp only [show idZero.c = 0 from rfl, show idZero.k = 0 from rfl] at hor
    have hobl7 := hbx7.lt
    clear hec4 hrc4 hB4 hM7
    go_upto_region 43 with (go_at_call 46; refine hor.mono ?_; rintro e w8 ⟨rfl, hb8⟩; have hbx8 := hbx7.below hb8 hobl7; have v4 : w8.cell? ⟨ob, 4, none⟩ = some (.int .u64 0) := hbx8.cells 4 _ rfl; have v5 : w8.cell? ⟨ob, 5, none⟩ = some (.int .u64 0) := hbx8.cells 5 _ rfl; have v6 : w8.cell? ⟨ob, 6, none⟩ = some (.int .u64 0) := hbx8.cells 6 _ rfl; have v7 : w8.cell? ⟨ob, 7, none⟩ = some (.int .u64 0) := hbx8.cells 7 _ rfl; have g4 := hbx8.f 4; have g5 := hbx8.f 5; have g6 := hbx8.f 6; have g7 := hbx8.f 7)
    have hbx9 : OpBox ((((w8.setCell ⟨ob, 4, none⟩ (.int .u64 0)).setCell ⟨ob, 5, none⟩ (.int .u64 0)).setCell ⟨ob, 6, none⟩ (.int .u64 0)).setCell ⟨ob, 7, none⟩ (.int .u64 0)) ob (tOp ⟨c, 1⟩ idZero idZero t) := (hbx8.setL idZero).setR idZero
    have hB9 : Below w.heap.size w ((((w8.setCell ⟨ob, 4, none⟩ (.int .u64 0)).setCell ⟨ob, 5, none⟩ (.int .u64 0)).setCell ⟨ob, 6, none⟩ (.int .u64 0)).setCell ⟨ob, 7, none⟩ (.int .u64 0)) := by
      have h := belowTrans hB7 hb8
      have ho : w.heap.size ≤ ob := by omega
      exact (((h.setCell (p := ⟨ob, 4, none⟩) ho _).setCell (p := ⟨ob, 5, none⟩) ho _).setCell (p := ⟨ob, 6, none⟩) ho _).setCell (p := ⟨ob, 7, none⟩) ho _
    have hrc9 : updBox ((((w8.setCell ⟨ob, 4, none⟩ (.int .u64 0)).setCell ⟨ob, 5, none⟩ (.int .u64 0)).setCell ⟨ob, 6, none⟩ (.int .u64 0)).setCell ⟨ob, 7, none⟩ (.int .u64 0)) (w.heap.size + 1) := by
      have hne : ¬ w.heap.size + 1 = ob := by omega
      exact (Below.heap_setCell _ _ _ _ hne).trans ((Below.heap_setCell _ _ _ _ hne).trans ((Below.heap_setCell _ _ _ _ hne).trans ((Below.heap_setCell _ _ _ _ hne).trans ((hb8.block _ (Array.getElem?_eq_some_iff.1 hrc7).1).trans hrc7))))
    clear v4 v5 v6 v7 g4 g5 g6 g7 z1 hor hec7 hrc7 hel7 hbx7 hbx8 hB7
    generalize (((w8.setCell ⟨ob, 4, none⟩ (.int .u64 0)).setCell ⟨ob, 5, none⟩ (.int .u64 0)).setCell ⟨ob, 6, none⟩ (.int .u64 0)).setCell ⟨ob, 7, none⟩ (.int .u64 0) = W9 at hbx9 hB9 hrc9 ⊢
    obtain ⟨_, h2, h3⟩ := okT_iff ht
    have hrg := fun W hT => opsRange_any (tOp ⟨c, 1⟩ idZero idZero t) W (by show t.size < _; omega) (by show (0 : Int) ≤ 1; decide) (by rw [tOp_len]; show (1 : Int) + ((runesB t).length : Nat) < _; omega) hT
    rw [tOp_rng] at hrg
    unfold tRng at hrg
    dsimp only at hrg
    obtain ⟨N, hN⟩ : ∃ N, (runesB t).length = N := ⟨_, rfl⟩
    rw [hN] at hrg h3
    have eN : (1 : Int) + N - 1 = N := by omega
    have hdN : decide ((9007199254740991 : Int) < (N : Int)) = false := by simp; omega
    clear hN h2
    have st3 : W9.cell? ⟨ob, 3, none⟩ = some (.int .u64 (0)) := hbx9.cells 3 _ rfl
    have hfd : ∀ (a b d : Int) (w : World), (Instr.field 95 (.agg #[.int .u64 a, .int .u64 b, .int .u64 d]) 2).run Tryz.prog w = .ok (.int .u64 d) w := fun _ _ _ _ => by kernel_rfl
    have hT9 := hT.below hB9
    have hobl9 := hbx9.lt
    have hrl9 := (Array.getElem?_eq_some_iff.1 hrc9).1
    go_upto_region 45 with (first | (refine wpList_load_eq (T := 35) (v := opV (tOp ⟨c, 1⟩ idZero idZero t)) rfl rfl rfl hbx9.load ?_) | (go_at_call 31; refine (hrg W9 hT9).mono ?_; rintro e w10 ⟨rfl, hb10⟩; have st3' := (hb10.cell (p := ⟨ob, 3, none⟩) hobl9).trans st3))
    have hbx10 := hbx9.below hb10 hobl9
    have hB10 := belowTrans hB9 hb10
    have hrc10 : updBox w10 (w.heap.size + 1) := (hb10.block _ hrl9).trans hrc9
    clear st3 st3' hbx9 hrc9 hT9
    have hz10 := hB10.size
    have hlo10 := hb10.size
    have hrc11 : updBox (w10.alloc (.cells (encOp (tOp ⟨c, 1⟩ idZero idZero t)).toArray 35)) (w.heap.size + 1) := (Below.heap_alloc _ _ _ (by omega)).trans hrc10
    have hbx11 : OpBox (w10.alloc (.cells (encOp (tOp ⟨c, 1⟩ idZero idZero t)).toArray 35)) w10.heap.size (tOp ⟨c, 1⟩ idZero idZero t) := OpBox.new w10 (tOp ⟨c, 1⟩ idZero idZero t)
    have hB11 : Below w.heap.size w (w10.alloc (.cells (encOp (tOp ⟨c, 1⟩ idZero idZero t)).toArray 35)) := hB10.alloc hB10.size _
    have hu11 := hrc11
    unfold updBox at hu11
    have u0 : (w10.alloc (.cells (encOp (tOp ⟨c, 1⟩ idZero idZero t)).toArray 35)).cell? ⟨w.heap.size + 1, 0, none⟩ = some (.slice none 0 0) := by simp only [World.cell?, hu11]; simp
    have u1 : (w10.alloc (.cells (encOp (tOp ⟨c, 1⟩ idZero idZero t)).toArray 35)).cell? ⟨w.heap.size + 1, 1, none⟩ = some (.slice none 0 0) := by simp only [World.cell?, hu11]; simp
    have uf : (w10.alloc (.cells (encOp (tOp ⟨c, 1⟩ idZero idZero t)).toArray 35)).frozen? ⟨w.heap.size + 1, 0, none⟩ = false := by simp only [World.frozen?, hu11]; simp
    have uf1 : (w10.alloc (.cells (encOp (tOp ⟨c, 1⟩ idZero idZero t)).toArray 35)).frozen? ⟨w.heap.size + 1, 1, none⟩ = false := by simp only [World.frozen?, hu11]; simp
    obtain ⟨W11, hW11⟩ : ∃ W11, w10.alloc (.cells (encOp (tOp ⟨c, 1⟩ idZero idZero t)).toArray 35) = W11 := ⟨_, rfl⟩
    rw [hW11] at hrc11 hbx11 hB11 hu11 u0 u1 uf uf1
    go_wp2_with (first | (refine wpList_load_eq (T := 35) (v := opV (tOp ⟨c, 1⟩ idZero idZero t)) rfl rfl rfl hbx10.load ?_) | (refine wpList_sliceOp (tOp ⟨c, 1⟩ idZero idZero t) rfl _ rfl rfl ?_; rw [hW11]; clear hW11))
    have a0 : ((W11.setCell ⟨w.heap.size + 1, 0, none⟩ (.slice (some ⟨w10.heap.size, 0, none⟩) 1 1)).setCell ⟨w.heap.size + 1, 1, none⟩ (.slice none 0 0)).cell? ⟨w.heap.size + 1, 0, none⟩ = some (.slice (some ⟨w10.heap.size, 0, none⟩) 1 1) := by simp [World.cell?, World.setCell, Array.getElem?_modify, hu11]
    have a1 : ((W11.setCell ⟨w.heap.size + 1, 0, none⟩ (.slice (some ⟨w10.heap.size, 0, none⟩) 1 1)).setCell ⟨w.heap.size + 1, 1, none⟩ (.slice none 0 0)).cell? ⟨w.heap.size + 1, 1, none⟩ = some (.slice none 0 0) := by simp [World.cell?, World.setCell, Array.getElem?_modify, hu11]
    have hbx12 : OpBox ((W11.setCell ⟨w.heap.size + 1, 0, none⟩ (.slice (some ⟨w10.heap.size, 0, none⟩) 1 1)).setCell ⟨w.heap.size + 1, 1, none⟩ (.slice none 0 0)) w10.heap.size (tOp ⟨c, 1⟩ idZero idZero t) := (Below.heap_setCell _ _ _ _ (by show ¬ w10.heap.size = w.heap.size + 1; omega)).trans ((Below.heap_setCell _ _ _ _ (by show ¬ w10.heap.size = w.heap.size + 1; omega)).trans hbx11)
    have hB12 := (hB11.setCell (p := ⟨w.heap.size + 1, 0, none⟩) (by show w.heap.size ≤ w.heap.size + 1; omega) (.slice (some ⟨w10.heap.size, 0, none⟩) 1 1)).setCell (p := ⟨w.heap.size + 1, 1, none⟩) (by show w.heap.size ≤ w.heap.size + 1; omega) (.slice none 0 0)
    refine bodyPost_ret (v := .agg #[.slice (some ⟨w10.heap.size, 0, none⟩) 1 1, .slice none 0 0]) ?_ rfl (⟨_, rfl, hbx12.cells, hz10, hbx12.lt, hB12⟩)
    simp [results, Tryz.results26, go_sem, a0, a1]
end Go.Proofs.YthhbiliimdpgmaaGreatDoor
