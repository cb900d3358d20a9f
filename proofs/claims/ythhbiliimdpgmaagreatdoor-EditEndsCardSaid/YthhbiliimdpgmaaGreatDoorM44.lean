/- Walks: edit.span of a right span; edit.made of a deletion in the document of the text "ab". -/
import Derived.Test.YthhbiliimdpgmaaGreatDoorM43
import Derived.Test.YthhbiliimdpgmaaGreatDoorM29
import Derived.Test.YthhbiliimdpgmaaGreatDoorM37
namespace Go.Proofs.YthhbiliimdpgmaaGreatDoor
open Go.RowKit Go.Shelf Go.Lib

theorem span_one (w : World) : Calls Tryz.prog 47 #[edV 3 1 1 ⟨#[]⟩ valZero ⟨#[]⟩ (.slice none 0 0), .int .i64 2] w fun e w' => e = .returned (.tuple #[]) ∧ Below w.heap.size w w' := by
  change Calls Tryz.prog 47 #[.agg #[.int .i64 3, .int .i64 1, .int .i64 1, .string ⟨#[]⟩, .int .i64 0, .int .i64 0, .float .f64 0, .string ⟨#[]⟩, .string ⟨#[]⟩, .slice none 0 0], .int .i64 2] w _
  go_enter Tryz.func47, Tryz.ntmps47
  go_wp2
  go_end0
  exact ⟨rfl, by (repeat (first | exact Below.refl _ _ | assumption | refine Below.alloc ?_ (by simp <;> omega) _ | refine Below.drew ?_ | refine below_drewN ?_ _ | refine Below.setCell ?_ (by simp <;> omega) _ | refine belowTrans ?_ (by assumption)))⟩
/-- the turn that the deletion lays. -/
def tD : QTurn := ⟨7, 2, 3, 1⟩
def MadeD (w : World) (e : Ending) (w' : World) : Prop := ∃ v, e = .returned (.agg #[.slice none 0 0, v]) ∧ OwnAt w.heap.size 54 4 encTurn w' v [tD] ∧ Below w.heap.size w w'
set_option maxRecDepth 100000 in
set_option maxHeartbeats 4000000 in
theorem made_delete (n : Nat) (k : Int) (kl : List (Int × Value)) (wl : List (QId × Value)) (hv vv : Value) (st : Int) (sv : Value) (bs : List Nat) (w : World) (hd : DocC n w kl wl hv vv st) (ha : AllA n sv bs [u71, u72] w)
    (hN : ∀ W, Below w.heap.size w W → Calls Tryz.prog 12 #[.pointer (some ⟨n + 11, 0, none⟩), .int .u64 8] W fun e w' => e = .returned (.int .u64 k) ∧ Below W.heap.size W w') :
    Calls Tryz.prog 26 #[.pointer (some ⟨n + 11, 0, none⟩), .int .u64 8, edV 3 1 1 ⟨#[]⟩ valZero ⟨#[]⟩ (.slice none 0 0)] w (MadeD w) := by
  have hdl := hd.lt
  have hun := fun W (hb : Below w.heap.size w W) => units_any n kl wl hv vv st sv bs [u71, u72] W (hd.keep fun b g => hb.block b (by omega)) (ha.below hb) (by simp)
  have hcl : ∀ W, Calls Tryz.prog 42 #[.agg #[.int .i64 0, .int .i64 0, .float .f64 0, .string ⟨#[]⟩]] W fun e w' => e = .returned (.agg #[.int .i64 0, .int .i64 0, .float .f64 0, .string ⟨#[]⟩]) ∧ Below W.heap.size W w' := valClean_any valZero
  change Calls Tryz.prog 26 #[.pointer (some ⟨n + 11, 0, none⟩), .int .u64 _, .agg #[.int .i64 3, .int .i64 1, .int .i64 1, .string ⟨#[]⟩, .int .i64 0, .int .i64 0, .float .f64 0, .string ⟨#[]⟩, .string ⟨#[]⟩, .slice none 0 0]] w _
  go_enter Tryz.func26, Tryz.ntmps26
  go_upto_region 3 with fail
  have hB : Below w.heap.size w ((w.alloc (.cells #[.int .i64 3, .int .i64 1, .int .i64 1, .string ⟨#[]⟩, .int .i64 0, .int .i64 0, .float .f64 0, .string ⟨#[]⟩, .string ⟨#[]⟩, .slice none 0 0] 48)).alloc (.cells #[.slice none 0 0, .slice none 0 0] 42)) := by (repeat (first | exact Below.refl _ _ | assumption | refine Below.alloc ?_ (by simp <;> omega) _ | refine Below.drew ?_ | refine below_drewN ?_ _ | refine Below.setCell ?_ (by simp <;> omega) _ | refine belowTrans ?_ (by assumption)))
  have he : ((w.alloc (.cells #[.int .i64 3, .int .i64 1, .int .i64 1, .string ⟨#[]⟩, .int .i64 0, .int .i64 0, .float .f64 0, .string ⟨#[]⟩, .string ⟨#[]⟩, .slice none 0 0] 48)).alloc (.cells #[.slice none 0 0, .slice none 0 0] 42)).heap[w.heap.size]? = some (.cells #[.int .i64 3, .int .i64 1, .int .i64 1, .string ⟨#[]⟩, .int .i64 0, .int .i64 0, .float .f64 0, .string ⟨#[]⟩, .string ⟨#[]⟩, .slice none 0 0] 48 (0, 0)) := by rw [alloc_heap_if, if_neg (by simp), alloc_heap_if, if_pos rfl]
  have hrb : updBox ((w.alloc (.cells #[.int .i64 3, .int .i64 1, .int .i64 1, .string ⟨#[]⟩, .int .i64 0, .int .i64 0, .float .f64 0, .string ⟨#[]⟩, .string ⟨#[]⟩, .slice none 0 0] 48)).alloc (.cells #[.slice none 0 0, .slice none 0 0] 42)) (w.heap.size + 1) := by unfold updBox; rw [alloc_heap_if, if_pos (by simp)]
  generalize (w.alloc (.cells #[.int .i64 3, .int .i64 1, .int .i64 1, .string ⟨#[]⟩, .int .i64 0, .int .i64 0, .float .f64 0, .string ⟨#[]⟩, .string ⟨#[]⟩, .slice none 0 0] 48)).alloc (.cells #[.slice none 0 0, .slice none 0 0] 42) = W at hB he hrb ⊢
  have hu1 := hun W hB
  go_upto_region 4 with (go_at_call 41; refine hu1.mono ?_; rintro e w1 ⟨uv, rfl, ho1, hb1⟩; obtain ⟨up, uc, rfl⟩ : ∃ p c, uv = .slice p 2 c := ownsRow_len ho1; replace ho1 := ownsRow_base ho1 (Nat.zero_le _))
  have hB1 := belowTrans hB hb1
  have hel := (Array.getElem?_eq_some_iff.1 he).1
  have he1 := (hb1.block _ hel).trans he
  have hrl := (Array.getElem?_eq_some_iff.1 hrb).1
  have hrb1 : updBox w1 (w.heap.size + 1) := (hb1.block _ hrl).trans hrb
  have hel1 := (Array.getElem?_eq_some_iff.1 he1).1
  have e4 : ∀ s : MStep (fun _ => False) w1, s.val.cell? ⟨w.heap.size, 4, none⟩ = some (.int .i64 0) := MStep.cell hel1 id (by simp [World.cell?, he1])
  have e5 : ∀ s : MStep (fun _ => False) w1, s.val.cell? ⟨w.heap.size, 5, none⟩ = some (.int .i64 0) := MStep.cell hel1 id (by simp [World.cell?, he1])
  have e6 : ∀ s : MStep (fun _ => False) w1, s.val.cell? ⟨w.heap.size, 6, none⟩ = some (.float .f64 0) := MStep.cell hel1 id (by simp [World.cell?, he1])
  have e7 : ∀ s : MStep (fun _ => False) w1, s.val.cell? ⟨w.heap.size, 7, none⟩ = some (.string ⟨#[]⟩) := MStep.cell hel1 id (by simp [World.cell?, he1])
  have hnx := fun W2 (hb : Below w1.heap.size w1 W2) => hN W2 (belowTrans hB1 hb)
  clear hu1 hb1 he hrb hel hrl hB
  clear W
  go_cut [8] (fun u wx => NewO (op0 8 k) w1 u wx)
  case first =>
    have bz : ∀ W : World, OpBox (W.alloc (.cells (encOp opZero).toArray 35)).drew W.heap.size opZero := fun W => OpBox.drew (OpBox.new W opZero)
    refine wp_region_flow7 (.rd [0, 1, 2, 5, 6] (.two 3 (.rd [4] (.two 7 (.rd [8] (.one 9 (.one 10 .nil))) 9 (.one 7 (.rd [8] (.one 10 .nil))))) 9 (.one 3 (.rd [4] (.one 7 (.rd [8] (.one 10 .nil))))))) (fun w' => ∃ s : MStep (fun _ => False) w1, w' = s.val) (by kernel_rfl) (by kernel_rfl) (fun _ _ d _ _ h => by cases d <;> exact h) (MStep.to (Mods.refl _ _).drew) ?_
    refine wpRT_rd ?_
    simp only [List.map_cons, List.map_nil, List.getElem?_toArray, List.getElem?_cons_succ, List.getElem?_cons_zero, Option.getD_some]
    repeat (first | go_big_quiet_skip | (go_big_quiet_want; first | (fail; go_frame; go_big_quiet_on) | (go_big_quiet_op; go_big_quiet_on)))
    refine wpQuiet_nil ?_
    have hb0 : Below w1.heap.size w1 w1.drew := (Below.refl _ _).drew
    refine wpRT_two ?_ ?_
    · refine wpRT_one rfl ?_; simp only [List.getElem_toArray, List.getElem_cons_succ, List.getElem_cons_zero]
      go_wp2_with (go_at_call 12; refine (hnx w1.drew hb0).mono ?_; rintro e w2 ⟨rfl, hb2'⟩)
      have hb2 := belowTrans hb0 hb2'
      refine ⟨MStep.to (Mods.of_below hb2), ?_⟩
      refine wpRT_rd ?_
      simp only [List.map_cons, List.map_nil, List.getElem?_toArray, List.getElem?_cons_succ, List.getElem?_cons_zero, Option.getD_some]
      repeat (first | go_big_quiet_skip | (go_big_quiet_want; first | (fail; go_frame; go_big_quiet_on) | (go_big_quiet_op; go_big_quiet_on)))
      refine wpQuiet_nil ?_
      refine wpRT_two ?_ ?_
      · refine wpRT_one rfl ?_; simp only [List.getElem_toArray, List.getElem_cons_succ, List.getElem_cons_zero]
        go_wp2_with (go_at_call 42; refine (hcl _).mono ?_; rintro e w3 ⟨rfl, hb3'⟩)
        have hb3 := belowTrans hb2 hb3'
        refine ⟨MStep.to (Mods.of_below hb3), ?_⟩
        refine wpRT_rd ?_
        simp only [List.map_cons, List.map_nil, List.getElem?_toArray, List.getElem?_cons_succ, List.getElem?_cons_zero, Option.getD_some]
        repeat (first | go_big_quiet_skip | (go_big_quiet_want; first | (fail; go_frame; go_big_quiet_on) | (go_big_quiet_op; go_big_quiet_on)))
        refine wpQuiet_nil ?_
        refine wpRT_one rfl ?_; simp only [List.getElem_toArray, List.getElem_cons_succ, List.getElem_cons_zero]
        go_wp2
        refine ⟨MStep.to ((Mods.of_below hb3).alloc _), ?_⟩
        refine wpRT_one rfl ?_; simp only [List.getElem_toArray, List.getElem_cons_succ, List.getElem_cons_zero]
        have hfin : NewO (op0 8 k) w1 (.pointer (some ⟨w3.heap.size, 0, none⟩)) (putOp (w3.alloc (.cells (encOp opZero).toArray 35)) w3.heap.size (op0 8 k)) := ⟨_, rfl, (OpBox.new w3 opZero).put _, hb3.size, below_putOp (hb3.alloc hb3.size _) hb3.size _⟩
        go_wp2_with (refine wpList_store_eq (T := 35) (v := opV (op0 8 k)) rfl rfl rfl rfl (OpBox.store (OpBox.new w3 opZero) (op0 8 k)) ?_)
        refine ⟨MStep.to (Mods.of_below (below_putOp (hb3.alloc hb3.size _) hb3.size _)), ?_⟩
        refine wpRT_nil ?_
        go_wp2
        go_meet
        exact hfin
      · refine wpRT_one rfl ?_; simp only [List.getElem_toArray, List.getElem_cons_succ, List.getElem_cons_zero]
        go_wp2
        have hbx2 : OpBox (w2.alloc (.cells (encOp opZero).toArray 35)) w2.heap.size opZero := OpBox.new w2 opZero
        have hb3 : Below w1.heap.size w1 (w2.alloc (.cells (encOp opZero).toArray 35)) := hb2.alloc hb2.size _
        refine ⟨MStep.to (Mods.of_below hb3), ?_⟩
        change wpRT _ _ _ _ _ _ (w2.alloc (.cells (encOp opZero).toArray 35))
        have hlx := hbx2.lt
        have hlz := hb2.size
        generalize w2.alloc (.cells (encOp opZero).toArray 35) = W3 at hbx2 hb3 hlx ⊢
        generalize w2.heap.size = Z at hbx2 hlx hlz ⊢
        refine wpRT_one rfl ?_; simp only [List.getElem_toArray, List.getElem_cons_succ, List.getElem_cons_zero]
        go_wp2_with (go_at_call 42; refine (hcl _).mono ?_; rintro e w4 ⟨rfl, hb4'⟩)
        have hb4 := belowTrans hb3 hb4'
        have hbx4 := hbx2.below hb4' hlx
        refine ⟨MStep.to (Mods.of_below hb4), ?_⟩
        refine wpRT_rd ?_
        simp only [List.map_cons, List.map_nil, List.getElem?_toArray, List.getElem?_cons_succ, List.getElem?_cons_zero, Option.getD_some]
        repeat (first | go_big_quiet_skip | (go_big_quiet_want; first | (fail; go_frame; go_big_quiet_on) | (go_big_quiet_op; go_big_quiet_on)))
        refine wpQuiet_nil ?_
        have hfin : NewO (op0 8 k) w1 (.pointer (some ⟨Z, 0, none⟩)) (putOp w4 Z (op0 8 k)) := ⟨_, rfl, hbx4.put _, hlz, below_putOp hb4 hlz _⟩
        refine wpRT_one rfl ?_; simp only [List.getElem_toArray, List.getElem_cons_succ, List.getElem_cons_zero]
        go_wp2_with (refine wpList_store_eq (T := 35) (v := opV (op0 8 k)) rfl rfl rfl rfl (OpBox.store hbx4 (op0 8 k)) ?_)
        refine ⟨MStep.to (Mods.of_below (below_putOp hb4 hlz _)), ?_⟩
        refine wpRT_nil ?_
        go_wp2
        go_meet
        exact hfin
    · refine wpRT_one rfl ?_; simp only [List.getElem_toArray, List.getElem_cons_succ, List.getElem_cons_zero]
      go_wp2
      have hbx2 : OpBox (w1.alloc (.cells (encOp opZero).toArray 35)).drew w1.heap.size opZero := bz w1
      have hb2 : Below w1.heap.size w1 (w1.alloc (.cells (encOp opZero).toArray 35)).drew := ((Below.refl _ _).alloc (Nat.le_refl _) _).drew
      refine ⟨MStep.to (Mods.of_below hb2), ?_⟩
      change wpRT _ _ _ _ _ _ (w1.alloc (.cells (encOp opZero).toArray 35)).drew
      have hlx := hbx2.lt
      have hlz := Nat.le_refl w1.heap.size
      generalize (w1.alloc (.cells (encOp opZero).toArray 35)).drew = W2 at hbx2 hb2 hlx ⊢
      obtain ⟨Z, hZ⟩ : ∃ Z, w1.heap.size = Z := ⟨_, rfl⟩
      rw [hZ] at hbx2 hlx ⊢
      have HZ := Lib.hid hZ
      clear hZ hlz
      refine wpRT_one rfl ?_; simp only [List.getElem_toArray, List.getElem_cons_succ, List.getElem_cons_zero]
      go_wp2_with (go_at_call 12; refine (hnx W2 hb2).mono ?_; rintro e w3 ⟨rfl, hb3'⟩)
      have hb3 := belowTrans hb2 hb3'
      have hbx3 := hbx2.below hb3' hlx
      refine ⟨MStep.to (Mods.of_below hb3), ?_⟩
      refine wpRT_rd ?_
      simp only [List.map_cons, List.map_nil, List.getElem?_toArray, List.getElem?_cons_succ, List.getElem?_cons_zero, Option.getD_some]
      repeat (first | go_big_quiet_skip | (go_big_quiet_want; first | (fail; go_frame; go_big_quiet_on) | (go_big_quiet_op; go_big_quiet_on)))
      refine wpQuiet_nil ?_
      have hlx3 := hbx3.lt
      refine wpRT_one rfl ?_; simp only [List.getElem_toArray, List.getElem_cons_succ, List.getElem_cons_zero]
      go_wp2_with (go_at_call 42; refine (hcl _).mono ?_; rintro e w4 ⟨rfl, hb4'⟩)
      have hb4 := belowTrans hb3 hb4'
      have hbx4 := hbx3.below hb4' hlx3
      refine ⟨MStep.to (Mods.of_below hb4), ?_⟩
      refine wpRT_rd ?_
      simp only [List.map_cons, List.map_nil, List.getElem?_toArray, List.getElem?_cons_succ, List.getElem?_cons_zero, Option.getD_some]
      repeat (first | go_big_quiet_skip | (go_big_quiet_want; first | (fail; go_frame; go_big_quiet_on) | (go_big_quiet_op; go_big_quiet_on)))
      refine wpQuiet_nil ?_
      have hfin : NewO (op0 8 k) w1 (.pointer (some ⟨Z, 0, none⟩)) (putOp w4 Z (op0 8 k)) := ⟨_, rfl, hbx4.put _, Nat.le_of_eq HZ.out, below_putOp hb4 (Nat.le_of_eq HZ.out) _⟩
      refine wpRT_one rfl ?_; simp only [List.getElem_toArray, List.getElem_cons_succ, List.getElem_cons_zero]
      go_wp2_with (refine wpList_store_eq (T := 35) (v := opV (op0 8 k)) rfl rfl rfl rfl (OpBox.store hbx4 (op0 8 k)) ?_)
      refine ⟨MStep.to (Mods.of_below (below_putOp hb4 (Nat.le_of_eq HZ.out) _)), ?_⟩
      refine wpRT_nil ?_
      go_wp2
      go_meet
      exact hfin
  case rest =>
    obtain ⟨ob, rfl, hbx, hob, hbc⟩ := hcut
    have hBc := belowTrans hB1 hbc
    have hec := (hbc.block _ hel1).trans he1
    have hrl1 := (Array.getElem?_eq_some_iff.1 hrb1).1
    have hrc : updBox wc (w.heap.size + 1) := (hbc.block _ hrl1).trans hrb1
    have hsl := OwnAt.slice (α := QId) (k := 2) (enc := encIdv) (fun _ => rfl) ho1
    obtain ⟨_, ⟨h0, _⟩ | ⟨ug, uc2, cur, h1, _, h3, h4, _, _, h7⟩⟩ := ho1
    · cases h0
    cases h1
    obtain ⟨p, cap3, e3, _, hcl3⟩ := hsl.shape
    cases e3
    obtain ⟨b3, off3, e4, hbl, hc3⟩ := hcl3 1 ⟨7, 2⟩ rfl
    cases e4
    have a2 : wc.cell? ⟨ug, 2, none⟩ = some (.int .u64 7) := (hbc.cell (p := ⟨ug, 2, none⟩) hbl).trans (hc3 0 _ rfl)
    have a3 : wc.cell? ⟨ug, 3, none⟩ = some (.int .u64 2) := (hbc.cell (p := ⟨ug, 3, none⟩) hbl).trans (hc3 1 _ rfl)
    have hul : ug < wc.heap.size := Nat.lt_of_lt_of_le hbl hbc.size
    have huc : 2 ≤ uc := h4
    clear hsl hcl3 hc3 h4
    clear hnx he1 hrb1 e4 e5 e6 e7 hN hcl hun h7 h3 hbx
    have x0 : wc.cell? ⟨w.heap.size, 0, none⟩ = some (.int .i64 3) := by simp [World.cell?, hec]
    have x1 : wc.cell? ⟨w.heap.size, 1, none⟩ = some (.int .i64 1) := by simp [World.cell?, hec]
    have x2 : wc.cell? ⟨w.heap.size, 2, none⟩ = some (.int .i64 1) := by simp [World.cell?, hec]
    have x3 : wc.cell? ⟨w.heap.size, 3, none⟩ = some (.string ⟨#[]⟩) := by simp [World.cell?, hec]
    have x4 : wc.cell? ⟨w.heap.size, 4, none⟩ = some (.int .i64 0) := by simp [World.cell?, hec]
    have x5 : wc.cell? ⟨w.heap.size, 5, none⟩ = some (.int .i64 0) := by simp [World.cell?, hec]
    have x6 : wc.cell? ⟨w.heap.size, 6, none⟩ = some (.float .f64 0) := by simp [World.cell?, hec]
    have x7 : wc.cell? ⟨w.heap.size, 7, none⟩ = some (.string ⟨#[]⟩) := by simp [World.cell?, hec]
    have x8 : wc.cell? ⟨w.heap.size, 8, none⟩ = some (.string ⟨#[]⟩) := by simp [World.cell?, hec]
    have x9 : wc.cell? ⟨w.heap.size, 9, none⟩ = some (.slice none 0 0) := by simp [World.cell?, hec]
    have hsp := span_one wc
    unfold edV at hsp
    go_upto_region 19 with (go_at_call 47; refine hsp.mono ?_; rintro e w3 ⟨rfl, hb3⟩)
    have hB3 := belowTrans hBc hb3
    have he3 := (hb3.block _ (Array.getElem?_eq_some_iff.1 hec).1).trans hec
    have hel3 := (Array.getElem?_eq_some_iff.1 he3).1
    have hrc3 : updBox w3 (w.heap.size + 1) := (hb3.block _ (Array.getElem?_eq_some_iff.1 hrc).1).trans hrc
    have b2 := (hb3.cell (p := ⟨ug, 2, none⟩) hul).trans a2
    have b3 := (hb3.cell (p := ⟨ug, 3, none⟩) hul).trans a3
    have y1 : w3.cell? ⟨w.heap.size, 1, none⟩ = some (.int .i64 1) := by simp [World.cell?, he3]
    have y2 : w3.cell? ⟨w.heap.size, 2, none⟩ = some (.int .i64 1) := by simp [World.cell?, he3]
    have htn := turns_none n kl wl hv vv st w3 (hd.keep fun b g => hB3.block b (by omega))
    clear a2 a3 x0 x1 x2 x3 x4 x5 x6 x7 x8 x9 hsp hec hrc hb3 hbc hBc
    have hcz : (2 : Int) ≤ uc := by omega
    have hto := fun W => turnOf_nil ⟨7, 2⟩ W
    obtain ⟨i0, hi, hz0, hz1, hz2⟩ := info_parts infoTurn
    go_upto_region 21 with (go_at_call 48; refine htn.mono ?_; rintro e w4 ⟨rfl, rfl⟩)
    go_wp2
    clear htn
    go_loopw [10, 117] (fun l i wr => (l = .slice none 0 0 ∧ i = .int .i64 0 ∧ w3 = wr) ∨ (i = .int .i64 1 ∧ OwnAt w3.heap.size 54 4 encTurn wr l [tD] ∧ Below w3.heap.size w3 wr)) (fun _ i _ => 1 - (intOf i).toNat)
    case atStart => exact .inl ⟨rfl, rfl, rfl⟩
    case round =>
      rcases hrel with ⟨rfl, rfl, rfl⟩ | ⟨rfl, hl, hb⟩
      · go_upto_region 24 with fail
        have hb5 : Below w3.heap.size w3 (w3.alloc (.cells #[.int .u64 7, .int .u64 2] 28)) := (Below.refl _ _).alloc (Nat.le_refl _) _
        have hx5 : (w3.alloc (.cells #[.int .u64 7, .int .u64 2] 28)).heap[w3.heap.size]? = some (.cells #[.int .u64 7, .int .u64 2] 28 (0, 0)) := World.alloc_heap_new _ _
        have hz5 : w3.heap.size < (w3.alloc (.cells #[.int .u64 7, .int .u64 2] 28)).heap.size := by simp
        generalize w3.alloc (.cells #[.int .u64 7, .int .u64 2] 28) = W5 at hb5 hx5 hz5 ⊢
        have z0 : W5.cell? ⟨w3.heap.size, 0, none⟩ = some (.int .u64 7) := by simp [World.cell?, hx5]
        have z1 : W5.cell? ⟨w3.heap.size, 1, none⟩ = some (.int .u64 2) := by simp [World.cell?, hx5]
        clear b2 b3 y1 y2 hcz
        go_upto_region 27 with (go_at_call 49; refine (hto _).mono ?_; rintro e w6 ⟨rfl, hb6⟩)
        have hb6' := belowTrans hb5 hb6
        have hx6 := (hb6.block _ hz5).trans hx5
        have hz6 : w3.heap.size ≤ w6.heap.size := hb6'.size
        have v0 : w6.cell? ⟨w3.heap.size, 0, none⟩ = some (.int .u64 7) := by simp [World.cell?, hx6]
        have v1 : w6.cell? ⟨w3.heap.size, 1, none⟩ = some (.int .u64 2) := by simp [World.cell?, hx6]
        clear z0 z1 hx5 hx6 hb5 hb6 hto
        have hrow : w6.ownsRow w3.heap.size 54 4 (.slice none 0 0) 0 [] := ⟨rfl, .inl ⟨rfl, rfl⟩⟩
        go_wp2_with (at_builtin; refine wpList_append_own _ rfl _ _ 40 rfl w3.heap.size 54 i0 (.agg #[.int .u64 0, .int .u64 0, .int .u64 0, .int .u64 0]) 4 32 Tryz.underlying40 hi hz0 hz1 hz2 rfl (by decide) _ _ _ rfl (hrow.alloc _) ⟨w6.heap.size, 0, none⟩ 1 1 (encTurn tD) rfl rfl ?d1 ?d2 ?d3 ?d4 ?d5 ?_)
        case d1 => exact turnCells _ _ tD rfl
        case d2 => exact encTurn_one tD
        case d3 => decide
        case d4 => decide
        case d5 => simp; omega
        intro v' w7 hown' hgrow hne
        have hb7 : Below w3.heap.size w3 w7 := (hb6'.alloc hz6 _).grown hgrow (by simp; omega) (fun j e => by cases e)
        go_wp2
        exact ⟨.inr ⟨rfl, hown', hb7⟩, by decide⟩
      · obtain ⟨w8, hw8⟩ : ∃ w8, w8 = wr := ⟨_, rfl⟩
        rw [← hw8] at hl hb ⊢
        clear hw8 b2 b3 y1 y2 hcz hto
        have hsv := ownsRow_succ hl
        obtain ⟨g, cap, rfl⟩ := hsv
        have htu := turns_one (.slice (some ⟨g, 0, none⟩) 1 cap) tD w8 (by decide) (OwnAt.slice (α := QTurn) (k := 4) (enc := encTurn) (l := [tD]) (fun _ => rfl) hl) rfl
        have hB8 := belowTrans hB3 hb
        have hrc8 : updBox w8 (w.heap.size + 1) := (hb.block _ (Array.getElem?_eq_some_iff.1 hrc3).1).trans hrc3
        have hr8 := (Array.getElem?_eq_some_iff.1 hrc8).1
        go_wp2_with (go_at_call 37; refine htu.mono ?_; rintro e w9 ⟨v, rfl, ho9, hb9⟩; obtain ⟨g9, cap9, rfl⟩ := ownsRow_succ ho9; have hu9 := (hb9.block _ hr8).trans hrc8; unfold updBox at hu9; have u0 : w9.cell? ⟨w.heap.size + 1, 0, none⟩ = some (.slice none 0 0) := (by simp only [World.cell?, hu9]; simp); have u1 : w9.cell? ⟨w.heap.size + 1, 1, none⟩ = some (.slice none 0 0) := (by simp only [World.cell?, hu9]; simp); have uf : w9.frozen? ⟨w.heap.size + 1, 0, none⟩ = false := (by simp only [World.frozen?, hu9]; simp); have uf1 : w9.frozen? ⟨w.heap.size + 1, 1, none⟩ = false := (by simp only [World.frozen?, hu9]; simp))
        have a0 : ((w9.setCell ⟨w.heap.size + 1, 0, none⟩ (.slice none 0 0)).setCell ⟨w.heap.size + 1, 1, none⟩ (.slice (some ⟨g9, 0, none⟩) 1 cap9)).cell? ⟨w.heap.size + 1, 0, none⟩ = some (.slice none 0 0) := by simp [World.cell?, World.setCell, Array.getElem?_modify, hu9]
        have a1 : ((w9.setCell ⟨w.heap.size + 1, 0, none⟩ (.slice none 0 0)).setCell ⟨w.heap.size + 1, 1, none⟩ (.slice (some ⟨g9, 0, none⟩) 1 cap9)).cell? ⟨w.heap.size + 1, 1, none⟩ = some (.slice (some ⟨g9, 0, none⟩) 1 cap9) := by simp [World.cell?, World.setCell, Array.getElem?_modify, hu9]
        have hB9 := belowTrans hB8 hb9
        have hgl : w8.heap.size ≤ g9 := by
          obtain ⟨_, ⟨h0, _⟩ | ⟨g2, _, _, h1, h2, _⟩⟩ := ho9
          · cases h0
          · cases h1; exact h2
        have ho10 := ownsRow_blk (w' := (w9.setCell ⟨w.heap.size + 1, 0, none⟩ (.slice none 0 0)).setCell ⟨w.heap.size + 1, 1, none⟩ (.slice (some ⟨g9, 0, none⟩) 1 cap9)) ho9 (fun b e => by cases e; exact (Below.heap_setCell _ _ _ _ (by show ¬ g9 = w.heap.size + 1; omega)).trans (Below.heap_setCell _ _ _ _ (by show ¬ g9 = w.heap.size + 1; omega)))
        have hB10 := (hB9.setCell (p := ⟨w.heap.size + 1, 0, none⟩) (by show w.heap.size ≤ w.heap.size + 1; omega) (.slice none 0 0)).setCell (p := ⟨w.heap.size + 1, 1, none⟩) (by show w.heap.size ≤ w.heap.size + 1; omega) (.slice (some ⟨g9, 0, none⟩) 1 cap9)
        refine bodyPost_ret (v := .agg #[.slice none 0 0, .slice (some ⟨g9, 0, none⟩) 1 cap9]) ?_ rfl ⟨_, rfl, ownsRow_base ho10 hB8.size, hB10⟩
        simp [results, Tryz.results26, go_sem, a0, a1]
end Go.Proofs.YthhbiliimdpgmaaGreatDoor
/- Walks: edit.Make around made that makes an update, wherever it lays it. -/
namespace Go.Proofs.YthhbiliimdpgmaaGreatDoor
open Go.RowKit Go.Lib

/-- Make answers with two slices that Q tells of. -/
def MakeR (Q : Value → Value → World → Prop) (w : World) (e : Ending) (w' : World) : Prop :=
  ∃ (p1 : Option Addr) (n1 c1 : Nat) (p2 : Option Addr) (n2 c2 : Nat), e = .returned (.tuple #[.agg #[.slice p1 n1 c1, .slice p2 n2 c2], .int .i64 0]) ∧ Below w.heap.size w w' ∧ Q (.slice p1 n1 c1) (.slice p2 n2 c2) w'
set_option maxRecDepth 100000 in
set_option maxHeartbeats 1000000 in
theorem make_any (w : World) (Q : Value → Value → World → Prop) (hQ : ∀ a b w1 w2, Mods (fun j => w.heap.size ≤ j ∧ j < w.heap.size + 3) w1 w2 → Q a b w1 → Q a b w2) (n : Nat) (c k at_ m : Int) (t : ByteArray) (v : QVal) (key : ByteArray) (p : Option Addr) (a b : Nat)
    (hm : ∀ w', Below w.heap.size w w' → w.heap.size + 3 ≤ w'.heap.size → Calls Tryz.prog 26 #[.pointer (some ⟨n + 11, 0, none⟩), .int .u64 c, edV k at_ m t v key (.slice p a b)] w' fun e w2 =>
      ∃ (p1 : Option Addr) (n1 c1 : Nat) (p2 : Option Addr) (n2 c2 : Nat), e = .returned (.agg #[.slice p1 n1 c1, .slice p2 n2 c2]) ∧ Below w'.heap.size w' w2 ∧ Q (.slice p1 n1 c1) (.slice p2 n2 c2) w2) :
    Calls Tryz.prog 9 #[.pointer (some ⟨n + 11, 0, none⟩), .int .u64 c, edV k at_ m t v key (.slice p a b)] w (MakeR Q w) := by
  have hmf : ∀ (fn : Fn) (first cap : Array Value) (w : World), (Instr.makeFunc fn first cap).run Tryz.prog w = .ok (.func fn first cap) w := fun _ _ _ _ => rfl
  unfold edV at hm ⊢
  go_enter_defers Tryz.func9, Tryz.ntmps9
  have hB : Below w.heap.size w (((w.alloc (.cells #[.int .i64 k, .int .i64 at_, .int .i64 m, .string t, .int .i64 v.kind, .int .i64 v.n, .float .f64 v.f, .string v.s, .string key, .slice p a b] 48)).alloc (.cells #[.slice none 0 0, .slice none 0 0] 42)).alloc (.cells #[.int .i64 0] 36)) := by (repeat (first | exact Below.refl _ _ | assumption | refine Below.alloc ?_ (by simp <;> omega) _ | refine Below.drew ?_ | refine below_drewN ?_ _ | refine Below.setCell ?_ (by simp <;> omega) _ | refine belowTrans ?_ (by assumption)))
  have hu0 : updBox (((w.alloc (.cells #[.int .i64 k, .int .i64 at_, .int .i64 m, .string t, .int .i64 v.kind, .int .i64 v.n, .float .f64 v.f, .string v.s, .string key, .slice p a b] 48)).alloc (.cells #[.slice none 0 0, .slice none 0 0] 42)).alloc (.cells #[.int .i64 0] 36)) (w.heap.size + 1) := by
    unfold updBox; rw [alloc_heap_if, if_neg (by simp), alloc_heap_if, if_pos (by simp)]
  have he0 : errBox 0 (((w.alloc (.cells #[.int .i64 k, .int .i64 at_, .int .i64 m, .string t, .int .i64 v.kind, .int .i64 v.n, .float .f64 v.f, .string v.s, .string key, .slice p a b] 48)).alloc (.cells #[.slice none 0 0, .slice none 0 0] 42)).alloc (.cells #[.int .i64 0] 36)) (w.heap.size + 1 + 1) := by
    unfold errBox; rw [alloc_heap_if, if_pos (by simp)]
  have hz0 : (((w.alloc (.cells #[.int .i64 k, .int .i64 at_, .int .i64 m, .string t, .int .i64 v.kind, .int .i64 v.n, .float .f64 v.f, .string v.s, .string key, .slice p a b] 48)).alloc (.cells #[.slice none 0 0, .slice none 0 0] 42)).alloc (.cells #[.int .i64 0] 36)).heap.size = w.heap.size + 3 := by simp
  go_wp2_with (go_at_call 26; refine (hm _ hB (by omega)).mono ?_; rintro e w1 ⟨p1, n1, c1, p2, n2, c2, rfl, hb1, hq1⟩; have hu1 := (hb1.block (w.heap.size + 1) (by omega)).trans hu0; have he1 := (hb1.block (w.heap.size + 1 + 1) (by omega)).trans he0; have u0 : w1.cell? ⟨w.heap.size + 1, 0, none⟩ = some (.slice none 0 0) := (by simp [World.cell?, hu1]); have u1 : w1.cell? ⟨w.heap.size + 1, 1, none⟩ = some (.slice none 0 0) := (by simp [World.cell?, hu1]); have uf : w1.frozen? ⟨w.heap.size + 1, 0, none⟩ = false := (by simp [World.frozen?, hu1]); have uf1 : w1.frozen? ⟨w.heap.size + 1, 1, none⟩ = false := (by simp [World.frozen?, hu1]); have e0 : w1.cell? ⟨w.heap.size + 1 + 1, 0, none⟩ = some (.int .i64 0) := (by simp [World.cell?, he1]); have ef : w1.frozen? ⟨w.heap.size + 1 + 1, 0, none⟩ = false := (by simp [World.frozen?, he1]))
  have hz1 := hb1.size
  have hB1 := belowTrans hB hb1
  have hM : Mods (fun j => w.heap.size ≤ j ∧ j < w.heap.size + 3) w1 (((w1.setCell ⟨w.heap.size + 1, 0, none⟩ (.slice p1 n1 c1)).setCell ⟨w.heap.size + 1, 1, none⟩ (.slice p2 n2 c2)).setCell ⟨w.heap.size + 1 + 1, 0, none⟩ (.int .i64 0)) :=
    (((Mods.refl (fun j => w.heap.size ≤ j ∧ j < w.heap.size + 3) w1).setCell (p := ⟨w.heap.size + 1, 0, none⟩) (show _ ∧ _ by constructor <;> (dsimp only; omega)) _).setCell (p := ⟨w.heap.size + 1, 1, none⟩) (show _ ∧ _ by constructor <;> (dsimp only; omega)) _).setCell (p := ⟨w.heap.size + 1 + 1, 0, none⟩) (show _ ∧ _ by constructor <;> (dsimp only; omega)) _
  have hq2 := hQ _ _ _ _ hM hq1
  have hB2 : Below w.heap.size w (((w1.setCell ⟨w.heap.size + 1, 0, none⟩ (.slice p1 n1 c1)).setCell ⟨w.heap.size + 1, 1, none⟩ (.slice p2 n2 c2)).setCell ⟨w.heap.size + 1 + 1, 0, none⟩ (.int .i64 0)) := ⟨hM.os.trans hB1.os, hM.tape.trans hB1.tape, hM.output.trans hB1.output, Nat.le_trans hB1.size hM.size, fun j hj => (hM.block j (Nat.lt_of_lt_of_le hj hB1.size) (by omega)).trans (hB1.block j hj)⟩
  have a0 : (((w1.setCell ⟨w.heap.size + 1, 0, none⟩ (.slice p1 n1 c1)).setCell ⟨w.heap.size + 1, 1, none⟩ (.slice p2 n2 c2)).setCell ⟨w.heap.size + 1 + 1, 0, none⟩ (.int .i64 0)).cell? ⟨w.heap.size + 1, 0, none⟩ = some (.slice p1 n1 c1) := by simp [World.cell?, World.setCell, Array.getElem?_modify, hu1]
  have a1 : (((w1.setCell ⟨w.heap.size + 1, 0, none⟩ (.slice p1 n1 c1)).setCell ⟨w.heap.size + 1, 1, none⟩ (.slice p2 n2 c2)).setCell ⟨w.heap.size + 1 + 1, 0, none⟩ (.int .i64 0)).cell? ⟨w.heap.size + 1, 1, none⟩ = some (.slice p2 n2 c2) := by simp [World.cell?, World.setCell, Array.getElem?_modify, hu1]
  have a2 : (((w1.setCell ⟨w.heap.size + 1, 0, none⟩ (.slice p1 n1 c1)).setCell ⟨w.heap.size + 1, 1, none⟩ (.slice p2 n2 c2)).setCell ⟨w.heap.size + 1 + 1, 0, none⟩ (.int .i64 0)).cell? ⟨w.heap.size + 1 + 1, 0, none⟩ = some (.int .i64 0) := by simp [World.cell?, World.setCell, Array.getElem?_modify, he1]
  generalize (((w1.setCell ⟨w.heap.size + 1, 0, none⟩ (.slice p1 n1 c1)).setCell ⟨w.heap.size + 1, 1, none⟩ (.slice p2 n2 c2)).setCell ⟨w.heap.size + 1 + 1, 0, none⟩ (.int .i64 0)) = W4 at hB2 hq2 a0 a1 a2 ⊢
  refine leaves_cons (f := 25) (args := #[.pointer (some ⟨w.heap.size + 1, 0, none⟩), .pointer (some ⟨w.heap.size + 1 + 1, 0, none⟩)]) (by simp) (by simp [go_sem]) ?_
  refine (make1_idle ⟨w.heap.size + 1, 0, none⟩ ⟨w.heap.size + 1 + 1, 0, none⟩ _).mono ?_
  rintro e u' w2 ⟨rfl, rfl, rfl⟩
  simp [Leaves, settle, results, Tryz.results9, go_sem, a0, a1, a2]
  exact ⟨p1, n1, c1, p2, n2, c2, rfl, hB2, hq2⟩
/-- what Make tells of one operation. -/
def QR (o : QOp) (lo : Nat) (a b : Value) (w' : World) : Prop := ∃ ob, a = .slice (some ⟨ob, 0, none⟩) 1 1 ∧ b = .slice none 0 0 ∧ OpCells w' ob 0 o ∧ lo ≤ ob ∧ ob < w'.heap.size
theorem make_op (w : World) (o : QOp) (n : Nat) (c k at_ m : Int) (t : ByteArray) (v : QVal) (key : ByteArray) (p : Option Addr) (a b : Nat)
    (hm : ∀ w', Below w.heap.size w w' → Calls Tryz.prog 26 #[.pointer (some ⟨n + 11, 0, none⟩), .int .u64 c, edV k at_ m t v key (.slice p a b)] w' (MadeR o w')) :
    Calls Tryz.prog 9 #[.pointer (some ⟨n + 11, 0, none⟩), .int .u64 c, edV k at_ m t v key (.slice p a b)] w (MakeR (QR o (w.heap.size + 3)) w) := by
  refine make_any w _ ?_ n c k at_ m t v key p a b ?_
  · rintro a b w1 w2 hM ⟨ob, rfl, rfl, ho, h1, h2⟩
    exact ⟨ob, rfl, rfl, fun i y hy => (World.cell?_of_block (w := w1) (hM.block ob h2 (by omega))).trans (ho i y hy), h1, Nat.lt_of_lt_of_le h2 hM.size⟩
  · intro w' hb hz
    refine (hm w' hb).mono ?_
    rintro e w2 ⟨ob, rfl, ho, h1, h2, hB⟩
    exact ⟨_, _, _, _, _, _, rfl, hB, ob, rfl, rfl, ho, by omega, h2⟩
/-- what Make tells of one turn. -/
def QD (a b : Value) (lo : Nat) (w' : World) : Prop := a = .slice none 0 0 ∧ OwnAt lo 54 4 encTurn w' b [tD]
theorem make_del (w : World) (n : Nat) (c k at_ m : Int) (t : ByteArray) (v : QVal) (key : ByteArray) (p : Option Addr) (a b : Nat)
    (hm : ∀ w', Below w.heap.size w w' → Calls Tryz.prog 26 #[.pointer (some ⟨n + 11, 0, none⟩), .int .u64 c, edV k at_ m t v key (.slice p a b)] w' (MadeD w')) :
    Calls Tryz.prog 9 #[.pointer (some ⟨n + 11, 0, none⟩), .int .u64 c, edV k at_ m t v key (.slice p a b)] w (MakeR (fun a b w' => QD a b (w.heap.size + 3) w') w) := by
  refine make_any w _ ?_ n c k at_ m t v key p a b ?_
  · rintro a b w1 w2 hM ⟨rfl, ho⟩
    refine ⟨rfl, ownsRow_blk ho fun g e => hM.block g (ownsRow_lt ho g e) ?_⟩
    obtain ⟨_, ⟨h0, _⟩ | ⟨g2, _, _, h1, h2, _⟩⟩ := ho
    · rw [h0] at e; cases e
    · rw [h1] at e; cases e; show ¬ (w.heap.size ≤ g2 ∧ g2 < w.heap.size + 3); omega
  · intro w' hb hz
    refine (hm w' hb).mono ?_
    rintro e w2 ⟨v, rfl, ho, hB⟩
    obtain ⟨g, cap, rfl⟩ := ownsRow_succ ho
    exact ⟨_, _, _, _, _, _, rfl, hB, rfl, ownsRow_base ho hz⟩
end Go.Proofs.YthhbiliimdpgmaaGreatDoor
