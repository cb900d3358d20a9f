/- Walk: edit.made of a set in the document of the law's set: refused where the stamp is the greatest. -/
import Derived.Test.YthhbiliimdpgmaaGreatDoorM46
import Derived.Test.YthhbiliimdpgmaaGreatDoorM48
import Derived.Test.YthhbiliimdpgmaaGreatDoorM20
namespace Go.Proofs.YthhbiliimdpgmaaGreatDoor
open Go.RowKit Go.Lib

theorem editVal_zero (w : World) : Calls Tryz.prog 43 #[.agg #[.int .i64 0, .int .i64 0, .float .f64 0, .string ⟨#[]⟩], .bool true] w fun e w' => e = .returned (.tuple #[]) ∧ Below w.heap.size w w' := by
  have hck : ∀ w, Calls Tryz.prog 91 #[.agg #[.int .i64 0, .int .i64 0, .float .f64 0, .string ⟨#[]⟩]] w fun e w' => e = .returned (.int .i64 0) ∧ Below w.heap.size w w' := valCheck_zero
  go_enter Tryz.func43, Tryz.ntmps43
  go_upto_region 1 with fail
  have hB : Below w.heap.size w (w.alloc (.cells #[.int .i64 0, .int .i64 0, .float .f64 0, .string ⟨#[]⟩] 31)) := by (repeat (first | exact Below.refl _ _ | assumption | refine Below.alloc ?_ (by simp <;> omega) _ | refine Below.drew ?_ | refine below_drewN ?_ _ | refine Below.setCell ?_ (by simp <;> omega) _ | refine belowTrans ?_ (by assumption)))
  have v0 : (w.alloc (.cells #[.int .i64 0, .int .i64 0, .float .f64 0, .string ⟨#[]⟩] 31)).cell? ⟨w.heap.size, 0, none⟩ = some (.int .i64 0) := by go_simp
  have v1 : (w.alloc (.cells #[.int .i64 0, .int .i64 0, .float .f64 0, .string ⟨#[]⟩] 31)).cell? ⟨w.heap.size, 1, none⟩ = some (.int .i64 0) := by go_simp
  have v2 : (w.alloc (.cells #[.int .i64 0, .int .i64 0, .float .f64 0, .string ⟨#[]⟩] 31)).cell? ⟨w.heap.size, 2, none⟩ = some (.float .f64 0) := by go_simp
  have v3 : (w.alloc (.cells #[.int .i64 0, .int .i64 0, .float .f64 0, .string ⟨#[]⟩] 31)).cell? ⟨w.heap.size, 3, none⟩ = some (.string ⟨#[]⟩) := by go_simp
  have hz : w.heap.size < (w.alloc (.cells #[.int .i64 0, .int .i64 0, .float .f64 0, .string ⟨#[]⟩] 31)).heap.size := by simp
  generalize w.alloc (.cells #[.int .i64 0, .int .i64 0, .float .f64 0, .string ⟨#[]⟩] 31) = W at hB v0 v1 v2 v3 hz ⊢
  go_wp2_with (go_at_call 91; refine (hck _).mono ?_; rintro e w1 ⟨rfl, hb1⟩; have v0' := (hb1.cell (p := ⟨w.heap.size, 0, none⟩) hz).trans v0)
  go_end0
  exact ⟨rfl, belowTrans hB hb1⟩
theorem findNil (p : Addr) (w : World) : Calls Tryz.prog 52 #[.pointer (some p), .slice none 0 0] w fun e w' => e = .returned (.tuple #[.agg #[.int .u64 0, .int .u64 0], .bool true]) ∧ Below w.heap.size w w' := by
  go_enter Tryz.func52, Tryz.ntmps52
  go_upto_region 3 with fail
  have hB : Below w.heap.size w ((w.alloc (.cells #[.int .u64 0, .int .u64 0] 28)).alloc (.cells #[.int .u64 0, .int .u64 0] 28)) := by (repeat (first | exact Below.refl _ _ | assumption | refine Below.alloc ?_ (by simp <;> omega) _ | refine Below.drew ?_ | refine below_drewN ?_ _ | refine Below.setCell ?_ (by simp <;> omega) _ | refine belowTrans ?_ (by assumption)))
  have h0 : ((w.alloc (.cells #[.int .u64 0, .int .u64 0] 28)).alloc (.cells #[.int .u64 0, .int .u64 0] 28)).heap[w.heap.size]? = some (.cells #[.int .u64 0, .int .u64 0] 28 (0, 0)) := by rw [alloc_heap_if, if_neg (by simp), alloc_heap_if, if_pos rfl]
  have h1 : ((w.alloc (.cells #[.int .u64 0, .int .u64 0] 28)).alloc (.cells #[.int .u64 0, .int .u64 0] 28)).heap[w.heap.size + 1]? = some (.cells #[.int .u64 0, .int .u64 0] 28 (0, 0)) := by rw [alloc_heap_if, if_pos (by simp)]
  generalize (w.alloc (.cells #[.int .u64 0, .int .u64 0] 28)).alloc (.cells #[.int .u64 0, .int .u64 0] 28) = W at hB h0 h1 ⊢
  go_loopw [13] (fun i wx => i = .int .i64 0 ∧ wx = W) (fun _ _ => 0)
  case atStart => exact ⟨rfl, rfl⟩
  case round =>
    obtain ⟨rfl, rfl⟩ := hrel
    have a0 : wr.cell? ⟨w.heap.size + 1, 0, none⟩ = some (.int .u64 0) := by simp [World.cell?, h1]
    have a1 : wr.cell? ⟨w.heap.size + 1, 1, none⟩ = some (.int .u64 0) := by simp [World.cell?, h1]
    have b0 : wr.cell? ⟨w.heap.size, 0, none⟩ = some (.int .u64 0) := by simp [World.cell?, h0]
    have b1 : wr.cell? ⟨w.heap.size, 1, none⟩ = some (.int .u64 0) := by simp [World.cell?, h0]
    have f0 : wr.frozen? ⟨w.heap.size, 0, none⟩ = false := by simp [World.frozen?, h0]
    have f1 : wr.frozen? ⟨w.heap.size, 1, none⟩ = false := by simp [World.frozen?, h0]
    go_wp2
    have r0 : ((wr.setCell ⟨w.heap.size, 0, none⟩ (.int .u64 0)).setCell ⟨w.heap.size, 1, none⟩ (.int .u64 0)).heap[w.heap.size]? = some (.cells #[.int .u64 0, .int .u64 0] 28 (0, 0)) := by simp [World.setCell, Array.getElem?_modify, h0]
    have r1 : ((wr.setCell ⟨w.heap.size, 0, none⟩ (.int .u64 0)).setCell ⟨w.heap.size, 1, none⟩ (.int .u64 0)).cell? ⟨w.heap.size, 0, none⟩ = some (.int .u64 0) := by simp [World.cell?, r0]
    have r2 : ((wr.setCell ⟨w.heap.size, 0, none⟩ (.int .u64 0)).setCell ⟨w.heap.size, 1, none⟩ (.int .u64 0)).cell? ⟨w.heap.size, 1, none⟩ = some (.int .u64 0) := by simp [World.cell?, r0]
    have hB2 := (hB.setCell (p := ⟨w.heap.size, 0, none⟩) (Nat.le_refl _) (.int .u64 0)).setCell (p := ⟨w.heap.size, 1, none⟩) (Nat.le_refl _) (.int .u64 0)
    refine bodyPost_ret (v := .tuple #[.agg #[.int .u64 0, .int .u64 0], .bool true]) ?_ rfl ⟨rfl, hB2⟩
    simp [results, Tryz.results52, go_sem, r1, r2]
theorem docMaps_set (n : Nat) (s : Int) (F : Nat → Prop) (kl : List (Int × Value)) (wl : List (QId × Value)) (hv vv : Value) (st : Int) (w : World) (hd : DocC n w kl wl hv vv st) (hm : MapsIn w F (n + 10) (QMaps.empty.set (setO s))) (hh : w.cell? ⟨n + 10, 2, none⟩ = some noS) :
    Calls Tryz.prog 51 #[.pointer (some ⟨n + 11, 0, none⟩)] w fun e w' => ∃ b, e = .returned (.pointer (some ⟨b, 0, none⟩)) ∧ True ∧ Below w.heap.size w w' := by
  have c9 := hd.cell 9 _ rfl
  have hl := hd.lt
  have hc := mapsCopy_set n s F w hm hh
  go_enter Tryz.func51, Tryz.ntmps51
  go_wp2_with (go_at_call 98; refine hc.mono ?_; rintro e w1 ⟨b, rfl, h2⟩)
  go_ret
  exact ⟨b, rfl, trivial, h2⟩
/-- the set that made lays. -/
def oS (s : Int) : QOp := ⟨⟨9, 1⟩, 4, s + 1, idZero, idZero, ⟨#[]⟩, valZero, ⟨#[107]⟩, idZero, idZero, false, idZero, false⟩
def MadeS (s : Int) (w : World) (e : Ending) (w' : World) : Prop := (s < 9007199254740991 ∧ MadeR (oS s) w e w') ∨ (s = 9007199254740991 ∧ e = .panicked [{ v := brk 155, recovered := false }] ∧ Below w.heap.size w w')
set_option maxRecDepth 100000 in
set_option maxHeartbeats 4000000 in
theorem made_set (n : Nat) (s : Int) (F : Nat → Prop) (kl : List (Int × Value)) (wl : List (QId × Value)) (hv vv : Value) (w : World) (hd : DocC n w kl wl hv vv s) (hs : SeqZ n w) (hm : MapsIn w F (n + 10) (QMaps.empty.set (setO s))) (hF : ∀ b, F b → b < w.heap.size) (hh : w.cell? ⟨n + 10, 2, none⟩ = some noS) (hT : Tabs w) (hs1 : 1 ≤ s) (hs2 : s ≤ 9007199254740991)
    (hN : ∀ W, Below w.heap.size w W → Calls Tryz.prog 12 #[.pointer (some ⟨n + 11, 0, none⟩), .int .u64 9] W fun e w' => e = .returned (.int .u64 1) ∧ Below W.heap.size W w') :
    Calls Tryz.prog 26 #[.pointer (some ⟨n + 11, 0, none⟩), .int .u64 9, edV 5 0 0 ⟨#[]⟩ valZero bk (.slice none 0 0)] w (MadeS s w) := by
  have hdl := hd.lt
  have hun := fun W (hb : Below w.heap.size w W) => units_none n kl wl hv vv s W (hd.keep fun b g => hb.block b (by omega)) (hs.keep fun b g => hb.block b (by omega))
  have hcl : ∀ W, Calls Tryz.prog 42 #[.agg #[.int .i64 0, .int .i64 0, .float .f64 0, .string ⟨#[]⟩]] W fun e w' => e = .returned (.agg #[.int .i64 0, .int .i64 0, .float .f64 0, .string ⟨#[]⟩]) ∧ Below W.heap.size W w' := valClean_any valZero
  have hf := fail_any 155
  change Calls Tryz.prog 26 #[.pointer (some ⟨n + 11, 0, none⟩), .int .u64 _, .agg #[.int .i64 5, .int .i64 0, .int .i64 0, .string ⟨#[]⟩, .int .i64 0, .int .i64 0, .float .f64 0, .string ⟨#[]⟩, .string ⟨#[107]⟩, .slice none 0 0]] w _
  go_enter Tryz.func26, Tryz.ntmps26
  go_upto_region 3 with fail
  have hB : Below w.heap.size w ((w.alloc (.cells #[.int .i64 5, .int .i64 0, .int .i64 0, .string ⟨#[]⟩, .int .i64 0, .int .i64 0, .float .f64 0, .string ⟨#[]⟩, .string ⟨#[107]⟩, .slice none 0 0] 48)).alloc (.cells #[.slice none 0 0, .slice none 0 0] 42)) := by (repeat (first | exact Below.refl _ _ | assumption | refine Below.alloc ?_ (by simp <;> omega) _ | refine Below.drew ?_ | refine below_drewN ?_ _ | refine Below.setCell ?_ (by simp <;> omega) _ | refine belowTrans ?_ (by assumption)))
  have he : ((w.alloc (.cells #[.int .i64 5, .int .i64 0, .int .i64 0, .string ⟨#[]⟩, .int .i64 0, .int .i64 0, .float .f64 0, .string ⟨#[]⟩, .string ⟨#[107]⟩, .slice none 0 0] 48)).alloc (.cells #[.slice none 0 0, .slice none 0 0] 42)).heap[w.heap.size]? = some (.cells #[.int .i64 5, .int .i64 0, .int .i64 0, .string ⟨#[]⟩, .int .i64 0, .int .i64 0, .float .f64 0, .string ⟨#[]⟩, .string ⟨#[107]⟩, .slice none 0 0] 48 (0, 0)) := by rw [alloc_heap_if, if_neg (by simp), alloc_heap_if, if_pos rfl]
  have hrb : updBox ((w.alloc (.cells #[.int .i64 5, .int .i64 0, .int .i64 0, .string ⟨#[]⟩, .int .i64 0, .int .i64 0, .float .f64 0, .string ⟨#[]⟩, .string ⟨#[107]⟩, .slice none 0 0] 48)).alloc (.cells #[.slice none 0 0, .slice none 0 0] 42)) (w.heap.size + 1) := by unfold updBox; rw [alloc_heap_if, if_pos (by simp)]
  generalize (w.alloc (.cells #[.int .i64 5, .int .i64 0, .int .i64 0, .string ⟨#[]⟩, .int .i64 0, .int .i64 0, .float .f64 0, .string ⟨#[]⟩, .string ⟨#[107]⟩, .slice none 0 0] 48)).alloc (.cells #[.slice none 0 0, .slice none 0 0] 42) = W at hB he hrb ⊢
  have hu1 := hun W hB
  go_upto_region 4 with (go_at_call 41; refine hu1.mono ?_; rintro e w1 ⟨rfl, hb1⟩)
  have hB1 := belowTrans hB hb1
  have hel := (Array.getElem?_eq_some_iff.1 he).1
  have he1 := (hb1.block _ hel).trans he
  have hrl := (Array.getElem?_eq_some_iff.1 hrb).1
  have hrb1 : updBox w1 (w.heap.size + 1) := (hb1.block _ hrl).trans hrb
  have hel1 := (Array.getElem?_eq_some_iff.1 he1).1
  have e4 : ∀ s : MStep (fun _ => False) w1, s.val.cell? ⟨w.heap.size, 4, none⟩ = some (.int .i64 0) := MStep.cell hel1 id (by simp [World.cell?, he1])
  have e5 : ∀ s : MStep (fun _ => False) w1, s.val.cell? ⟨w.heap.size, 5, none⟩ = some (.int .i64 0) := MStep.cell hel1 id (by simp [World.cell?, he1])
  have e6 : ∀ s : MStep (fun _ => False) w1, s.val.cell? ⟨w.heap.size, 6, none⟩ = some (.float .f64 0) := MStep.cell hel1 id (by simp [World.cell?, he1])
  have e7 : ∀ s : MStep (fun _ => False) w1, s.val.cell? ⟨w.heap.size, 7, none⟩ = some (.string ⟨#[]⟩) := MStep.cell hel1 id (by simp [World.cell?, he1])
  have hnx := fun W2 (hb : Below w1.heap.size w1 W2) => hN W2 (belowTrans hB1 hb)
  clear hu1 hb1 he hrb hel hrl hB
  clear W
  go_cut [8] (fun u wx => NewO (op0 9 1) w1 u wx)
  case first =>
    have bz : ∀ W : World, OpBox (W.alloc (.cells (encOp opZero).toArray 35)).drew W.heap.size opZero := fun W => OpBox.drew (OpBox.new W opZero)
    refine wp_region_flow7 (.rd [0, 1, 2, 5, 6] (.two 3 (.rd [4] (.two 7 (.rd [8] (.one 9 (.one 10 .nil))) 9 (.one 7 (.rd [8] (.one 10 .nil))))) 9 (.one 3 (.rd [4] (.one 7 (.rd [8] (.one 10 .nil))))))) (fun w' => ∃ s : MStep (fun _ => False) w1, w' = s.val) (by kernel_rfl) (by kernel_rfl) (fun _ _ d _ _ h => by cases d <;> exact h) (MStep.to (Mods.refl _ _).drew) ?_
    refine wpRT_rd ?_
    simp only [List.map_cons, List.map_nil, List.getElem?_toArray, List.getElem?_cons_succ, List.getElem?_cons_zero, Option.getD_some]
    repeat (first | go_big_quiet_skip | (go_big_quiet_want; first | (fail; go_frame; go_big_quiet_on) | (go_big_quiet_op; go_big_quiet_on)))
    refine wpQuiet_nil ?_
    have hb0 : Below w1.heap.size w1 w1.drew := (Below.refl _ _).drew
    refine wpRT_two ?_ ?_
    · refine wpRT_one rfl ?_; simp only [List.getElem_toArray, List.getElem_cons_succ, List.getElem_cons_zero]
      go_wp2_with (go_at_call 12; refine (hnx w1.drew hb0).mono ?_; rintro e w2 ⟨rfl, hb2'⟩)
      have hb2 := belowTrans hb0 hb2'
      refine ⟨MStep.to (Mods.of_below hb2), ?_⟩
      refine wpRT_rd ?_
      simp only [List.map_cons, List.map_nil, List.getElem?_toArray, List.getElem?_cons_succ, List.getElem?_cons_zero, Option.getD_some]
      repeat (first | go_big_quiet_skip | (go_big_quiet_want; first | (fail; go_frame; go_big_quiet_on) | (go_big_quiet_op; go_big_quiet_on)))
      refine wpQuiet_nil ?_
      refine wpRT_two ?_ ?_
      · refine wpRT_one rfl ?_; simp only [List.getElem_toArray, List.getElem_cons_succ, List.getElem_cons_zero]
        go_wp2_with (go_at_call 42; refine (hcl _).mono ?_; rintro e w3 ⟨rfl, hb3'⟩)
        have hb3 := belowTrans hb2 hb3'
        refine ⟨MStep.to (Mods.of_below hb3), ?_⟩
        refine wpRT_rd ?_
        simp only [List.map_cons, List.map_nil, List.getElem?_toArray, List.getElem?_cons_succ, List.getElem?_cons_zero, Option.getD_some]
        repeat (first | go_big_quiet_skip | (go_big_quiet_want; first | (fail; go_frame; go_big_quiet_on) | (go_big_quiet_op; go_big_quiet_on)))
        refine wpQuiet_nil ?_
        refine wpRT_one rfl ?_; simp only [List.getElem_toArray, List.getElem_cons_succ, List.getElem_cons_zero]
        go_wp2
        refine ⟨MStep.to ((Mods.of_below hb3).alloc _), ?_⟩
        refine wpRT_one rfl ?_; simp only [List.getElem_toArray, List.getElem_cons_succ, List.getElem_cons_zero]
        have hfin : NewO (op0 9 1) w1 (.pointer (some ⟨w3.heap.size, 0, none⟩)) (putOp (w3.alloc (.cells (encOp opZero).toArray 35)) w3.heap.size (op0 9 1)) := ⟨_, rfl, (OpBox.new w3 opZero).put _, hb3.size, below_putOp (hb3.alloc hb3.size _) hb3.size _⟩
        go_wp2_with (refine wpList_store_eq (T := 35) (v := opV (op0 9 1)) rfl rfl rfl rfl (OpBox.store (OpBox.new w3 opZero) (op0 9 1)) ?_)
        refine ⟨MStep.to (Mods.of_below (below_putOp (hb3.alloc hb3.size _) hb3.size _)), ?_⟩
        refine wpRT_nil ?_
        go_wp2
        go_meet
        exact hfin
      · refine wpRT_one rfl ?_; simp only [List.getElem_toArray, List.getElem_cons_succ, List.getElem_cons_zero]
        go_wp2
        have hbx2 : OpBox (w2.alloc (.cells (encOp opZero).toArray 35)) w2.heap.size opZero := OpBox.new w2 opZero
        have hb3 : Below w1.heap.size w1 (w2.alloc (.cells (encOp opZero).toArray 35)) := hb2.alloc hb2.size _
        refine ⟨MStep.to (Mods.of_below hb3), ?_⟩
        change wpRT _ _ _ _ _ _ (w2.alloc (.cells (encOp opZero).toArray 35))
        have hlx := hbx2.lt
        have hlz := hb2.size
        generalize w2.alloc (.cells (encOp opZero).toArray 35) = W3 at hbx2 hb3 hlx ⊢
        generalize w2.heap.size = Z at hbx2 hlx hlz ⊢
        refine wpRT_one rfl ?_; simp only [List.getElem_toArray, List.getElem_cons_succ, List.getElem_cons_zero]
        go_wp2_with (go_at_call 42; refine (hcl _).mono ?_; rintro e w4 ⟨rfl, hb4'⟩)
        have hb4 := belowTrans hb3 hb4'
        have hbx4 := hbx2.below hb4' hlx
        refine ⟨MStep.to (Mods.of_below hb4), ?_⟩
        refine wpRT_rd ?_
        simp only [List.map_cons, List.map_nil, List.getElem?_toArray, List.getElem?_cons_succ, List.getElem?_cons_zero, Option.getD_some]
        repeat (first | go_big_quiet_skip | (go_big_quiet_want; first | (fail; go_frame; go_big_quiet_on) | (go_big_quiet_op; go_big_quiet_on)))
        refine wpQuiet_nil ?_
        have hfin : NewO (op0 9 1) w1 (.pointer (some ⟨Z, 0, none⟩)) (putOp w4 Z (op0 9 1)) := ⟨_, rfl, hbx4.put _, hlz, below_putOp hb4 hlz _⟩
        refine wpRT_one rfl ?_; simp only [List.getElem_toArray, List.getElem_cons_succ, List.getElem_cons_zero]
        go_wp2_with (refine wpList_store_eq (T := 35) (v := opV (op0 9 1)) rfl rfl rfl rfl (OpBox.store hbx4 (op0 9 1)) ?_)
        refine ⟨MStep.to (Mods.of_below (below_putOp hb4 hlz _)), ?_⟩
        refine wpRT_nil ?_
        go_wp2
        go_meet
        exact hfin
    · refine wpRT_one rfl ?_; simp only [List.getElem_toArray, List.getElem_cons_succ, List.getElem_cons_zero]
      go_wp2
      have hbx2 : OpBox (w1.alloc (.cells (encOp opZero).toArray 35)).drew w1.heap.size opZero := bz w1
      have hb2 : Below w1.heap.size w1 (w1.alloc (.cells (encOp opZero).toArray 35)).drew := ((Below.refl _ _).alloc (Nat.le_refl _) _).drew
      refine ⟨MStep.to (Mods.of_below hb2), ?_⟩
      change wpRT _ _ _ _ _ _ (w1.alloc (.cells (encOp opZero).toArray 35)).drew
      have hlx := hbx2.lt
      have hlz := Nat.le_refl w1.heap.size
      generalize (w1.alloc (.cells (encOp opZero).toArray 35)).drew = W2 at hbx2 hb2 hlx ⊢
      obtain ⟨Z, hZ⟩ : ∃ Z, w1.heap.size = Z := ⟨_, rfl⟩
      rw [hZ] at hbx2 hlx ⊢
      have HZ := Lib.hid hZ
      clear hZ hlz
      refine wpRT_one rfl ?_; simp only [List.getElem_toArray, List.getElem_cons_succ, List.getElem_cons_zero]
      go_wp2_with (go_at_call 12; refine (hnx W2 hb2).mono ?_; rintro e w3 ⟨rfl, hb3'⟩)
      have hb3 := belowTrans hb2 hb3'
      have hbx3 := hbx2.below hb3' hlx
      refine ⟨MStep.to (Mods.of_below hb3), ?_⟩
      refine wpRT_rd ?_
      simp only [List.map_cons, List.map_nil, List.getElem?_toArray, List.getElem?_cons_succ, List.getElem?_cons_zero, Option.getD_some]
      repeat (first | go_big_quiet_skip | (go_big_quiet_want; first | (fail; go_frame; go_big_quiet_on) | (go_big_quiet_op; go_big_quiet_on)))
      refine wpQuiet_nil ?_
      have hlx3 := hbx3.lt
      refine wpRT_one rfl ?_; simp only [List.getElem_toArray, List.getElem_cons_succ, List.getElem_cons_zero]
      go_wp2_with (go_at_call 42; refine (hcl _).mono ?_; rintro e w4 ⟨rfl, hb4'⟩)
      have hb4 := belowTrans hb3 hb4'
      have hbx4 := hbx3.below hb4' hlx3
      refine ⟨MStep.to (Mods.of_below hb4), ?_⟩
      refine wpRT_rd ?_
      simp only [List.map_cons, List.map_nil, List.getElem?_toArray, List.getElem?_cons_succ, List.getElem?_cons_zero, Option.getD_some]
      repeat (first | go_big_quiet_skip | (go_big_quiet_want; first | (fail; go_frame; go_big_quiet_on) | (go_big_quiet_op; go_big_quiet_on)))
      refine wpQuiet_nil ?_
      have hfin : NewO (op0 9 1) w1 (.pointer (some ⟨Z, 0, none⟩)) (putOp w4 Z (op0 9 1)) := ⟨_, rfl, hbx4.put _, Nat.le_of_eq HZ.out, below_putOp hb4 (Nat.le_of_eq HZ.out) _⟩
      refine wpRT_one rfl ?_; simp only [List.getElem_toArray, List.getElem_cons_succ, List.getElem_cons_zero]
      go_wp2_with (refine wpList_store_eq (T := 35) (v := opV (op0 9 1)) rfl rfl rfl rfl (OpBox.store hbx4 (op0 9 1)) ?_)
      refine ⟨MStep.to (Mods.of_below (below_putOp hb4 (Nat.le_of_eq HZ.out) _)), ?_⟩
      refine wpRT_nil ?_
      go_wp2
      go_meet
      exact hfin
  case rest =>
    obtain ⟨ob, rfl, hbx, hob, hbc⟩ := hcut
    have hBc := belowTrans hB1 hbc
    have hec := (hbc.block _ hel1).trans he1
    have hrl1 := (Array.getElem?_eq_some_iff.1 hrb1).1
    have hrc : updBox wc (w.heap.size + 1) := (hbc.block _ hrl1).trans hrb1
    have helc := (Array.getElem?_eq_some_iff.1 hec).1
    clear hnx he1 hrb1 e4 e5 e6 e7 hN hcl hun
    have x0 : wc.cell? ⟨w.heap.size, 0, none⟩ = some (.int .i64 5) := by simp [World.cell?, hec]
    have x8 : wc.cell? ⟨w.heap.size, 8, none⟩ = some (.string ⟨#[107]⟩) := by simp [World.cell?, hec]
    have hky := editKey_k wc (hT.below hBc)
    have hobl := hbx.lt
    go_upto_region 38 with (go_at_call 50; refine hky.mono ?_; rintro e w8 ⟨rfl, hb8⟩)
    have hB8 := belowTrans hBc hb8
    have he8 := (hb8.block _ helc).trans hec
    have hel8 := (Array.getElem?_eq_some_iff.1 he8).1
    have hrc8 : updBox w8 (w.heap.size + 1) := (hb8.block _ (Array.getElem?_eq_some_iff.1 hrc).1).trans hrc
    have hbx8 := hbx.below hb8 hobl
    clear x0 x8 hky hb8 hec hrc hbx
    obtain ⟨W8, hW8⟩ : ∃ W8, W8 = w8 := ⟨_, rfl⟩
    rw [← hW8] at hB8 he8 hel8 hrc8 hbx8 ⊢
    clear hW8
    have e9 : ∀ s : MStep (fun _ => False) W8, s.val.cell? ⟨w.heap.size, 9, none⟩ = some (.slice none 0 0) := MStep.cell hel8 id (by simp [World.cell?, he8])
    have hmaps := fun W (hb : Below W8.heap.size W8 W) => docMaps_set n s F kl wl hv vv s W (hd.keep fun b g => (belowTrans hB8 hb).block b (by omega)) (hm.mods (Mods.of_below (belowTrans hB8 hb)) fun b g => id) ((World.cell?_of_block (w := w) ((belowTrans hB8 hb).block (n + 10) (by omega))).trans hh)
    have hfind : ∀ (b : Nat) (W : World), True → Below W8.heap.size W8 W → Calls Tryz.prog 52 #[.pointer (some ⟨b, 0, none⟩), .slice none 0 0] W fun e w' => e = .returned (.tuple #[.agg #[.int .u64 idZero.c, .int .u64 idZero.k], .bool true]) ∧ Below W.heap.size W w' := fun b W _ _ => findNil ⟨b, 0, none⟩ W
    have hXb := fun (b : Nat) (W W' : World) (_ : True) (_ : Below W.heap.size W W') => True.intro
    go_cut [14, 15] (fun p ok wx => PathN (idZero) true W8 p ok wx)
    case first =>
      refine wp_region_flow7 (.rd [0, 2, 3] (.two 1 (.two 4 (.rd [5, 6, 7] (.one 8 (.one 9 (.rd [10] .nil)))) 8 (.one 4 (.rd [5, 6, 7] (.one 9 (.rd [10] .nil))))) 8 (.one 1 (.one 4 (.rd [5, 6, 7] (.one 9 (.rd [10] .nil))))))) (fun w' => ∃ s : MStep (fun _ => False) W8, w' = s.val) (by kernel_rfl) (by kernel_rfl) (fun _ _ d _ _ h => by cases d <;> exact h) (MStep.to (Mods.refl _ _).drew) ?_
      refine wpRT_rd ?_
      simp only [List.map_cons, List.map_nil, List.getElem?_toArray, List.getElem?_cons_succ, List.getElem?_cons_zero, Option.getD_some]
      repeat (first | go_big_quiet_skip | (go_big_quiet_want; first | (fail; go_frame; go_big_quiet_on) | (go_big_quiet_op; go_big_quiet_on)))
      refine wpQuiet_nil ?_
      have hb0 : Below W8.heap.size W8 W8.drew := (Below.refl _ _).drew
      refine wpRT_two ?_ ?_
      · refine wpRT_one rfl ?_; simp only [List.getElem_toArray, List.getElem_cons_succ, List.getElem_cons_zero]
        go_wp2_with (go_at_call 51; refine (hmaps W8.drew hb0).mono ?_; rintro e w2 ⟨mb, rfl, hX2, hb2'⟩)
        have hb2 := belowTrans hb0 hb2'
        refine ⟨MStep.to (Mods.of_below hb2), ?_⟩
        refine wpRT_two ?_ ?_
        · refine wpRT_one rfl ?_; simp only [List.getElem_toArray, List.getElem_cons_succ, List.getElem_cons_zero]
          go_wp2_with (go_at_call 52; refine (hfind mb w2 hX2 hb2).mono ?_; rintro e w3 ⟨rfl, hb3'⟩)
          have hb3 := belowTrans hb2 hb3'
          refine ⟨MStep.to (Mods.of_below hb3), ?_⟩
          refine wpRT_rd ?_
          simp only [List.map_cons, List.map_nil, List.getElem?_toArray, List.getElem?_cons_succ, List.getElem?_cons_zero, Option.getD_some]
          repeat (first | go_big_quiet_skip | (go_big_quiet_want; first | (fail; go_frame; go_big_quiet_on) | (go_big_quiet_op; go_big_quiet_on)))
          refine wpQuiet_nil ?_
          refine wpRT_one rfl ?_; simp only [List.getElem_toArray, List.getElem_cons_succ, List.getElem_cons_zero]
          go_wp2
          have hh : (w3.alloc (.cells #[.int .u64 0, .int .u64 0] 28)).heap[w3.heap.size]? = some (.cells #[.int .u64 0, .int .u64 0] 28 (0, 0)) := World.alloc_heap_new _ _
          have hb4 : Below W8.heap.size W8 (w3.alloc (.cells #[.int .u64 0, .int .u64 0] 28)) := hb3.alloc hb3.size _
          have hz4 := hb3.size
          refine ⟨MStep.to (Mods.of_below hb4), ?_⟩
          generalize w3.alloc (.cells #[.int .u64 0, .int .u64 0] 28) = W4 at hh hb4 ⊢
          generalize w3.heap.size = pb at hh hz4 ⊢
          have f0 : W4.frozen? ⟨pb, 0, none⟩ = false := by simp [World.frozen?, hh]
          have f1 : W4.frozen? ⟨pb, 1, none⟩ = false := by simp [World.frozen?, hh]
          have c0 : W4.cell? ⟨pb, 0, none⟩ = some (.int .u64 0) := by simp [World.cell?, hh]
          have c1 : W4.cell? ⟨pb, 1, none⟩ = some (.int .u64 0) := by simp [World.cell?, hh]
          refine wpRT_one rfl ?_; simp only [List.getElem_toArray, List.getElem_cons_succ, List.getElem_cons_zero]
          go_wp2
          have hb5 := (hb4.setCell (p := ⟨pb, 0, none⟩) hz4 (.int .u64 (idZero).c)).setCell (p := ⟨pb, 1, none⟩) hz4 (.int .u64 (idZero).k)
          refine ⟨MStep.to (Mods.of_below hb5), ?_⟩
          refine wpRT_rd ?_
          simp only [List.map_cons, List.map_nil, List.getElem?_toArray, List.getElem?_cons_succ, List.getElem?_cons_zero, Option.getD_some]
          repeat (first | go_big_quiet_skip | (go_big_quiet_want; first | (fail; go_frame; go_big_quiet_on) | (go_big_quiet_op; go_big_quiet_on)))
          refine wpQuiet_nil ?_
          refine wpRT_nil ?_
          go_wp2
          go_meet
          exact ⟨pb, rfl, rfl, by simp [World.setCell, Array.getElem?_modify, hh], hz4, hb5⟩
        · refine wpRT_one rfl ?_; simp only [List.getElem_toArray, List.getElem_cons_succ, List.getElem_cons_zero]
          go_wp2
          have hh : (w2.alloc (.cells #[.int .u64 0, .int .u64 0] 28)).heap[w2.heap.size]? = some (.cells #[.int .u64 0, .int .u64 0] 28 (0, 0)) := World.alloc_heap_new _ _
          have hb4 : Below W8.heap.size W8 (w2.alloc (.cells #[.int .u64 0, .int .u64 0] 28)) := hb2.alloc hb2.size _
          have hX4 := hXb mb _ _ hX2 (show Below w2.heap.size w2 (w2.alloc (.cells #[.int .u64 0, .int .u64 0] 28)) from (Below.refl _ _).alloc (Nat.le_refl _) _)
          have hz4 := hb2.size
          refine ⟨MStep.to (Mods.of_below hb4), ?_⟩
          generalize w2.alloc (.cells #[.int .u64 0, .int .u64 0] 28) = W4 at hh hb4 hX4 ⊢
          generalize w2.heap.size = pb at hh hz4 ⊢
          refine wpRT_one rfl ?_; simp only [List.getElem_toArray, List.getElem_cons_succ, List.getElem_cons_zero]
          go_wp2_with (go_at_call 52; refine (hfind mb W4 hX4 hb4).mono ?_; rintro e w3 ⟨rfl, hb3'⟩)
          have hb3 := belowTrans hb4 hb3'
          have hh3 := (hb3'.block pb (Array.getElem?_eq_some_iff.1 hh).1).trans hh
          refine ⟨MStep.to (Mods.of_below hb3), ?_⟩
          refine wpRT_rd ?_
          simp only [List.map_cons, List.map_nil, List.getElem?_toArray, List.getElem?_cons_succ, List.getElem?_cons_zero, Option.getD_some]
          repeat (first | go_big_quiet_skip | (go_big_quiet_want; first | (fail; go_frame; go_big_quiet_on) | (go_big_quiet_op; go_big_quiet_on)))
          refine wpQuiet_nil ?_
          have f0 : w3.frozen? ⟨pb, 0, none⟩ = false := by simp [World.frozen?, hh3]
          have f1 : w3.frozen? ⟨pb, 1, none⟩ = false := by simp [World.frozen?, hh3]
          have c0 : w3.cell? ⟨pb, 0, none⟩ = some (.int .u64 0) := by simp [World.cell?, hh3]
          have c1 : w3.cell? ⟨pb, 1, none⟩ = some (.int .u64 0) := by simp [World.cell?, hh3]
          refine wpRT_one rfl ?_; simp only [List.getElem_toArray, List.getElem_cons_succ, List.getElem_cons_zero]
          go_wp2
          have hb5 := (hb3.setCell (p := ⟨pb, 0, none⟩) hz4 (.int .u64 (idZero).c)).setCell (p := ⟨pb, 1, none⟩) hz4 (.int .u64 (idZero).k)
          refine ⟨MStep.to (Mods.of_below hb5), ?_⟩
          refine wpRT_rd ?_
          simp only [List.map_cons, List.map_nil, List.getElem?_toArray, List.getElem?_cons_succ, List.getElem?_cons_zero, Option.getD_some]
          repeat (first | go_big_quiet_skip | (go_big_quiet_want; first | (fail; go_frame; go_big_quiet_on) | (go_big_quiet_op; go_big_quiet_on)))
          refine wpQuiet_nil ?_
          refine wpRT_nil ?_
          go_wp2
          go_meet
          exact ⟨pb, rfl, rfl, by simp [World.setCell, Array.getElem?_modify, hh3], hz4, hb5⟩
      · refine wpRT_one rfl ?_; simp only [List.getElem_toArray, List.getElem_cons_succ, List.getElem_cons_zero]
        go_wp2
        have hh : (W8.alloc (.cells #[.int .u64 0, .int .u64 0] 28)).drew.heap[W8.heap.size]? = some (.cells #[.int .u64 0, .int .u64 0] 28 (0, 0)) := World.alloc_heap_new _ _
        have hb4 : Below W8.heap.size W8 (W8.alloc (.cells #[.int .u64 0, .int .u64 0] 28)).drew := ((Below.refl _ _).alloc (Nat.le_refl _) _).drew
        have hz4 := Nat.le_refl W8.heap.size
        refine ⟨MStep.to (Mods.of_below hb4), ?_⟩
        generalize (W8.alloc (.cells #[.int .u64 0, .int .u64 0] 28)).drew = W4 at hh hb4 ⊢
        obtain ⟨pb, hpb⟩ : ∃ pb, W8.heap.size = pb := ⟨_, rfl⟩
        rw [hpb] at hh ⊢
        have HPB := Lib.hid hpb
        clear hpb hz4
        refine wpRT_one rfl ?_; simp only [List.getElem_toArray, List.getElem_cons_succ, List.getElem_cons_zero]
        go_wp2_with (go_at_call 51; refine (hmaps W4 hb4).mono ?_; rintro e w2 ⟨mb, rfl, hX2, hb2'⟩)
        have hb2 := belowTrans hb4 hb2'
        have hh2 := (hb2'.block pb (Array.getElem?_eq_some_iff.1 hh).1).trans hh
        refine ⟨MStep.to (Mods.of_below hb2), ?_⟩
        refine wpRT_one rfl ?_; simp only [List.getElem_toArray, List.getElem_cons_succ, List.getElem_cons_zero]
        go_wp2_with (go_at_call 52; refine (hfind mb w2 hX2 hb2).mono ?_; rintro e w3 ⟨rfl, hb3'⟩)
        have hb3 := belowTrans hb2 hb3'
        have hh3 := (hb3'.block pb (Array.getElem?_eq_some_iff.1 hh2).1).trans hh2
        refine ⟨MStep.to (Mods.of_below hb3), ?_⟩
        refine wpRT_rd ?_
        simp only [List.map_cons, List.map_nil, List.getElem?_toArray, List.getElem?_cons_succ, List.getElem?_cons_zero, Option.getD_some]
        repeat (first | go_big_quiet_skip | (go_big_quiet_want; first | (fail; go_frame; go_big_quiet_on) | (go_big_quiet_op; go_big_quiet_on)))
        refine wpQuiet_nil ?_
        have f0 : w3.frozen? ⟨pb, 0, none⟩ = false := by simp [World.frozen?, hh3]
        have f1 : w3.frozen? ⟨pb, 1, none⟩ = false := by simp [World.frozen?, hh3]
        have c0 : w3.cell? ⟨pb, 0, none⟩ = some (.int .u64 0) := by simp [World.cell?, hh3]
        have c1 : w3.cell? ⟨pb, 1, none⟩ = some (.int .u64 0) := by simp [World.cell?, hh3]
        refine wpRT_one rfl ?_; simp only [List.getElem_toArray, List.getElem_cons_succ, List.getElem_cons_zero]
        go_wp2
        have hz4 : W8.heap.size ≤ pb := Nat.le_of_eq HPB.out
        have hb5 := (hb3.setCell (p := ⟨pb, 0, none⟩) hz4 (.int .u64 (idZero).c)).setCell (p := ⟨pb, 1, none⟩) hz4 (.int .u64 (idZero).k)
        refine ⟨MStep.to (Mods.of_below hb5), ?_⟩
        refine wpRT_rd ?_
        simp only [List.map_cons, List.map_nil, List.getElem?_toArray, List.getElem?_cons_succ, List.getElem?_cons_zero, Option.getD_some]
        repeat (first | go_big_quiet_skip | (go_big_quiet_want; first | (fail; go_frame; go_big_quiet_on) | (go_big_quiet_op; go_big_quiet_on)))
        refine wpQuiet_nil ?_
        refine wpRT_nil ?_
        go_wp2
        go_meet
        exact ⟨pb, rfl, rfl, by simp [World.setCell, Array.getElem?_modify, hh3], hz4, hb5⟩
    case rest =>
      obtain ⟨qb, rfl, rfl, hqb, hqw, hb9⟩ := hcut
      clear hmaps hfind hXb e9 hm hh hF
      have hBc := belowTrans hB8 hb9
      have hec := (hb9.block _ hel8).trans he8
      have helc := (Array.getElem?_eq_some_iff.1 hec).1
      have hrcc : updBox wc (w.heap.size + 1) := (hb9.block _ (Array.getElem?_eq_some_iff.1 hrc8).1).trans hrc8
      have hobl8 := hbx8.lt
      have hbxc := hbx8.below hb9 hobl8
      have hq1 := (Array.getElem?_eq_some_iff.1 hqb).1
      have e4 : wc.cell? ⟨w.heap.size, 4, none⟩ = some (.int .i64 0) := by simp [World.cell?, hec]
      have e5 : wc.cell? ⟨w.heap.size, 5, none⟩ = some (.int .i64 0) := by simp [World.cell?, hec]
      have e6 : wc.cell? ⟨w.heap.size, 6, none⟩ = some (.float .f64 0) := by simp [World.cell?, hec]
      have e7 : wc.cell? ⟨w.heap.size, 7, none⟩ = some (.string ⟨#[]⟩) := by simp [World.cell?, hec]
      have hvl := editVal_zero wc
      go_upto_region 42 with (go_at_call 43; refine hvl.mono ?_; rintro e w4 ⟨rfl, hb4⟩)
      have hB4 := belowTrans hBc hb4
      have hec4 := (hb4.block _ helc).trans hec
      have hel4 := (Array.getElem?_eq_some_iff.1 hec4).1
      have hrc4 : updBox w4 (w.heap.size + 1) := (hb4.block _ (Array.getElem?_eq_some_iff.1 hrcc).1).trans hrcc
      have hbx4 := hbxc.below hb4 hbxc.lt
      have hq4 := (hb4.block _ hq1).trans hqb
      have hql4 := (Array.getElem?_eq_some_iff.1 hq4).1
      have hobw := hbx4.lt
      clear e4 e5 e6 e7 hvl hb4 hec hrcc hbxc hqb hBc hb9
      have hqo : ¬ qb = ob := by omega
      have hso := stamp_any n kl wl hv vv s
      have y5 : ∀ s : MStep (fun b => b = ob) w4, s.val.cell? ⟨w.heap.size, 5 + 3, none⟩ = some (.string ⟨#[107]⟩) := MStep.cell hel4 (by show ¬ w.heap.size = ob; omega) (by simp [World.cell?, hec4])
      have q0 : ∀ s : MStep (fun b => b = ob) w4, s.val.cell? ⟨qb, 0, none⟩ = some (.int .u64 0) := MStep.cell hql4 hqo (by simp [World.cell?, hq4]; rfl)
      have q1 : ∀ s : MStep (fun b => b = ob) w4, s.val.cell? ⟨qb, 1, none⟩ = some (.int .u64 0) := MStep.cell hql4 hqo (by simp [World.cell?, hq4]; rfl)
      have hsw : IntKind.u64.wrap (s + 1) = s + 1 := by simp [IntKind.wrap, IntKind.bits, IntKind.signed]; omega
      refine wp_region_flow7 (.rd [0, 1, 2, 5, 6] (.one 3 (.rd [4] (.one 7 (.rd [8] (.one 9 (.rd [10] (.one 11 (.rd [12] (.one 13 .nil)))))))))) (fun w' => ∃ s : MStep (fun b => b = ob) w4, w' = s.val) (by kernel_rfl) (by kernel_rfl) (fun _ _ d _ _ h => by cases d <;> exact h) (MStep.to (Mods.refl _ _).drew) ?_
      refine wpRT_rd ?_
      simp only [List.map_cons, List.map_nil, List.getElem?_toArray, List.getElem?_cons_succ, List.getElem?_cons_zero, Option.getD_some]
      repeat (first | go_big_quiet_skip | (go_big_quiet_want; first | (fail; go_frame; go_big_quiet_on) | (go_big_quiet_op; go_big_quiet_on)))
      refine wpQuiet_nil ?_
      refine wpRT_one rfl ?_; simp only [List.getElem_toArray, List.getElem_cons_succ, List.getElem_cons_zero]
      go_wp2_with (go_at_call 8; refine (hso w4.drew (hd.keep fun b g => hB4.block b (by omega))).mono ?_; rintro e w5 ⟨rfl, hb5'⟩)
      have hb5 : Below w4.heap.size w4 w5 := belowTrans (Below.refl _ _).drew hb5'
      refine ⟨MStep.to (Mods.of_below hb5), ?_⟩
      refine wpRT_rd ?_
      simp only [List.map_cons, List.map_nil, List.getElem?_toArray, List.getElem?_cons_succ, List.getElem?_cons_zero, Option.getD_some]
      repeat (first | go_big_quiet_skip | (go_big_quiet_want; first | (fail; go_frame; go_big_quiet_on) | (go_big_quiet_op; go_big_quiet_on)))
      refine wpQuiet_nil ?_
      have hbx5 := hbx4.below hb5 hobw
      have o2 : w5.cell? ⟨ob, 2, none⟩ = some (.int .i64 0) := hbx5.cells 2 _ rfl
      have f2 := hbx5.f 2
      refine wpRT_one rfl ?_; simp only [List.getElem_toArray, List.getElem_cons_succ, List.getElem_cons_zero]
      go_wp2
      have hbx6 : OpBox (w5.setCell ⟨ob, 2, none⟩ (.int .i64 4)) ob (opK 9 1 4) := hbx5.setG rfl
      have hM6 : Mods (fun b => b = ob) w4 (w5.setCell ⟨ob, 2, none⟩ (.int .i64 4)) := (Mods.of_below (S := fun b => b = ob) hb5).setC (p := ⟨ob, 2, none⟩) (.inl rfl) _
      refine ⟨MStep.to hM6, ?_⟩
      generalize w5.setCell ⟨ob, 2, none⟩ (.int .i64 4) = W6 at hbx6 hM6 ⊢
      refine wpRT_rd ?_
      simp only [List.map_cons, List.map_nil, List.getElem?_toArray, List.getElem?_cons_succ, List.getElem?_cons_zero, Option.getD_some]
      repeat (first | go_big_quiet_skip | (go_big_quiet_want; first | (fail; go_frame; go_big_quiet_on) | (go_big_quiet_op; go_big_quiet_on)))
      refine wpQuiet_nil ?_
      have o13 : W6.cell? ⟨ob, 13, none⟩ = some (.string ⟨#[]⟩) := hbx6.cells 13 _ rfl
      have f13 := hbx6.f 13
      refine wpRT_one rfl ?_; simp only [List.getElem_toArray, List.getElem_cons_succ, List.getElem_cons_zero]
      go_wp2
      have hbx7 : OpBox (W6.setCell ⟨ob, 13, none⟩ (.string ⟨#[107]⟩)) ob ⟨⟨9, 1⟩, 4, 0, idZero, idZero, ⟨#[]⟩, valZero, ⟨#[107]⟩, idZero, idZero, false, idZero, false⟩ := hbx6.setG rfl
      have hM7 : Mods (fun b => b = ob) w4 (W6.setCell ⟨ob, 13, none⟩ (.string ⟨#[107]⟩)) := hM6.setC (p := ⟨ob, 13, none⟩) (.inl rfl) _
      refine ⟨MStep.to hM7, ?_⟩
      generalize W6.setCell ⟨ob, 13, none⟩ (.string ⟨#[107]⟩) = W7 at hbx7 hM7 ⊢
      refine wpRT_rd ?_
      simp only [List.map_cons, List.map_nil, List.getElem?_toArray, List.getElem?_cons_succ, List.getElem?_cons_zero, Option.getD_some]
      repeat (first | go_big_quiet_skip | (go_big_quiet_want; first | (fail; go_frame; go_big_quiet_on) | (go_big_quiet_op; go_big_quiet_on)))
      refine wpQuiet_nil ?_
      have o3 : W7.cell? ⟨ob, 3, none⟩ = some (.int .u64 0) := hbx7.cells 3 _ rfl
      have f3 := hbx7.f 3
      refine wpRT_one rfl ?_; simp only [List.getElem_toArray, List.getElem_cons_succ, List.getElem_cons_zero]
      go_wp2
      have hbx8 : OpBox (W7.setCell ⟨ob, 3, none⟩ (.int .u64 (s + 1))) ob (oS s) := hbx7.setG rfl
      have hM8 : Mods (fun b => b = ob) w4 (W7.setCell ⟨ob, 3, none⟩ (.int .u64 (s + 1))) := hM7.setC (p := ⟨ob, 3, none⟩) (.inl rfl) _
      refine ⟨MStep.to hM8, ?_⟩
      generalize W7.setCell ⟨ob, 3, none⟩ (.int .u64 (s + 1)) = W9 at hbx8 hM8 ⊢
      refine wpRT_rd ?_
      simp only [List.map_cons, List.map_nil, List.getElem?_toArray, List.getElem?_cons_succ, List.getElem?_cons_zero, Option.getD_some]
      repeat (first | go_big_quiet_skip | (go_big_quiet_want; first | (fail; go_frame; go_big_quiet_on) | (go_big_quiet_op; go_big_quiet_on)))
      refine wpQuiet_nil ?_
      have o14 : W9.cell? ⟨ob, 14, none⟩ = some (.int .u64 0) := hbx8.cells 14 _ rfl
      have o15 : W9.cell? ⟨ob, 15, none⟩ = some (.int .u64 0) := hbx8.cells 15 _ rfl
      have f14 := hbx8.f 14
      have f15 := hbx8.f 15
      refine wpRT_one rfl ?_; simp only [List.getElem_toArray, List.getElem_cons_succ, List.getElem_cons_zero]
      go_wp2
      have hbx10 : OpBox ((W9.setCell ⟨ob, 14, none⟩ (.int .u64 0)).setCell ⟨ob, 15, none⟩ (.int .u64 0)) ob (oS s) := hbx8.setP idZero
      have hM10 : Mods (fun b => b = ob) w4 ((W9.setCell ⟨ob, 14, none⟩ (.int .u64 0)).setCell ⟨ob, 15, none⟩ (.int .u64 0)) := (hM8.setC (p := ⟨ob, 14, none⟩) (.inl rfl) _).setC (p := ⟨ob, 15, none⟩) (.inl rfl) _
      refine ⟨MStep.to hM10, ?_⟩
      refine wpRT_nil ?_
      obtain ⟨W10, hW10⟩ : ∃ W10, W10 = (W9.setCell ⟨ob, 14, none⟩ (.int .u64 0)).setCell ⟨ob, 15, none⟩ (.int .u64 0) := ⟨_, rfl⟩
      rw [← hW10] at hbx10 hM10 ⊢
      clear hW10
      clear o2 f2 o13 f13 o3 f3 o14 o15 f14 f15 y5 q0 q1 hbx4 hbx5 hbx6 hbx7 hbx8 hM6 hM7 hM8 hsw hso hb5 hb5'
      have hB9 : Below w.heap.size w W10 := ⟨hM10.os.trans hB4.os, hM10.tape.trans hB4.tape, hM10.output.trans hB4.output, Nat.le_trans hB4.size hM10.size, fun k hk => (hM10.block k (Nat.lt_of_lt_of_le hk hB4.size) (by omega)).trans (hB4.block k hk)⟩
      have hrc9 : updBox W10 (w.heap.size + 1) := (hM10.block _ (Array.getElem?_eq_some_iff.1 hrc4).1 (by omega)).trans hrc4
      have hbx9 := hbx10
      have hrg : ∀ W, Tabs W → Calls Tryz.prog 31 #[opV (oS s)] W fun e w' => e = .returned (.agg #[.int .u64 9, .int .u64 1, .int .u64 2]) ∧ Below W.heap.size W w' := fun W hT => opsRange_any (oS s) W (by show 0 < _; decide) (by show (0 : Int) ≤ 1; decide) (by show (1 : Int) + 1 < _; decide) hT
      clear hec4 hrc4 hbx10 hq4 hM10
      generalize W10 = W9 at hB9 hrc9 hbx9 ⊢
      rcases Int.lt_or_le s 9007199254740991 with hlt | hge
      · have hdS : decide ((9007199254740991 : Int) < s + 1) = false := by simp; omega
        have HLT := Lib.hid hlt
        clear hf hlt
        have st3 : W9.cell? ⟨ob, 3, none⟩ = some (.int .u64 (s + 1)) := hbx9.cells 3 _ rfl
        have hfd : ∀ (a b d : Int) (w : World), (Instr.field 95 (.agg #[.int .u64 a, .int .u64 b, .int .u64 d]) 2).run Tryz.prog w = .ok (.int .u64 d) w := fun _ _ _ _ => by kernel_rfl
        have hT9 := hT.below hB9
        have hobl9 := hbx9.lt
        have hrl9 := (Array.getElem?_eq_some_iff.1 hrc9).1
        go_upto_region 45 with (first | (refine wpList_load_eq (T := 35) (v := opV (oS s)) rfl rfl rfl hbx9.load ?_) | (go_at_call 31; refine (hrg W9 hT9).mono ?_; rintro e w10 ⟨rfl, hb10⟩; have st3' := (hb10.cell (p := ⟨ob, 3, none⟩) hobl9).trans st3))
        have hbx10 := hbx9.below hb10 hobl9
        have hB10 := belowTrans hB9 hb10
        have hrc10 : updBox w10 (w.heap.size + 1) := (hb10.block _ hrl9).trans hrc9
        clear st3 st3' hbx9 hrc9 hT9
        have hz10 := hB10.size
        have hlo10 := hb10.size
        have hrc11 : updBox (w10.alloc (.cells (encOp (oS s)).toArray 35)) (w.heap.size + 1) := (Below.heap_alloc _ _ _ (by omega)).trans hrc10
        have hbx11 : OpBox (w10.alloc (.cells (encOp (oS s)).toArray 35)) w10.heap.size (oS s) := OpBox.new w10 (oS s)
        have hB11 : Below w.heap.size w (w10.alloc (.cells (encOp (oS s)).toArray 35)) := hB10.alloc hB10.size _
        have hu11 := hrc11
        unfold updBox at hu11
        have u0 : (w10.alloc (.cells (encOp (oS s)).toArray 35)).cell? ⟨w.heap.size + 1, 0, none⟩ = some (.slice none 0 0) := by simp only [World.cell?, hu11]; simp
        have u1 : (w10.alloc (.cells (encOp (oS s)).toArray 35)).cell? ⟨w.heap.size + 1, 1, none⟩ = some (.slice none 0 0) := by simp only [World.cell?, hu11]; simp
        have uf : (w10.alloc (.cells (encOp (oS s)).toArray 35)).frozen? ⟨w.heap.size + 1, 0, none⟩ = false := by simp only [World.frozen?, hu11]; simp
        have uf1 : (w10.alloc (.cells (encOp (oS s)).toArray 35)).frozen? ⟨w.heap.size + 1, 1, none⟩ = false := by simp only [World.frozen?, hu11]; simp
        obtain ⟨W11, hW11⟩ : ∃ W11, w10.alloc (.cells (encOp (oS s)).toArray 35) = W11 := ⟨_, rfl⟩
        rw [hW11] at hrc11 hbx11 hB11 hu11 u0 u1 uf uf1
        go_wp2_with (first | (refine wpList_load_eq (T := 35) (v := opV (oS s)) rfl rfl rfl hbx10.load ?_) | (refine wpList_sliceOp (oS s) rfl _ rfl rfl ?_; rw [hW11]; clear hW11))
        have a0 : ((W11.setCell ⟨w.heap.size + 1, 0, none⟩ (.slice (some ⟨w10.heap.size, 0, none⟩) 1 1)).setCell ⟨w.heap.size + 1, 1, none⟩ (.slice none 0 0)).cell? ⟨w.heap.size + 1, 0, none⟩ = some (.slice (some ⟨w10.heap.size, 0, none⟩) 1 1) := by simp [World.cell?, World.setCell, Array.getElem?_modify, hu11]
        have a1 : ((W11.setCell ⟨w.heap.size + 1, 0, none⟩ (.slice (some ⟨w10.heap.size, 0, none⟩) 1 1)).setCell ⟨w.heap.size + 1, 1, none⟩ (.slice none 0 0)).cell? ⟨w.heap.size + 1, 1, none⟩ = some (.slice none 0 0) := by simp [World.cell?, World.setCell, Array.getElem?_modify, hu11]
        have hbx12 : OpBox ((W11.setCell ⟨w.heap.size + 1, 0, none⟩ (.slice (some ⟨w10.heap.size, 0, none⟩) 1 1)).setCell ⟨w.heap.size + 1, 1, none⟩ (.slice none 0 0)) w10.heap.size (oS s) := (Below.heap_setCell _ _ _ _ (by show ¬ w10.heap.size = w.heap.size + 1; omega)).trans ((Below.heap_setCell _ _ _ _ (by show ¬ w10.heap.size = w.heap.size + 1; omega)).trans hbx11)
        have hB12 := (hB11.setCell (p := ⟨w.heap.size + 1, 0, none⟩) (by show w.heap.size ≤ w.heap.size + 1; omega) (.slice (some ⟨w10.heap.size, 0, none⟩) 1 1)).setCell (p := ⟨w.heap.size + 1, 1, none⟩) (by show w.heap.size ≤ w.heap.size + 1; omega) (.slice none 0 0)
        refine bodyPost_ret (v := .agg #[.slice (some ⟨w10.heap.size, 0, none⟩) 1 1, .slice none 0 0]) ?_ rfl (.inl ⟨HLT.out,⟨_, rfl, hbx12.cells, hz10, hbx12.lt, hB12⟩⟩)
        simp [results, Tryz.results26, go_sem, a0, a1]
      · have hge2 : s = 9007199254740991 := by omega
        have hdS : decide ((9007199254740991 : Int) < s + 1) = true := by simp; omega
        have HGE := Lib.hid hge2
        clear hge2 hge
        have st3 : W9.cell? ⟨ob, 3, none⟩ = some (.int .u64 (s + 1)) := hbx9.cells 3 _ rfl
        have hfd : ∀ (a b d : Int) (w : World), (Instr.field 95 (.agg #[.int .u64 a, .int .u64 b, .int .u64 d]) 2).run Tryz.prog w = .ok (.int .u64 d) w := fun _ _ _ _ => by kernel_rfl
        have hT9 := hT.below hB9
        have hobl9 := hbx9.lt
        go_wp2_with (first | (refine wpList_load_eq (T := 35) (v := opV (oS s)) rfl rfl rfl hbx9.load ?_) | (go_at_call 31; refine (hrg W9 hT9).mono ?_; rintro e w10 ⟨rfl, hb10⟩; have st3' := (hb10.cell (p := ⟨ob, 3, none⟩) hobl9).trans st3) | (go_at_call 40; refine (hf _).mono ?_; rintro e w11 ⟨rfl, rfl⟩))
        exact ⟨rfl, .inr ⟨HGE.out, rfl, belowTrans hB9 hb10⟩⟩
end Go.Proofs.YthhbiliimdpgmaaGreatDoor
