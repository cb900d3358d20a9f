/- Walk: Apply of the text "ab" of client 7 to a new document. -/
import Derived.Test.YthhbiliimdpgmaaGreatDoorM42
import Derived.Test.YthhbiliimdpgmaaGreatDoorM40
import Derived.Test.YthhbiliimdpgmaaGreatDoorM13
import Derived.Test.YthhbiliimdpgmaaGreatDoorM18
import Derived.Test.YthhbiliimdpgmaaGreatDoorM41
namespace Go.Proofs.YthhbiliimdpgmaaGreatDoor
open Go.RowKit Go.Lib

theorem runes_ab : runesB sab = [97, 98] := by decide
theorem ok_ab : okB sab = true := by decide
theorem cut_ab : cutT ⟨7, 1⟩ idZero idZero sab 0 2 = abO := by
  unfold cutT
  rw [cutB_all ok_ab (by rw [runes_ab]; decide)]
  rfl
theorem holdO_ab : HoldO abO 2 where
  k := rfl
  rng := by decide
  right := by decide
  n1 := by decide
  n2 := by decide
  range := fun w hT => opsRange_any abO w (by show 2 < _; decide) (by show (0 : Int) ≤ 1; decide) (by show (1 : Int) + (abO.len : Nat) < _; decide) hT
  cut := fun w hT => by
    have := opsCut_t ⟨7, 1⟩ idZero idZero sab 0 2 w (by decide) (by decide) (by rw [runes_ab]; decide) (by decide) (by decide) hT
    rw [cut_ab] at this
    exact this
theorem good_ab : GoodT ⟨7, 1⟩ idZero idZero sab where
  id := by decide
  ok := by decide
  fits := by rw [runes_ab]; decide
  ln := by decide
  rn := by decide
  lo := by unfold tRng; rw [runes_ab]; decide
  ro := by unfold tRng; rw [runes_ab]; decide
theorem TextQ.keep {n s : Nat} {W W' : World} (h : TextQ n s W) (hs : n + 6 < s) (hm : ∀ b, b < W.heap.size → b = n + 6 ∨ s ≤ b → W'.heap[b]? = W.heap[b]?) (hz : W.heap.size ≤ W'.heap.size) : TextQ n s W' := by
  obtain ⟨b1, b2, ov, ha, h1, h2, ho⟩ := h
  have hc : ∀ (a : Addr) (v : Value), W.cell? a = some v → a.block < W.heap.size := fun a v hc => by
    unfold World.cell? at hc
    cases ho : W.heap[a.block]? with
    | none => simp [ho] at hc
    | some o => exact (Array.getElem?_eq_some_iff.1 ho).1
  have ho2 : OwnAt s 202 1 encP W' ov [b1, b2] := ownsRow_blk ho fun k e => hm k (ownsRow_lt ho k e) (.inr (World.ownsRow.lt ho k e).1)
  refine ⟨b1, b2, ov, ⟨(World.cell?_of_block (w := W) (hm (n + 6) (hc _ _ ha.c) (.inl rfl))).trans ha.c, ho2.rowP, rfl, ?_⟩, h1, h2, ho2⟩
  intro k b u e1 e2 i y hy
  have h3 := ha.nodes k b u e1 e2 i y hy
  refine (World.cell?_of_block (w := W) (hm b (hc _ _ h3) (.inr ?_))).trans h3
  match k, e1 with
  | 0, e1 => simp at e1; omega
  | 1, e1 => simp at e1; omega
  | (k + 2), e1 => simp at e1
theorem apply_text (n rb cap : Nat) (w : World) (hd : DocZ n w) (hT : Tabs w) (hF : TabFree fun b => n ≤ b) (hrb : OpCells w rb 0 abO) (hlt : rb < w.heap.size) (hrn : n + 11 < rb) :
    Calls Tryz.prog 7 #[.pointer (some ⟨n + 11, 0, none⟩), .agg #[.slice (some ⟨rb, 0, none⟩) 1 cap, .slice none 0 0]] w (ApplyR n 2 abO (tF n) (fun s W => n + 6 < s ∧ TextQ n s W ∧ MapsZ n W) w) := by
  refine apply_one n 2 rb cap abO (tF n) (fun W => MapsZ n W ∧ SeqZ n W ∧ MapK idV W (n + 7) []) (fun s W => n + 6 < s ∧ TextQ n s W ∧ MapsZ n W) w hd.c hd.ss holdO_ab rfl hT hF hrb hlt hrn (fun w hT => opsCheck_t ⟨7, 1⟩ idZero idZero sab w good_ab (by decide) hT) (by show (0 : Int) ≤ 0; decide) ?hD ⟨hd.ms, hd.sq, hd.un⟩ ?hP ?hQ ?hdoes
  case hD =>
    intro k hk
    unfold tF at hk
    omega
  case hP =>
    rintro u u' hm hl ⟨h1, h2, h3⟩
    exact ⟨h1.keep fun b g => hm.block b (by omega) (by omega), h2.keep fun b g => hm.block b (by omega) (by omega), h3.blk (hm.block _ (by omega) (by omega))⟩
  case hQ =>
    rintro z u u' hm hl ⟨h0, h1, h2⟩
    exact ⟨h0, h1.keep h0 (fun b hb hs => hm.block b hb (by omega)) hm.size, h2.keep fun b g => hm.block b (by omega) (by omega)⟩
  case hdoes =>
    rintro u hv hd' ⟨h1, h2, h3⟩ hT'
    have hl := hd'.lt
    refine (does_text n _ _ _ _ u hd' h2 h3 hT').mono ?_
    rintro e u' ⟨rfl, g1, g2, hm⟩
    exact ⟨rfl, g1, ⟨by omega, g2, h1.keep fun b g => hm.block b (by omega) (by unfold tF; omega)⟩, hm⟩
end Go.Proofs.YthhbiliimdpgmaaGreatDoor
/- Walks: edit.made in the document of the text "ab": a place behind its end is refused. -/
namespace Go.Proofs.YthhbiliimdpgmaaGreatDoor
open Go.RowKit Go.Lib

set_option maxRecDepth 100000 in
set_option maxHeartbeats 4000000 in
theorem made_place (n : Nat) (k : Int) (kl : List (Int × Value)) (wl : List (QId × Value)) (hv vv : Value) (st : Int) (sv : Value) (bs : List Nat) (w : World) (hd : DocC n w kl wl hv vv st) (ha : AllA n sv bs [u71, u72] w)
    (hN : ∀ W, Below w.heap.size w W → Calls Tryz.prog 12 #[.pointer (some ⟨n + 11, 0, none⟩), .int .u64 7] W fun e w' => e = .returned (.int .u64 k) ∧ Below W.heap.size W w') :
    Calls Tryz.prog 26 #[.pointer (some ⟨n + 11, 0, none⟩), .int .u64 7, edV 1 3 0 ⟨#[120]⟩ valZero ⟨#[]⟩ (.slice none 0 0)] w fun e w2 => e = .panicked [{ v := brk 150, recovered := false }] ∧ Below w.heap.size w w2 := by
  have hdl := hd.lt
  have hun := fun W (hb : Below w.heap.size w W) => units_any n kl wl hv vv st sv bs [u71, u72] W (hd.keep fun b g => hb.block b (by omega)) (ha.below hb) (by simp)
  have hcl : ∀ W, Calls Tryz.prog 42 #[.agg #[.int .i64 0, .int .i64 0, .float .f64 0, .string ⟨#[]⟩]] W fun e w' => e = .returned (.agg #[.int .i64 0, .int .i64 0, .float .f64 0, .string ⟨#[]⟩]) ∧ Below W.heap.size W w' := valClean_any valZero
  have hf := fail_any 150
  change Calls Tryz.prog 26 #[.pointer (some ⟨n + 11, 0, none⟩), .int .u64 _, .agg #[.int .i64 1, .int .i64 3, .int .i64 0, .string ⟨#[120]⟩, .int .i64 0, .int .i64 0, .float .f64 0, .string ⟨#[]⟩, .string ⟨#[]⟩, .slice none 0 0]] w _
  go_enter Tryz.func26, Tryz.ntmps26
  go_upto_region 3 with fail
  have hB : Below w.heap.size w ((w.alloc (.cells #[.int .i64 1, .int .i64 3, .int .i64 0, .string ⟨#[120]⟩, .int .i64 0, .int .i64 0, .float .f64 0, .string ⟨#[]⟩, .string ⟨#[]⟩, .slice none 0 0] 48)).alloc (.cells #[.slice none 0 0, .slice none 0 0] 42)) := by (repeat (first | exact Below.refl _ _ | assumption | refine Below.alloc ?_ (by simp <;> omega) _ | refine Below.drew ?_ | refine below_drewN ?_ _ | refine Below.setCell ?_ (by simp <;> omega) _ | refine belowTrans ?_ (by assumption)))
  have he : ((w.alloc (.cells #[.int .i64 1, .int .i64 3, .int .i64 0, .string ⟨#[120]⟩, .int .i64 0, .int .i64 0, .float .f64 0, .string ⟨#[]⟩, .string ⟨#[]⟩, .slice none 0 0] 48)).alloc (.cells #[.slice none 0 0, .slice none 0 0] 42)).heap[w.heap.size]? = some (.cells #[.int .i64 1, .int .i64 3, .int .i64 0, .string ⟨#[120]⟩, .int .i64 0, .int .i64 0, .float .f64 0, .string ⟨#[]⟩, .string ⟨#[]⟩, .slice none 0 0] 48 (0, 0)) := by rw [alloc_heap_if, if_neg (by simp), alloc_heap_if, if_pos rfl]
  have hrb : updBox ((w.alloc (.cells #[.int .i64 1, .int .i64 3, .int .i64 0, .string ⟨#[120]⟩, .int .i64 0, .int .i64 0, .float .f64 0, .string ⟨#[]⟩, .string ⟨#[]⟩, .slice none 0 0] 48)).alloc (.cells #[.slice none 0 0, .slice none 0 0] 42)) (w.heap.size + 1) := by unfold updBox; rw [alloc_heap_if, if_pos (by simp)]
  generalize (w.alloc (.cells #[.int .i64 1, .int .i64 3, .int .i64 0, .string ⟨#[120]⟩, .int .i64 0, .int .i64 0, .float .f64 0, .string ⟨#[]⟩, .string ⟨#[]⟩, .slice none 0 0] 48)).alloc (.cells #[.slice none 0 0, .slice none 0 0] 42) = W at hB he hrb ⊢
  have hu1 := hun W hB
  go_upto_region 4 with (go_at_call 41; refine hu1.mono ?_; rintro e w1 ⟨uv, rfl, ho1, hb1⟩; obtain ⟨up, uc, rfl⟩ : ∃ p c, uv = .slice p 2 c := ownsRow_len ho1; replace ho1 := ownsRow_base ho1 (Nat.zero_le _))
  have hB1 := belowTrans hB hb1
  have hel := (Array.getElem?_eq_some_iff.1 he).1
  have he1 := (hb1.block _ hel).trans he
  have hrl := (Array.getElem?_eq_some_iff.1 hrb).1
  have hrb1 : updBox w1 (w.heap.size + 1) := (hb1.block _ hrl).trans hrb
  have hel1 := (Array.getElem?_eq_some_iff.1 he1).1
  have e4 : ∀ s : MStep (fun _ => False) w1, s.val.cell? ⟨w.heap.size, 4, none⟩ = some (.int .i64 0) := MStep.cell hel1 id (by simp [World.cell?, he1])
  have e5 : ∀ s : MStep (fun _ => False) w1, s.val.cell? ⟨w.heap.size, 5, none⟩ = some (.int .i64 0) := MStep.cell hel1 id (by simp [World.cell?, he1])
  have e6 : ∀ s : MStep (fun _ => False) w1, s.val.cell? ⟨w.heap.size, 6, none⟩ = some (.float .f64 0) := MStep.cell hel1 id (by simp [World.cell?, he1])
  have e7 : ∀ s : MStep (fun _ => False) w1, s.val.cell? ⟨w.heap.size, 7, none⟩ = some (.string ⟨#[]⟩) := MStep.cell hel1 id (by simp [World.cell?, he1])
  have hnx := fun W2 (hb : Below w1.heap.size w1 W2) => hN W2 (belowTrans hB1 hb)
  clear hu1 hb1 he hrb hel hrl hB
  clear W
  go_cut [8] (fun u wx => NewO (op0 7 k) w1 u wx)
  case first =>
    have bz : ∀ W : World, OpBox (W.alloc (.cells (encOp opZero).toArray 35)).drew W.heap.size opZero := fun W => OpBox.drew (OpBox.new W opZero)
    refine wp_region_flow7 (.rd [0, 1, 2, 5, 6] (.two 3 (.rd [4] (.two 7 (.rd [8] (.one 9 (.one 10 .nil))) 9 (.one 7 (.rd [8] (.one 10 .nil))))) 9 (.one 3 (.rd [4] (.one 7 (.rd [8] (.one 10 .nil))))))) (fun w' => ∃ s : MStep (fun _ => False) w1, w' = s.val) (by kernel_rfl) (by kernel_rfl) (fun _ _ d _ _ h => by cases d <;> exact h) (MStep.to (Mods.refl _ _).drew) ?_
    refine wpRT_rd ?_
    simp only [List.map_cons, List.map_nil, List.getElem?_toArray, List.getElem?_cons_succ, List.getElem?_cons_zero, Option.getD_some]
    repeat (first | go_big_quiet_skip | (go_big_quiet_want; first | (fail; go_frame; go_big_quiet_on) | (go_big_quiet_op; go_big_quiet_on)))
    refine wpQuiet_nil ?_
    have hb0 : Below w1.heap.size w1 w1.drew := (Below.refl _ _).drew
    refine wpRT_two ?_ ?_
    · refine wpRT_one rfl ?_; simp only [List.getElem_toArray, List.getElem_cons_succ, List.getElem_cons_zero]
      go_wp2_with (go_at_call 12; refine (hnx w1.drew hb0).mono ?_; rintro e w2 ⟨rfl, hb2'⟩)
      have hb2 := belowTrans hb0 hb2'
      refine ⟨MStep.to (Mods.of_below hb2), ?_⟩
      refine wpRT_rd ?_
      simp only [List.map_cons, List.map_nil, List.getElem?_toArray, List.getElem?_cons_succ, List.getElem?_cons_zero, Option.getD_some]
      repeat (first | go_big_quiet_skip | (go_big_quiet_want; first | (fail; go_frame; go_big_quiet_on) | (go_big_quiet_op; go_big_quiet_on)))
      refine wpQuiet_nil ?_
      refine wpRT_two ?_ ?_
      · refine wpRT_one rfl ?_; simp only [List.getElem_toArray, List.getElem_cons_succ, List.getElem_cons_zero]
        go_wp2_with (go_at_call 42; refine (hcl _).mono ?_; rintro e w3 ⟨rfl, hb3'⟩)
        have hb3 := belowTrans hb2 hb3'
        refine ⟨MStep.to (Mods.of_below hb3), ?_⟩
        refine wpRT_rd ?_
        simp only [List.map_cons, List.map_nil, List.getElem?_toArray, List.getElem?_cons_succ, List.getElem?_cons_zero, Option.getD_some]
        repeat (first | go_big_quiet_skip | (go_big_quiet_want; first | (fail; go_frame; go_big_quiet_on) | (go_big_quiet_op; go_big_quiet_on)))
        refine wpQuiet_nil ?_
        refine wpRT_one rfl ?_; simp only [List.getElem_toArray, List.getElem_cons_succ, List.getElem_cons_zero]
        go_wp2
        refine ⟨MStep.to ((Mods.of_below hb3).alloc _), ?_⟩
        refine wpRT_one rfl ?_; simp only [List.getElem_toArray, List.getElem_cons_succ, List.getElem_cons_zero]
        have hfin : NewO (op0 7 k) w1 (.pointer (some ⟨w3.heap.size, 0, none⟩)) (putOp (w3.alloc (.cells (encOp opZero).toArray 35)) w3.heap.size (op0 7 k)) := ⟨_, rfl, (OpBox.new w3 opZero).put _, hb3.size, below_putOp (hb3.alloc hb3.size _) hb3.size _⟩
        go_wp2_with (refine wpList_store_eq (T := 35) (v := opV (op0 7 k)) rfl rfl rfl rfl (OpBox.store (OpBox.new w3 opZero) (op0 7 k)) ?_)
        refine ⟨MStep.to (Mods.of_below (below_putOp (hb3.alloc hb3.size _) hb3.size _)), ?_⟩
        refine wpRT_nil ?_
        go_wp2
        go_meet
        exact hfin
      · refine wpRT_one rfl ?_; simp only [List.getElem_toArray, List.getElem_cons_succ, List.getElem_cons_zero]
        go_wp2
        have hbx2 : OpBox (w2.alloc (.cells (encOp opZero).toArray 35)) w2.heap.size opZero := OpBox.new w2 opZero
        have hb3 : Below w1.heap.size w1 (w2.alloc (.cells (encOp opZero).toArray 35)) := hb2.alloc hb2.size _
        refine ⟨MStep.to (Mods.of_below hb3), ?_⟩
        change wpRT _ _ _ _ _ _ (w2.alloc (.cells (encOp opZero).toArray 35))
        have hlx := hbx2.lt
        have hlz := hb2.size
        generalize w2.alloc (.cells (encOp opZero).toArray 35) = W3 at hbx2 hb3 hlx ⊢
        generalize w2.heap.size = Z at hbx2 hlx hlz ⊢
        refine wpRT_one rfl ?_; simp only [List.getElem_toArray, List.getElem_cons_succ, List.getElem_cons_zero]
        go_wp2_with (go_at_call 42; refine (hcl _).mono ?_; rintro e w4 ⟨rfl, hb4'⟩)
        have hb4 := belowTrans hb3 hb4'
        have hbx4 := hbx2.below hb4' hlx
        refine ⟨MStep.to (Mods.of_below hb4), ?_⟩
        refine wpRT_rd ?_
        simp only [List.map_cons, List.map_nil, List.getElem?_toArray, List.getElem?_cons_succ, List.getElem?_cons_zero, Option.getD_some]
        repeat (first | go_big_quiet_skip | (go_big_quiet_want; first | (fail; go_frame; go_big_quiet_on) | (go_big_quiet_op; go_big_quiet_on)))
        refine wpQuiet_nil ?_
        have hfin : NewO (op0 7 k) w1 (.pointer (some ⟨Z, 0, none⟩)) (putOp w4 Z (op0 7 k)) := ⟨_, rfl, hbx4.put _, hlz, below_putOp hb4 hlz _⟩
        refine wpRT_one rfl ?_; simp only [List.getElem_toArray, List.getElem_cons_succ, List.getElem_cons_zero]
        go_wp2_with (refine wpList_store_eq (T := 35) (v := opV (op0 7 k)) rfl rfl rfl rfl (OpBox.store hbx4 (op0 7 k)) ?_)
        refine ⟨MStep.to (Mods.of_below (below_putOp hb4 hlz _)), ?_⟩
        refine wpRT_nil ?_
        go_wp2
        go_meet
        exact hfin
    · refine wpRT_one rfl ?_; simp only [List.getElem_toArray, List.getElem_cons_succ, List.getElem_cons_zero]
      go_wp2
      have hbx2 : OpBox (w1.alloc (.cells (encOp opZero).toArray 35)).drew w1.heap.size opZero := bz w1
      have hb2 : Below w1.heap.size w1 (w1.alloc (.cells (encOp opZero).toArray 35)).drew := ((Below.refl _ _).alloc (Nat.le_refl _) _).drew
      refine ⟨MStep.to (Mods.of_below hb2), ?_⟩
      change wpRT _ _ _ _ _ _ (w1.alloc (.cells (encOp opZero).toArray 35)).drew
      have hlx := hbx2.lt
      have hlz := Nat.le_refl w1.heap.size
      generalize (w1.alloc (.cells (encOp opZero).toArray 35)).drew = W2 at hbx2 hb2 hlx ⊢
      obtain ⟨Z, hZ⟩ : ∃ Z, w1.heap.size = Z := ⟨_, rfl⟩
      rw [hZ] at hbx2 hlx ⊢
      have HZ := Lib.hid hZ
      clear hZ hlz
      refine wpRT_one rfl ?_; simp only [List.getElem_toArray, List.getElem_cons_succ, List.getElem_cons_zero]
      go_wp2_with (go_at_call 12; refine (hnx W2 hb2).mono ?_; rintro e w3 ⟨rfl, hb3'⟩)
      have hb3 := belowTrans hb2 hb3'
      have hbx3 := hbx2.below hb3' hlx
      refine ⟨MStep.to (Mods.of_below hb3), ?_⟩
      refine wpRT_rd ?_
      simp only [List.map_cons, List.map_nil, List.getElem?_toArray, List.getElem?_cons_succ, List.getElem?_cons_zero, Option.getD_some]
      repeat (first | go_big_quiet_skip | (go_big_quiet_want; first | (fail; go_frame; go_big_quiet_on) | (go_big_quiet_op; go_big_quiet_on)))
      refine wpQuiet_nil ?_
      have hlx3 := hbx3.lt
      refine wpRT_one rfl ?_; simp only [List.getElem_toArray, List.getElem_cons_succ, List.getElem_cons_zero]
      go_wp2_with (go_at_call 42; refine (hcl _).mono ?_; rintro e w4 ⟨rfl, hb4'⟩)
      have hb4 := belowTrans hb3 hb4'
      have hbx4 := hbx3.below hb4' hlx3
      refine ⟨MStep.to (Mods.of_below hb4), ?_⟩
      refine wpRT_rd ?_
      simp only [List.map_cons, List.map_nil, List.getElem?_toArray, List.getElem?_cons_succ, List.getElem?_cons_zero, Option.getD_some]
      repeat (first | go_big_quiet_skip | (go_big_quiet_want; first | (fail; go_frame; go_big_quiet_on) | (go_big_quiet_op; go_big_quiet_on)))
      refine wpQuiet_nil ?_
      have hfin : NewO (op0 7 k) w1 (.pointer (some ⟨Z, 0, none⟩)) (putOp w4 Z (op0 7 k)) := ⟨_, rfl, hbx4.put _, Nat.le_of_eq HZ.out, below_putOp hb4 (Nat.le_of_eq HZ.out) _⟩
      refine wpRT_one rfl ?_; simp only [List.getElem_toArray, List.getElem_cons_succ, List.getElem_cons_zero]
      go_wp2_with (refine wpList_store_eq (T := 35) (v := opV (op0 7 k)) rfl rfl rfl rfl (OpBox.store hbx4 (op0 7 k)) ?_)
      refine ⟨MStep.to (Mods.of_below (below_putOp hb4 (Nat.le_of_eq HZ.out) _)), ?_⟩
      refine wpRT_nil ?_
      go_wp2
      go_meet
      exact hfin
  case rest =>
    obtain ⟨ob, rfl, hbx, hob, hbc⟩ := hcut
    have hBc := belowTrans hB1 hbc
    have hec := (hbc.block _ hel1).trans he1
    clear hnx he1 hrb1 e4 e5 e6 e7 hN hcl hun
    have x0 : wc.cell? ⟨w.heap.size, 0, none⟩ = some (.int .i64 1) := by simp [World.cell?, hec]
    have x1 : wc.cell? ⟨w.heap.size, 1, none⟩ = some (.int .i64 3) := by simp [World.cell?, hec]
    go_wp2_with (go_at_call 40; refine (hf _).mono ?_; rintro e w3 ⟨rfl, rfl⟩)
    exact ⟨rfl, rfl, hBc⟩
end Go.Proofs.YthhbiliimdpgmaaGreatDoor
