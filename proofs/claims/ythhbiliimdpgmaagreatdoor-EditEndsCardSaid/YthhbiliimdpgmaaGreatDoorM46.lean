/- Walk: edit.made of a set at a path that isn't there is refused, in the document of the text "ab". -/
import Derived.Test.YthhbiliimdpgmaaGreatDoorM43
import Derived.Test.YthhbiliimdpgmaaGreatDoorM45
import Derived.Test.YthhbiliimdpgmaaGreatDoorM31
namespace Go.Proofs.YthhbiliimdpgmaaGreatDoor
open Go.RowKit Go.Lib

def PathN (i : QId) (ok : Bool) (W : World) (p o : Value) (wx : World) : Prop := ∃ pb, p = .pointer (some ⟨pb, 0, none⟩) ∧ o = .bool ok ∧ wx.heap[pb]? = some (.cells #[.int .u64 i.c, .int .u64 i.k] 28 (0, 0)) ∧ W.heap.size ≤ pb ∧ Below W.heap.size W wx
def bk : ByteArray := ⟨#[107]⟩
def bno : ByteArray := ⟨#[110, 111]⟩
theorem editKey_k (w : World) (hT : Tabs w) : Calls Tryz.prog 50 #[.string ⟨#[107]⟩] w fun e w' => e = .returned (.tuple #[]) ∧ Below w.heap.size w w' := by
  have hv : ∀ w, Tabs w → Calls Tryz.prog 92 #[.string ⟨#[107]⟩] w fun e w' => e = .returned (.bool true) ∧ Below w.heap.size w w' := fun w hT => valid_any ⟨#[107]⟩ w (by decide) hT
  go_enter Tryz.func50, Tryz.ntmps50
  go_wp2_with (go_at_call 92; refine (hv _ hT).mono ?_; rintro e w1 ⟨rfl, hb1⟩)
  go_end0
  exact ⟨rfl, hb1⟩
theorem docMaps_none (n : Nat) (kl : List (Int × Value)) (wl : List (QId × Value)) (hv vv : Value) (st : Int) (w : World) (hd : DocC n w kl wl hv vv st) (hm : MapsZ n w) :
    Calls Tryz.prog 51 #[.pointer (some ⟨n + 11, 0, none⟩)] w fun e w' => ∃ b, e = .returned (.pointer (some ⟨b, 0, none⟩)) ∧ MapsE w' b ∧ Below w.heap.size w w' := by
  have c9 := hd.cell 9 _ rfl
  have hl := hd.lt
  have hc := mapsCopy_none n w hm
  go_enter Tryz.func51, Tryz.ntmps51
  go_wp2_with (go_at_call 98; refine hc.mono ?_; rintro e w1 ⟨b, rfl, h1, h2⟩)
  go_ret
  exact ⟨b, rfl, h1, h2⟩
theorem MapsE.below {W W' : World} {b : Nat} (h : MapsE W b) (hb : Below W.heap.size W W') : MapsE W' b := by
  obtain ⟨L, hL, _⟩ := h
  exact ⟨L, hL.below hb, fun _ _ => trivial⟩
theorem findNo (b : Nat) (sv : Value) (w : World) (hm : MapsE w b) (hl : SliceAt 1 encStrB w sv [bno]) :
    Calls Tryz.prog 52 #[.pointer (some ⟨b, 0, none⟩), sv] w fun e w' => e = .returned (.tuple #[.agg #[.int .u64 idZero.c, .int .u64 idZero.k], .bool false]) ∧ Below w.heap.size w w' :=
  find_any (fun _ => True) b QMaps.empty sv [bno] w hm hl
set_option maxRecDepth 100000 in
set_option maxHeartbeats 4000000 in
theorem made_path (n pb : Nat) (k : Int) (kl : List (Int × Value)) (wl : List (QId × Value)) (hv vv : Value) (st : Int) (sv : Value) (bs : List Nat) (w : World) (hd : DocC n w kl wl hv vv st) (ha : AllA n sv bs [u71, u72] w) (hm : MapsZ n w) (hT : Tabs w)
    (hp : w.cell? ⟨pb, 0, none⟩ = some (.string bno)) (hpl : pb < w.heap.size)
    (hN : ∀ W, Below w.heap.size w W → Calls Tryz.prog 12 #[.pointer (some ⟨n + 11, 0, none⟩), .int .u64 7] W fun e w' => e = .returned (.int .u64 k) ∧ Below W.heap.size W w') :
    Calls Tryz.prog 26 #[.pointer (some ⟨n + 11, 0, none⟩), .int .u64 7, edV 5 0 0 ⟨#[]⟩ valZero bk (.slice (some ⟨pb, 0, none⟩) 1 1)] w fun e w2 => e = .panicked [{ v := brk 153, recovered := false }] ∧ Below w.heap.size w w2 := by
  have hdl := hd.lt
  have hun := fun W (hb : Below w.heap.size w W) => units_any n kl wl hv vv st sv bs [u71, u72] W (hd.keep fun b g => hb.block b (by omega)) (ha.below hb) (by simp)
  have hcl : ∀ W, Calls Tryz.prog 42 #[.agg #[.int .i64 0, .int .i64 0, .float .f64 0, .string ⟨#[]⟩]] W fun e w' => e = .returned (.agg #[.int .i64 0, .int .i64 0, .float .f64 0, .string ⟨#[]⟩]) ∧ Below W.heap.size W w' := valClean_any valZero
  have hf := fail_any 153
  change Calls Tryz.prog 26 #[.pointer (some ⟨n + 11, 0, none⟩), .int .u64 _, .agg #[.int .i64 5, .int .i64 0, .int .i64 0, .string ⟨#[]⟩, .int .i64 0, .int .i64 0, .float .f64 0, .string ⟨#[]⟩, .string ⟨#[107]⟩, .slice (some ⟨pb, 0, none⟩) 1 1]] w _
  go_enter Tryz.func26, Tryz.ntmps26
  go_upto_region 3 with fail
  have hB : Below w.heap.size w ((w.alloc (.cells #[.int .i64 5, .int .i64 0, .int .i64 0, .string ⟨#[]⟩, .int .i64 0, .int .i64 0, .float .f64 0, .string ⟨#[]⟩, .string ⟨#[107]⟩, .slice (some ⟨pb, 0, none⟩) 1 1] 48)).alloc (.cells #[.slice none 0 0, .slice none 0 0] 42)) := by (repeat (first | exact Below.refl _ _ | assumption | refine Below.alloc ?_ (by simp <;> omega) _ | refine Below.drew ?_ | refine below_drewN ?_ _ | refine Below.setCell ?_ (by simp <;> omega) _ | refine belowTrans ?_ (by assumption)))
  have he : ((w.alloc (.cells #[.int .i64 5, .int .i64 0, .int .i64 0, .string ⟨#[]⟩, .int .i64 0, .int .i64 0, .float .f64 0, .string ⟨#[]⟩, .string ⟨#[107]⟩, .slice (some ⟨pb, 0, none⟩) 1 1] 48)).alloc (.cells #[.slice none 0 0, .slice none 0 0] 42)).heap[w.heap.size]? = some (.cells #[.int .i64 5, .int .i64 0, .int .i64 0, .string ⟨#[]⟩, .int .i64 0, .int .i64 0, .float .f64 0, .string ⟨#[]⟩, .string ⟨#[107]⟩, .slice (some ⟨pb, 0, none⟩) 1 1] 48 (0, 0)) := by rw [alloc_heap_if, if_neg (by simp), alloc_heap_if, if_pos rfl]
  have hrb : updBox ((w.alloc (.cells #[.int .i64 5, .int .i64 0, .int .i64 0, .string ⟨#[]⟩, .int .i64 0, .int .i64 0, .float .f64 0, .string ⟨#[]⟩, .string ⟨#[107]⟩, .slice (some ⟨pb, 0, none⟩) 1 1] 48)).alloc (.cells #[.slice none 0 0, .slice none 0 0] 42)) (w.heap.size + 1) := by unfold updBox; rw [alloc_heap_if, if_pos (by simp)]
  generalize (w.alloc (.cells #[.int .i64 5, .int .i64 0, .int .i64 0, .string ⟨#[]⟩, .int .i64 0, .int .i64 0, .float .f64 0, .string ⟨#[]⟩, .string ⟨#[107]⟩, .slice (some ⟨pb, 0, none⟩) 1 1] 48)).alloc (.cells #[.slice none 0 0, .slice none 0 0] 42) = W at hB he hrb ⊢
  have hu1 := hun W hB
  go_upto_region 4 with (go_at_call 41; refine hu1.mono ?_; rintro e w1 ⟨uv, rfl, ho1, hb1⟩; obtain ⟨up, uc, rfl⟩ : ∃ p c, uv = .slice p 2 c := ownsRow_len ho1; replace ho1 := ownsRow_base ho1 (Nat.zero_le _))
  have hB1 := belowTrans hB hb1
  have hel := (Array.getElem?_eq_some_iff.1 he).1
  have he1 := (hb1.block _ hel).trans he
  have hrl := (Array.getElem?_eq_some_iff.1 hrb).1
  have hrb1 : updBox w1 (w.heap.size + 1) := (hb1.block _ hrl).trans hrb
  have hel1 := (Array.getElem?_eq_some_iff.1 he1).1
  have e4 : ∀ s : MStep (fun _ => False) w1, s.val.cell? ⟨w.heap.size, 4, none⟩ = some (.int .i64 0) := MStep.cell hel1 id (by simp [World.cell?, he1])
  have e5 : ∀ s : MStep (fun _ => False) w1, s.val.cell? ⟨w.heap.size, 5, none⟩ = some (.int .i64 0) := MStep.cell hel1 id (by simp [World.cell?, he1])
  have e6 : ∀ s : MStep (fun _ => False) w1, s.val.cell? ⟨w.heap.size, 6, none⟩ = some (.float .f64 0) := MStep.cell hel1 id (by simp [World.cell?, he1])
  have e7 : ∀ s : MStep (fun _ => False) w1, s.val.cell? ⟨w.heap.size, 7, none⟩ = some (.string ⟨#[]⟩) := MStep.cell hel1 id (by simp [World.cell?, he1])
  have hnx := fun W2 (hb : Below w1.heap.size w1 W2) => hN W2 (belowTrans hB1 hb)
  clear hu1 hb1 he hrb hel hrl hB
  clear W
  go_cut [8] (fun u wx => NewO (op0 7 k) w1 u wx)
  case first =>
    have bz : ∀ W : World, OpBox (W.alloc (.cells (encOp opZero).toArray 35)).drew W.heap.size opZero := fun W => OpBox.drew (OpBox.new W opZero)
    refine wp_region_flow7 (.rd [0, 1, 2, 5, 6] (.two 3 (.rd [4] (.two 7 (.rd [8] (.one 9 (.one 10 .nil))) 9 (.one 7 (.rd [8] (.one 10 .nil))))) 9 (.one 3 (.rd [4] (.one 7 (.rd [8] (.one 10 .nil))))))) (fun w' => ∃ s : MStep (fun _ => False) w1, w' = s.val) (by kernel_rfl) (by kernel_rfl) (fun _ _ d _ _ h => by cases d <;> exact h) (MStep.to (Mods.refl _ _).drew) ?_
    refine wpRT_rd ?_
    simp only [List.map_cons, List.map_nil, List.getElem?_toArray, List.getElem?_cons_succ, List.getElem?_cons_zero, Option.getD_some]
    repeat (first | go_big_quiet_skip | (go_big_quiet_want; first | (fail; go_frame; go_big_quiet_on) | (go_big_quiet_op; go_big_quiet_on)))
    refine wpQuiet_nil ?_
    have hb0 : Below w1.heap.size w1 w1.drew := (Below.refl _ _).drew
    refine wpRT_two ?_ ?_
    · refine wpRT_one rfl ?_; simp only [List.getElem_toArray, List.getElem_cons_succ, List.getElem_cons_zero]
      go_wp2_with (go_at_call 12; refine (hnx w1.drew hb0).mono ?_; rintro e w2 ⟨rfl, hb2'⟩)
      have hb2 := belowTrans hb0 hb2'
      refine ⟨MStep.to (Mods.of_below hb2), ?_⟩
      refine wpRT_rd ?_
      simp only [List.map_cons, List.map_nil, List.getElem?_toArray, List.getElem?_cons_succ, List.getElem?_cons_zero, Option.getD_some]
      repeat (first | go_big_quiet_skip | (go_big_quiet_want; first | (fail; go_frame; go_big_quiet_on) | (go_big_quiet_op; go_big_quiet_on)))
      refine wpQuiet_nil ?_
      refine wpRT_two ?_ ?_
      · refine wpRT_one rfl ?_; simp only [List.getElem_toArray, List.getElem_cons_succ, List.getElem_cons_zero]
        go_wp2_with (go_at_call 42; refine (hcl _).mono ?_; rintro e w3 ⟨rfl, hb3'⟩)
        have hb3 := belowTrans hb2 hb3'
        refine ⟨MStep.to (Mods.of_below hb3), ?_⟩
        refine wpRT_rd ?_
        simp only [List.map_cons, List.map_nil, List.getElem?_toArray, List.getElem?_cons_succ, List.getElem?_cons_zero, Option.getD_some]
        repeat (first | go_big_quiet_skip | (go_big_quiet_want; first | (fail; go_frame; go_big_quiet_on) | (go_big_quiet_op; go_big_quiet_on)))
        refine wpQuiet_nil ?_
        refine wpRT_one rfl ?_; simp only [List.getElem_toArray, List.getElem_cons_succ, List.getElem_cons_zero]
        go_wp2
        refine ⟨MStep.to ((Mods.of_below hb3).alloc _), ?_⟩
        refine wpRT_one rfl ?_; simp only [List.getElem_toArray, List.getElem_cons_succ, List.getElem_cons_zero]
        have hfin : NewO (op0 7 k) w1 (.pointer (some ⟨w3.heap.size, 0, none⟩)) (putOp (w3.alloc (.cells (encOp opZero).toArray 35)) w3.heap.size (op0 7 k)) := ⟨_, rfl, (OpBox.new w3 opZero).put _, hb3.size, below_putOp (hb3.alloc hb3.size _) hb3.size _⟩
        go_wp2_with (refine wpList_store_eq (T := 35) (v := opV (op0 7 k)) rfl rfl rfl rfl (OpBox.store (OpBox.new w3 opZero) (op0 7 k)) ?_)
        refine ⟨MStep.to (Mods.of_below (below_putOp (hb3.alloc hb3.size _) hb3.size _)), ?_⟩
        refine wpRT_nil ?_
        go_wp2
        go_meet
        exact hfin
      · refine wpRT_one rfl ?_; simp only [List.getElem_toArray, List.getElem_cons_succ, List.getElem_cons_zero]
        go_wp2
        have hbx2 : OpBox (w2.alloc (.cells (encOp opZero).toArray 35)) w2.heap.size opZero := OpBox.new w2 opZero
        have hb3 : Below w1.heap.size w1 (w2.alloc (.cells (encOp opZero).toArray 35)) := hb2.alloc hb2.size _
        refine ⟨MStep.to (Mods.of_below hb3), ?_⟩
        change wpRT _ _ _ _ _ _ (w2.alloc (.cells (encOp opZero).toArray 35))
        have hlx := hbx2.lt
        have hlz := hb2.size
        generalize w2.alloc (.cells (encOp opZero).toArray 35) = W3 at hbx2 hb3 hlx ⊢
        generalize w2.heap.size = Z at hbx2 hlx hlz ⊢
        refine wpRT_one rfl ?_; simp only [List.getElem_toArray, List.getElem_cons_succ, List.getElem_cons_zero]
        go_wp2_with (go_at_call 42; refine (hcl _).mono ?_; rintro e w4 ⟨rfl, hb4'⟩)
        have hb4 := belowTrans hb3 hb4'
        have hbx4 := hbx2.below hb4' hlx
        refine ⟨MStep.to (Mods.of_below hb4), ?_⟩
        refine wpRT_rd ?_
        simp only [List.map_cons, List.map_nil, List.getElem?_toArray, List.getElem?_cons_succ, List.getElem?_cons_zero, Option.getD_some]
        repeat (first | go_big_quiet_skip | (go_big_quiet_want; first | (fail; go_frame; go_big_quiet_on) | (go_big_quiet_op; go_big_quiet_on)))
        refine wpQuiet_nil ?_
        have hfin : NewO (op0 7 k) w1 (.pointer (some ⟨Z, 0, none⟩)) (putOp w4 Z (op0 7 k)) := ⟨_, rfl, hbx4.put _, hlz, below_putOp hb4 hlz _⟩
        refine wpRT_one rfl ?_; simp only [List.getElem_toArray, List.getElem_cons_succ, List.getElem_cons_zero]
        go_wp2_with (refine wpList_store_eq (T := 35) (v := opV (op0 7 k)) rfl rfl rfl rfl (OpBox.store hbx4 (op0 7 k)) ?_)
        refine ⟨MStep.to (Mods.of_below (below_putOp hb4 hlz _)), ?_⟩
        refine wpRT_nil ?_
        go_wp2
        go_meet
        exact hfin
    · refine wpRT_one rfl ?_; simp only [List.getElem_toArray, List.getElem_cons_succ, List.getElem_cons_zero]
      go_wp2
      have hbx2 : OpBox (w1.alloc (.cells (encOp opZero).toArray 35)).drew w1.heap.size opZero := bz w1
      have hb2 : Below w1.heap.size w1 (w1.alloc (.cells (encOp opZero).toArray 35)).drew := ((Below.refl _ _).alloc (Nat.le_refl _) _).drew
      refine ⟨MStep.to (Mods.of_below hb2), ?_⟩
      change wpRT _ _ _ _ _ _ (w1.alloc (.cells (encOp opZero).toArray 35)).drew
      have hlx := hbx2.lt
      have hlz := Nat.le_refl w1.heap.size
      generalize (w1.alloc (.cells (encOp opZero).toArray 35)).drew = W2 at hbx2 hb2 hlx ⊢
      obtain ⟨Z, hZ⟩ : ∃ Z, w1.heap.size = Z := ⟨_, rfl⟩
      rw [hZ] at hbx2 hlx ⊢
      have HZ := Lib.hid hZ
      clear hZ hlz
      refine wpRT_one rfl ?_; simp only [List.getElem_toArray, List.getElem_cons_succ, List.getElem_cons_zero]
      go_wp2_with (go_at_call 12; refine (hnx W2 hb2).mono ?_; rintro e w3 ⟨rfl, hb3'⟩)
      have hb3 := belowTrans hb2 hb3'
      have hbx3 := hbx2.below hb3' hlx
      refine ⟨MStep.to (Mods.of_below hb3), ?_⟩
      refine wpRT_rd ?_
      simp only [List.map_cons, List.map_nil, List.getElem?_toArray, List.getElem?_cons_succ, List.getElem?_cons_zero, Option.getD_some]
      repeat (first | go_big_quiet_skip | (go_big_quiet_want; first | (fail; go_frame; go_big_quiet_on) | (go_big_quiet_op; go_big_quiet_on)))
      refine wpQuiet_nil ?_
      have hlx3 := hbx3.lt
      refine wpRT_one rfl ?_; simp only [List.getElem_toArray, List.getElem_cons_succ, List.getElem_cons_zero]
      go_wp2_with (go_at_call 42; refine (hcl _).mono ?_; rintro e w4 ⟨rfl, hb4'⟩)
      have hb4 := belowTrans hb3 hb4'
      have hbx4 := hbx3.below hb4' hlx3
      refine ⟨MStep.to (Mods.of_below hb4), ?_⟩
      refine wpRT_rd ?_
      simp only [List.map_cons, List.map_nil, List.getElem?_toArray, List.getElem?_cons_succ, List.getElem?_cons_zero, Option.getD_some]
      repeat (first | go_big_quiet_skip | (go_big_quiet_want; first | (fail; go_frame; go_big_quiet_on) | (go_big_quiet_op; go_big_quiet_on)))
      refine wpQuiet_nil ?_
      have hfin : NewO (op0 7 k) w1 (.pointer (some ⟨Z, 0, none⟩)) (putOp w4 Z (op0 7 k)) := ⟨_, rfl, hbx4.put _, Nat.le_of_eq HZ.out, below_putOp hb4 (Nat.le_of_eq HZ.out) _⟩
      refine wpRT_one rfl ?_; simp only [List.getElem_toArray, List.getElem_cons_succ, List.getElem_cons_zero]
      go_wp2_with (refine wpList_store_eq (T := 35) (v := opV (op0 7 k)) rfl rfl rfl rfl (OpBox.store hbx4 (op0 7 k)) ?_)
      refine ⟨MStep.to (Mods.of_below (below_putOp hb4 (Nat.le_of_eq HZ.out) _)), ?_⟩
      refine wpRT_nil ?_
      go_wp2
      go_meet
      exact hfin
  case rest =>
    obtain ⟨ob, rfl, hbx, hob, hbc⟩ := hcut
    have hBc := belowTrans hB1 hbc
    have hec := (hbc.block _ hel1).trans he1
    have helc := (Array.getElem?_eq_some_iff.1 hec).1
    clear hnx he1 hrb1 e4 e5 e6 e7 hN hcl hun
    have x0 : wc.cell? ⟨w.heap.size, 0, none⟩ = some (.int .i64 5) := by simp [World.cell?, hec]
    have x8 : wc.cell? ⟨w.heap.size, 8, none⟩ = some (.string ⟨#[107]⟩) := by simp [World.cell?, hec]
    have hky := editKey_k wc (hT.below hBc)
    go_upto_region 38 with (go_at_call 50; refine hky.mono ?_; rintro e w8 ⟨rfl, hb8⟩)
    have hB8 := belowTrans hBc hb8
    have he8 := (hb8.block _ helc).trans hec
    have hel8 := (Array.getElem?_eq_some_iff.1 he8).1
    clear x0 x8 hky hb8 hec
    obtain ⟨W8, hW8⟩ : ∃ W8, W8 = w8 := ⟨_, rfl⟩
    rw [← hW8] at hB8 he8 hel8 ⊢
    clear hW8
    have e9 : ∀ s : MStep (fun _ => False) W8, s.val.cell? ⟨w.heap.size, 9, none⟩ = some (.slice (some ⟨pb, 0, none⟩) 1 1) := MStep.cell hel8 id (by simp [World.cell?, he8])
    have hmaps := fun W (hb : Below W8.heap.size W8 W) => docMaps_none n kl wl hv vv st W (hd.keep fun b g => (belowTrans hB8 hb).block b (by omega)) (hm.keep fun b g => (belowTrans hB8 hb).block b (by omega))
    have hfind := fun b W (h : MapsE W b) (hb : Below W8.heap.size W8 W) => findNo b (.slice (some ⟨pb, 0, none⟩) 1 1) W h (.inr ⟨pb, 0, 1, rfl, by decide, Nat.lt_of_lt_of_le hpl (belowTrans hB8 hb).size, fun j x hj i y hy => by
      have hpp := ((belowTrans hB8 hb).cell (p := ⟨pb, 0, none⟩) hpl).trans hp
      match j, hj with
      | 0, hj =>
        simp at hj
        subst hj
        match i, hy with
        | 0, hy =>
          simp [encStrB] at hy
          subst hy
          exact hpp
        | (i + 1), hy => simp [encStrB] at hy
      | (j + 1), hj => simp at hj⟩)
    have hXb := fun b (W W' : World) (h : MapsE W b) (hb : Below W.heap.size W W') => h.below hb
    go_cut [14, 15] (fun p ok wx => PathN (idZero) false W8 p ok wx)
    case first =>
      refine wp_region_flow7 (.rd [0, 2, 3] (.two 1 (.two 4 (.rd [5, 6, 7] (.one 8 (.one 9 (.rd [10] .nil)))) 8 (.one 4 (.rd [5, 6, 7] (.one 9 (.rd [10] .nil))))) 8 (.one 1 (.one 4 (.rd [5, 6, 7] (.one 9 (.rd [10] .nil))))))) (fun w' => ∃ s : MStep (fun _ => False) W8, w' = s.val) (by kernel_rfl) (by kernel_rfl) (fun _ _ d _ _ h => by cases d <;> exact h) (MStep.to (Mods.refl _ _).drew) ?_
      refine wpRT_rd ?_
      simp only [List.map_cons, List.map_nil, List.getElem?_toArray, List.getElem?_cons_succ, List.getElem?_cons_zero, Option.getD_some]
      repeat (first | go_big_quiet_skip | (go_big_quiet_want; first | (fail; go_frame; go_big_quiet_on) | (go_big_quiet_op; go_big_quiet_on)))
      refine wpQuiet_nil ?_
      have hb0 : Below W8.heap.size W8 W8.drew := (Below.refl _ _).drew
      refine wpRT_two ?_ ?_
      · refine wpRT_one rfl ?_; simp only [List.getElem_toArray, List.getElem_cons_succ, List.getElem_cons_zero]
        go_wp2_with (go_at_call 51; refine (hmaps W8.drew hb0).mono ?_; rintro e w2 ⟨mb, rfl, hX2, hb2'⟩)
        have hb2 := belowTrans hb0 hb2'
        refine ⟨MStep.to (Mods.of_below hb2), ?_⟩
        refine wpRT_two ?_ ?_
        · refine wpRT_one rfl ?_; simp only [List.getElem_toArray, List.getElem_cons_succ, List.getElem_cons_zero]
          go_wp2_with (go_at_call 52; refine (hfind mb w2 hX2 hb2).mono ?_; rintro e w3 ⟨rfl, hb3'⟩)
          have hb3 := belowTrans hb2 hb3'
          refine ⟨MStep.to (Mods.of_below hb3), ?_⟩
          refine wpRT_rd ?_
          simp only [List.map_cons, List.map_nil, List.getElem?_toArray, List.getElem?_cons_succ, List.getElem?_cons_zero, Option.getD_some]
          repeat (first | go_big_quiet_skip | (go_big_quiet_want; first | (fail; go_frame; go_big_quiet_on) | (go_big_quiet_op; go_big_quiet_on)))
          refine wpQuiet_nil ?_
          refine wpRT_one rfl ?_; simp only [List.getElem_toArray, List.getElem_cons_succ, List.getElem_cons_zero]
          go_wp2
          have hh : (w3.alloc (.cells #[.int .u64 0, .int .u64 0] 28)).heap[w3.heap.size]? = some (.cells #[.int .u64 0, .int .u64 0] 28 (0, 0)) := World.alloc_heap_new _ _
          have hb4 : Below W8.heap.size W8 (w3.alloc (.cells #[.int .u64 0, .int .u64 0] 28)) := hb3.alloc hb3.size _
          have hz4 := hb3.size
          refine ⟨MStep.to (Mods.of_below hb4), ?_⟩
          generalize w3.alloc (.cells #[.int .u64 0, .int .u64 0] 28) = W4 at hh hb4 ⊢
          generalize w3.heap.size = pb at hh hz4 ⊢
          have f0 : W4.frozen? ⟨pb, 0, none⟩ = false := by simp [World.frozen?, hh]
          have f1 : W4.frozen? ⟨pb, 1, none⟩ = false := by simp [World.frozen?, hh]
          have c0 : W4.cell? ⟨pb, 0, none⟩ = some (.int .u64 0) := by simp [World.cell?, hh]
          have c1 : W4.cell? ⟨pb, 1, none⟩ = some (.int .u64 0) := by simp [World.cell?, hh]
          refine wpRT_one rfl ?_; simp only [List.getElem_toArray, List.getElem_cons_succ, List.getElem_cons_zero]
          go_wp2
          have hb5 := (hb4.setCell (p := ⟨pb, 0, none⟩) hz4 (.int .u64 (idZero).c)).setCell (p := ⟨pb, 1, none⟩) hz4 (.int .u64 (idZero).k)
          refine ⟨MStep.to (Mods.of_below hb5), ?_⟩
          refine wpRT_rd ?_
          simp only [List.map_cons, List.map_nil, List.getElem?_toArray, List.getElem?_cons_succ, List.getElem?_cons_zero, Option.getD_some]
          repeat (first | go_big_quiet_skip | (go_big_quiet_want; first | (fail; go_frame; go_big_quiet_on) | (go_big_quiet_op; go_big_quiet_on)))
          refine wpQuiet_nil ?_
          refine wpRT_nil ?_
          go_wp2
          go_meet
          exact ⟨pb, rfl, rfl, by simp [World.setCell, Array.getElem?_modify, hh], hz4, hb5⟩
        · refine wpRT_one rfl ?_; simp only [List.getElem_toArray, List.getElem_cons_succ, List.getElem_cons_zero]
          go_wp2
          have hh : (w2.alloc (.cells #[.int .u64 0, .int .u64 0] 28)).heap[w2.heap.size]? = some (.cells #[.int .u64 0, .int .u64 0] 28 (0, 0)) := World.alloc_heap_new _ _
          have hb4 : Below W8.heap.size W8 (w2.alloc (.cells #[.int .u64 0, .int .u64 0] 28)) := hb2.alloc hb2.size _
          have hX4 := hXb mb _ _ hX2 (show Below w2.heap.size w2 (w2.alloc (.cells #[.int .u64 0, .int .u64 0] 28)) from (Below.refl _ _).alloc (Nat.le_refl _) _)
          have hz4 := hb2.size
          refine ⟨MStep.to (Mods.of_below hb4), ?_⟩
          generalize w2.alloc (.cells #[.int .u64 0, .int .u64 0] 28) = W4 at hh hb4 hX4 ⊢
          generalize w2.heap.size = pb at hh hz4 ⊢
          refine wpRT_one rfl ?_; simp only [List.getElem_toArray, List.getElem_cons_succ, List.getElem_cons_zero]
          go_wp2_with (go_at_call 52; refine (hfind mb W4 hX4 hb4).mono ?_; rintro e w3 ⟨rfl, hb3'⟩)
          have hb3 := belowTrans hb4 hb3'
          have hh3 := (hb3'.block pb (Array.getElem?_eq_some_iff.1 hh).1).trans hh
          refine ⟨MStep.to (Mods.of_below hb3), ?_⟩
          refine wpRT_rd ?_
          simp only [List.map_cons, List.map_nil, List.getElem?_toArray, List.getElem?_cons_succ, List.getElem?_cons_zero, Option.getD_some]
          repeat (first | go_big_quiet_skip | (go_big_quiet_want; first | (fail; go_frame; go_big_quiet_on) | (go_big_quiet_op; go_big_quiet_on)))
          refine wpQuiet_nil ?_
          have f0 : w3.frozen? ⟨pb, 0, none⟩ = false := by simp [World.frozen?, hh3]
          have f1 : w3.frozen? ⟨pb, 1, none⟩ = false := by simp [World.frozen?, hh3]
          have c0 : w3.cell? ⟨pb, 0, none⟩ = some (.int .u64 0) := by simp [World.cell?, hh3]
          have c1 : w3.cell? ⟨pb, 1, none⟩ = some (.int .u64 0) := by simp [World.cell?, hh3]
          refine wpRT_one rfl ?_; simp only [List.getElem_toArray, List.getElem_cons_succ, List.getElem_cons_zero]
          go_wp2
          have hb5 := (hb3.setCell (p := ⟨pb, 0, none⟩) hz4 (.int .u64 (idZero).c)).setCell (p := ⟨pb, 1, none⟩) hz4 (.int .u64 (idZero).k)
          refine ⟨MStep.to (Mods.of_below hb5), ?_⟩
          refine wpRT_rd ?_
          simp only [List.map_cons, List.map_nil, List.getElem?_toArray, List.getElem?_cons_succ, List.getElem?_cons_zero, Option.getD_some]
          repeat (first | go_big_quiet_skip | (go_big_quiet_want; first | (fail; go_frame; go_big_quiet_on) | (go_big_quiet_op; go_big_quiet_on)))
          refine wpQuiet_nil ?_
          refine wpRT_nil ?_
          go_wp2
          go_meet
          exact ⟨pb, rfl, rfl, by simp [World.setCell, Array.getElem?_modify, hh3], hz4, hb5⟩
      · refine wpRT_one rfl ?_; simp only [List.getElem_toArray, List.getElem_cons_succ, List.getElem_cons_zero]
        go_wp2
        have hh : (W8.alloc (.cells #[.int .u64 0, .int .u64 0] 28)).drew.heap[W8.heap.size]? = some (.cells #[.int .u64 0, .int .u64 0] 28 (0, 0)) := World.alloc_heap_new _ _
        have hb4 : Below W8.heap.size W8 (W8.alloc (.cells #[.int .u64 0, .int .u64 0] 28)).drew := ((Below.refl _ _).alloc (Nat.le_refl _) _).drew
        have hz4 := Nat.le_refl W8.heap.size
        refine ⟨MStep.to (Mods.of_below hb4), ?_⟩
        generalize (W8.alloc (.cells #[.int .u64 0, .int .u64 0] 28)).drew = W4 at hh hb4 ⊢
        obtain ⟨pb, hpb⟩ : ∃ pb, W8.heap.size = pb := ⟨_, rfl⟩
        rw [hpb] at hh ⊢
        have HPB := Lib.hid hpb
        clear hpb hz4
        refine wpRT_one rfl ?_; simp only [List.getElem_toArray, List.getElem_cons_succ, List.getElem_cons_zero]
        go_wp2_with (go_at_call 51; refine (hmaps W4 hb4).mono ?_; rintro e w2 ⟨mb, rfl, hX2, hb2'⟩)
        have hb2 := belowTrans hb4 hb2'
        have hh2 := (hb2'.block pb (Array.getElem?_eq_some_iff.1 hh).1).trans hh
        refine ⟨MStep.to (Mods.of_below hb2), ?_⟩
        refine wpRT_one rfl ?_; simp only [List.getElem_toArray, List.getElem_cons_succ, List.getElem_cons_zero]
        go_wp2_with (go_at_call 52; refine (hfind mb w2 hX2 hb2).mono ?_; rintro e w3 ⟨rfl, hb3'⟩)
        have hb3 := belowTrans hb2 hb3'
        have hh3 := (hb3'.block pb (Array.getElem?_eq_some_iff.1 hh2).1).trans hh2
        refine ⟨MStep.to (Mods.of_below hb3), ?_⟩
        refine wpRT_rd ?_
        simp only [List.map_cons, List.map_nil, List.getElem?_toArray, List.getElem?_cons_succ, List.getElem?_cons_zero, Option.getD_some]
        repeat (first | go_big_quiet_skip | (go_big_quiet_want; first | (fail; go_frame; go_big_quiet_on) | (go_big_quiet_op; go_big_quiet_on)))
        refine wpQuiet_nil ?_
        have f0 : w3.frozen? ⟨pb, 0, none⟩ = false := by simp [World.frozen?, hh3]
        have f1 : w3.frozen? ⟨pb, 1, none⟩ = false := by simp [World.frozen?, hh3]
        have c0 : w3.cell? ⟨pb, 0, none⟩ = some (.int .u64 0) := by simp [World.cell?, hh3]
        have c1 : w3.cell? ⟨pb, 1, none⟩ = some (.int .u64 0) := by simp [World.cell?, hh3]
        refine wpRT_one rfl ?_; simp only [List.getElem_toArray, List.getElem_cons_succ, List.getElem_cons_zero]
        go_wp2
        have hz4 : W8.heap.size ≤ pb := Nat.le_of_eq HPB.out
        have hb5 := (hb3.setCell (p := ⟨pb, 0, none⟩) hz4 (.int .u64 (idZero).c)).setCell (p := ⟨pb, 1, none⟩) hz4 (.int .u64 (idZero).k)
        refine ⟨MStep.to (Mods.of_below hb5), ?_⟩
        refine wpRT_rd ?_
        simp only [List.map_cons, List.map_nil, List.getElem?_toArray, List.getElem?_cons_succ, List.getElem?_cons_zero, Option.getD_some]
        repeat (first | go_big_quiet_skip | (go_big_quiet_want; first | (fail; go_frame; go_big_quiet_on) | (go_big_quiet_op; go_big_quiet_on)))
        refine wpQuiet_nil ?_
        refine wpRT_nil ?_
        go_wp2
        go_meet
        exact ⟨pb, rfl, rfl, by simp [World.setCell, Array.getElem?_modify, hh3], hz4, hb5⟩
    case rest =>
      obtain ⟨qb, rfl, rfl, _, _, hb9⟩ := hcut
      clear hmaps hfind hXb e9
      go_wp2_with (go_at_call 40; refine (hf _).mono ?_; rintro e w9 ⟨rfl, rfl⟩)
      exact ⟨rfl, rfl, belowTrans hB8 hb9⟩
end Go.Proofs.YthhbiliimdpgmaaGreatDoor
