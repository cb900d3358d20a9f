/- Walk: maps.Set. -/
import Derived.Test.YthhbiliimdpgmaaGreatDoorM30
import Derived.Test.YthhbiliimdpgmaaGreatDoorM32
import Derived.Test.YthhbiliimdpgmaaGreatDoorM07
namespace Go.Proofs.YthhbiliimdpgmaaGreatDoor
open Go.RowKit

theorem run_makeKey (w : World) : ∃ x, x = (Instr.makeMap 206 none).run Tryz.prog w := ⟨_, rfl⟩

def zOpObj : Obj := .cells (encOp opZero).toArray 35

/-- what Set leaves. -/
def HvKeep (bm : Nat) (w w' : World) : Prop := ∀ v, w.cell? ⟨bm, 2, none⟩ = some v → w'.cell? ⟨bm, 2, none⟩ = some v
def MSetRes (F : Nat → Prop) (bm : Nat) (w : World) (sb : Bool) (Mr : QMaps) (e : Ending) (w' : World) : Prop :=
  e = .returned (.bool sb) ∧ MapsIn w' (fun b => F b ∨ w.heap.size ≤ b) bm Mr ∧ Mods F w w' ∧ HvKeep bm w w'

theorem setRes_keep {F : Nat → Prop} {bm : Nat} {w w' : World} {L : MLay} {M : QMaps} (hL : MapsAt w bm L M) (hF : ∀ b, MFoot bm L M b → F b) (hb : Below w.heap.size w w') : MSetRes F bm w false M (.returned (.bool false)) w' :=
  ⟨rfl, ⟨L, hL.below hb, fun b h => .inl (hF b h)⟩, Mods.of_below hb, fun v hv => (hb.cell (p := ⟨bm, 2, none⟩) (hL.foot_lt bm (.inl rfl))).trans hv⟩

set_option maxHeartbeats 400000 in
theorem look_inn3 {w : World} {b : Nat} {res : Option Nat} {PL : List (QId × Nat)} {p : QId} (h : MapK idV w b (PL.map fun p => (p.1, .map (some p.2)))) (hr : (PL.find? fun x => decide (x.1 = p)).map (·.2) = res) :
    (Instr.lookup 88 (.map (some b)) (.agg #[.int .u64 p.c, .int .u64 p.k]) false).run Tryz.prog w = .ok (.map res) w := by
  have := run_look (T := 88) (E := 206) idKey (by kernel_rfl) (z := .map none) (fun w => by kernel_rfl) h p false
  refine this.trans ?_
  rw [if_neg (by decide), look_find (fun x : QId × Nat => Value.map (some x.2)) Prod.fst]
  cases hf : List.find? (fun o : QId × Nat => decide (o.1 = p)) PL with
  | none => rw [hf] at hr; subst hr; rfl
  | some x => rw [hf] at hr; subst hr; rfl

theorem keysAt_none {w : World} {bm : Nat} {L : MLay} {M : QMaps} (h : MapsAt w bm L M) {p : QId} (hr : innBlk L p = none) : keysAt M.ops p = [] := by
  apply List.eq_nil_iff_forall_not_mem.2
  intro k hk
  obtain ⟨o, ho, hp, _⟩ := opsAt_ne.1 (mem_keysAt_iff.1 hk)
  exact innBlk_none h hr o ho hp
def PLOk (w : World) (L : MLay) (p : QId) (r : Nat) (PL' : List (QId × Nat)) : Prop := (PL' = L.PL ∧ (p, r) ∈ L.PL) ∨ (PL' = L.PL ++ [(p, r)] ∧ w.heap.size ≤ r ∧ innBlk L p = none)
theorem eqMap_some (r : Nat) (w : World) : (binOp BinOp.eql 206 (.map (some r)) (.map none)).run Tryz.prog w = .ok (.bool false) w := by kernel_rfl
theorem eqMap_none (w : World) : (binOp BinOp.eql 206 (.map none) (.map none)).run Tryz.prog w = .ok (.bool true) w := by kernel_rfl

set_option maxRecDepth 100000 in
theorem set_any (F : Nat → Prop) (bm : Nat) (M : QMaps) (o : QOp) (w : World) (hm : MapsIn w F bm M) (hlen : M.ops.length ≤ 100000) :
    Calls Tryz.prog 124 #[.pointer (some ⟨bm, 0, none⟩), .agg #[.int .u64 o.id.c, .int .u64 o.id.k, .int .i64 o.kind, .int .u64 o.stamp, .int .u64 o.left.c, .int .u64 o.left.k, .int .u64 o.right.c, .int .u64 o.right.k, .string o.text, .int .i64 o.v.kind, .int .i64 o.v.n, .float .f64 o.v.f, .string o.v.s, .string o.key, .int .u64 o.parent.c, .int .u64 o.parent.k, .int .u64 o.frm.c, .int .u64 o.frm.k, .bool o.frmA, .int .u64 o.til.c, .int .u64 o.til.k, .bool o.tilA]] w (MSetRes F bm w (M.setB o) (if M.setB o then M.set o else M)) := by
  obtain ⟨L, hL, hF⟩ := hm
  obtain ⟨sb, hsb⟩ : ∃ sb, M.setB o = sb := ⟨_, rfl⟩
  obtain ⟨Mr, hMr⟩ : ∃ Mr, (if M.setB o then M.set o else M) = Mr := ⟨_, rfl⟩
  rw [hMr, hsb]
  have hw0 : OpBox (w.alloc (.cells #[.int .u64 o.id.c, .int .u64 o.id.k, .int .i64 o.kind, .int .u64 o.stamp, .int .u64 o.left.c, .int .u64 o.left.k, .int .u64 o.right.c, .int .u64 o.right.k, .string o.text, .int .i64 o.v.kind, .int .i64 o.v.n, .float .f64 o.v.f, .string o.v.s, .string o.key, .int .u64 o.parent.c, .int .u64 o.parent.k, .int .u64 o.frm.c, .int .u64 o.frm.k, .bool o.frmA, .int .u64 o.til.c, .int .u64 o.til.k, .bool o.tilA] 35)) w.heap.size o := OpBox.new w o
  have hB0 : Below w.heap.size w (w.alloc (.cells #[.int .u64 o.id.c, .int .u64 o.id.k, .int .i64 o.kind, .int .u64 o.stamp, .int .u64 o.left.c, .int .u64 o.left.k, .int .u64 o.right.c, .int .u64 o.right.k, .string o.text, .int .i64 o.v.kind, .int .i64 o.v.n, .float .f64 o.v.f, .string o.v.s, .string o.key, .int .u64 o.parent.c, .int .u64 o.parent.k, .int .u64 o.frm.c, .int .u64 o.frm.k, .bool o.frmA, .int .u64 o.til.c, .int .u64 o.til.k, .bool o.tilA] 35)) := by (repeat (first | exact Below.refl _ _ | assumption | refine Below.alloc ?_ (by simp <;> omega) _ | refine Below.drew ?_ | refine below_drewN ?_ _ | refine Below.setCell ?_ (by simp <;> omega) _ | refine belowTrans ?_ (by assumption)))
  have hs0 : (w.alloc (.cells #[.int .u64 o.id.c, .int .u64 o.id.k, .int .i64 o.kind, .int .u64 o.stamp, .int .u64 o.left.c, .int .u64 o.left.k, .int .u64 o.right.c, .int .u64 o.right.k, .string o.text, .int .i64 o.v.kind, .int .i64 o.v.n, .float .f64 o.v.f, .string o.v.s, .string o.key, .int .u64 o.parent.c, .int .u64 o.parent.k, .int .u64 o.frm.c, .int .u64 o.frm.k, .bool o.frmA, .int .u64 o.til.c, .int .u64 o.til.k, .bool o.tilA] 35)).heap.size = w.heap.size + 1 := by simp
  go_enter Tryz.func124, Tryz.ntmps124
  go_upto_region 1 with fail
  obtain ⟨W, hW⟩ : ∃ W, w.alloc (.cells #[.int .u64 o.id.c, .int .u64 o.id.k, .int .i64 o.kind, .int .u64 o.stamp, .int .u64 o.left.c, .int .u64 o.left.k, .int .u64 o.right.c, .int .u64 o.right.k, .string o.text, .int .i64 o.v.kind, .int .i64 o.v.n, .float .f64 o.v.f, .string o.v.s, .string o.key, .int .u64 o.parent.c, .int .u64 o.parent.k, .int .u64 o.frm.c, .int .u64 o.frm.k, .bool o.frmA, .int .u64 o.til.c, .int .u64 o.til.k, .bool o.tilA] 35) = W := ⟨_, rfl⟩
  rw [hW] at hw0 hB0 hs0 ⊢
  have hL1 := hL.below hB0
  have c0 : ∀ s : MStep (fun _ => False) W, s.val.cell? ⟨bm, 0, none⟩ = some (.map (some L.all)) := MStep.cell (hL1.foot_lt _ (.inl rfl)) id (by simp [World.cell?, hL1.st])
  have i0 : ∀ s : MStep (fun _ => False) W, s.val.cell? ⟨w.heap.size, 0, none⟩ = some (.int .u64 o.id.c) := MStep.cell hw0.lt id (hw0.cells 0 _ rfl)
  have i1 : ∀ s : MStep (fun _ => False) W, s.val.cell? ⟨w.heap.size, 1, none⟩ = some (.int .u64 o.id.k) := MStep.cell hw0.lt id (hw0.cells 1 _ rfl)
  have hlk : ∀ s : MStep (fun _ => False) W, (Instr.lookup 59 (.map (some L.all)) (.agg #[.int .u64 o.id.c, .int .u64 o.id.k]) true).run Tryz.prog s.val = .ok (.tuple #[opV ((M.at_ o.id).getD opZero), .bool (M.has o.id)]) s.val :=
    fun s => look_all (w := s.val) (hL1.keep fun b hb => s.h.block b (hL1.foot_lt b hb) id) o.id true
  clear hW
  refine wp_region_flow 12 [0, 1, 2, 3, 4, 5, 6, 7, 8, 9] [10, 11, 12] (fun w' => ∃ s : MStep (fun _ => False) W, w' = s.val) (by kernel_rfl) (by kernel_rfl) (fun _ _ d _ _ h => by cases d <;> exact h) (MStep.to (Mods.refl _ _).drew) ?_
  simp only [List.map_cons, List.map_nil, List.getElem?_cons_succ, List.getElem?_cons_zero, Option.getD_some]
  repeat (first | go_big_quiet_skip | (go_big_quiet_want; first | (fail; go_frame; go_big_quiet_on) | (go_big_quiet_op; go_big_quiet_on)))
  refine wpQuiet_nil ?_
  have bz : OpBox ((W.alloc zOpObj).drew) (w.heap.size + 1) opZero := by
    have := OpBox.new W opZero
    rw [hs0] at this
    exact this
  refine wpSeqF_step rfl ?_; simp only [List.getElem_toArray, List.getElem_cons_succ, List.getElem_cons_zero]
  go_wp2
  refine ⟨MStep.to (((Mods.refl _ W).alloc zOpObj).drew), ?_⟩
  refine wpSeqF_step rfl ?_; simp only [List.getElem_toArray, List.getElem_cons_succ, List.getElem_cons_zero]
  refine wpList_store_eq rfl rfl rfl rfl (OpBox.store bz _) ?_
  go_frame
  have m1 : Mods (fun _ => False) W (putOp ((W.alloc zOpObj).drew) (w.heap.size + 1) ((M.at_ o.id).getD opZero)) := Mods.of_below (below_putOp ((Below.refl _ _).alloc (by omega) _).drew (by omega) _)
  have s1 : (putOp ((W.alloc zOpObj).drew) (w.heap.size + 1) ((M.at_ o.id).getD opZero)).heap.size = w.heap.size + 2 := by simp; omega
  obtain ⟨W2, hW2⟩ : ∃ W2, putOp ((W.alloc zOpObj).drew) (w.heap.size + 1) ((M.at_ o.id).getD opZero) = W2 := ⟨_, rfl⟩
  rw [hW2] at m1 s1 ⊢
  refine ⟨fun _ => MStep.to m1, ?_⟩
  clear hW2 bz
  refine wpSeqF_step rfl ?_; simp only [List.getElem_toArray, List.getElem_cons_succ, List.getElem_cons_zero]
  go_wp2
  refine wpSeqF_nil ?_
  have hB2 : Below w.heap.size w W2 := belowTrans hB0 (modsBelow m1)
  have hw2 : OpBox W2 w.heap.size o := (m1.block _ hw0.lt id).trans hw0
  clear hL1 hlk i1 i0 c0 m1 hw0 hB0 hs0
  clear W
  have hL2 := hL.below hB2
  have q2 : W2.cell? ⟨w.heap.size, 2, none⟩ = some (.int .i64 o.kind) := hw2.cells 2 _ rfl
  have q0 : W2.cell? ⟨w.heap.size, 0, none⟩ = some (.int .u64 o.id.c) := hw2.cells 0 _ rfl
  have q1 : W2.cell? ⟨w.heap.size, 1, none⟩ = some (.int .u64 o.id.k) := hw2.cells 1 _ rfl
  have nR := fun w' => right_any o.id w'
  have nI := fun w' (h : Below W2.heap.size W2 w') => mapsIs_any F bm M o.parent w' ⟨L, hL2.below h, hF⟩
  cases hk : (o.kind == 4)
  · have hs : M.setB o = false := by simp at hk; simp [QMaps.setB, hk]
    rw [if_neg (by simp [hs])] at hMr
    rw [hs] at hsb
    subst hsb; subst hMr
    clear hs nR nI
    have hk2 : (o.kind != 4) = true := by simp at hk ⊢; exact hk
    go_wp2
    go_ret
    exact setRes_keep hL hF hB2
  have hk2 : (o.kind != 4) = false := by simp at hk ⊢; exact hk
  cases hr : o.id.rightB
  · have hs : M.setB o = false := by simp [QMaps.setB, hr]
    rw [if_neg (by simp [hs])] at hMr
    rw [hs] at hsb
    subst hsb; subst hMr
    clear hs nI
    rw [hr] at nR
    go_wp2_with (go_at_call 57; refine (nR _).mono ?_; rintro e w3 ⟨rfl, hb3⟩)
    go_ret
    exact setRes_keep hL hF (belowTrans hB2 hb3)
  rw [hr] at nR
  cases hh : M.has o.id
  case true =>
    have hs : M.setB o = false := by simp [QMaps.setB, hh]
    rw [if_neg (by simp [hs])] at hMr
    rw [hs] at hsb
    subst hsb; subst hMr
    clear hs nI
    go_wp2_with (go_at_call 57; refine (nR _).mono ?_; rintro e w3 ⟨rfl, hb3⟩)
    go_ret
    exact setRes_keep hL hF (belowTrans hB2 hb3)
  cases hi : M.isMap o.parent
  · have hs : M.setB o = false := by simp [QMaps.setB, hi]
    rw [if_neg (by simp [hs])] at hMr
    rw [hs] at hsb
    subst hsb; subst hMr
    clear hs
    rw [hi] at nI
    go_wp2_with (first | (go_at_call 57; refine (nR _).mono ?_; rintro e w3 ⟨rfl, hb3⟩; have q14 : w3.cell? ⟨w.heap.size, 14, none⟩ = some (.int .u64 o.parent.c) := (hw2.below hb3 hw2.lt).cells 14 _ rfl; have q15 : w3.cell? ⟨w.heap.size, 15, none⟩ = some (.int .u64 o.parent.k) := (hw2.below hb3 hw2.lt).cells 15 _ rfl) | (go_at_call 152; refine (nI _ hb3).mono ?_; rintro e w4 ⟨rfl, hb4⟩))
    go_ret
    exact setRes_keep hL hF (belowTrans (belowTrans hB2 hb3) hb4)
  have hs : M.setB o = true := by simp at hk; simp [QMaps.setB, hk, hr, hh, hi]
  rw [if_pos hs] at hMr
  rw [hs] at hsb
  subst hsb
  clear hs
  rw [hi] at nI
  have hsf := store_float
  have nC := fun w' => valClean_any o.v w'
  go_wp2_with (first | (go_at_call 57; refine (nR _).mono ?_; rintro e w3 ⟨rfl, hb3⟩; have q14 : w3.cell? ⟨w.heap.size, 14, none⟩ = some (.int .u64 o.parent.c) := (hw2.below hb3 hw2.lt).cells 14 _ rfl; have q15 : w3.cell? ⟨w.heap.size, 15, none⟩ = some (.int .u64 o.parent.k) := (hw2.below hb3 hw2.lt).cells 15 _ rfl) | (go_at_call 152; refine (nI _ hb3).mono ?_; rintro e w4 ⟨rfl, hb4⟩; have hw4 := hw2.below (belowTrans hb3 hb4) hw2.lt; have q9 := hw4.cells 9 _ rfl; have q10 := hw4.cells 10 _ rfl; have q11 := hw4.cells 11 _ rfl; have q12 := hw4.cells 12 _ rfl; simp only [Nat.zero_add] at q9 q10 q11 q12) | (go_at_call 42; refine (nC _).mono ?_; rintro e w5 ⟨rfl, hb5⟩; clear q9 q10 q11 q12; have hw5 := hw4.below hb5 hw4.lt; have q9 := hw5.cells 9 _ rfl; have q10 := hw5.cells 10 _ rfl; have q11 := hw5.cells 11 _ rfl; have q12 := hw5.cells 12 _ rfl; simp only [Nat.zero_add] at q9 q10 q11 q12; have f9 : w5.frozen? ⟨w.heap.size, 9, none⟩ = false := (by simp [World.frozen?, show w5.heap[w.heap.size]? = _ from hw5]); have f10 : w5.frozen? ⟨w.heap.size, 10, none⟩ = false := (by simp [World.frozen?, show w5.heap[w.heap.size]? = _ from hw5]); have f11 : w5.frozen? ⟨w.heap.size, 11, none⟩ = false := (by simp [World.frozen?, show w5.heap[w.heap.size]? = _ from hw5]); have f12 : w5.frozen? ⟨w.heap.size, 12, none⟩ = false := (by simp [World.frozen?, show w5.heap[w.heap.size]? = _ from hw5])))
  have hB4 : Below w.heap.size w ((((w5.setCell ⟨w.heap.size, 9, none⟩ (.int .i64 o.v.clean.kind)).setCell ⟨w.heap.size, 10, none⟩ (.int .i64 o.v.clean.n)).setCell ⟨w.heap.size, 11, none⟩ (.float .f64 o.v.clean.f)).setCell ⟨w.heap.size, 12, none⟩ (.string o.v.clean.s)) :=
    (((((belowTrans (belowTrans (belowTrans hB2 hb3) hb4) hb5).setCell (Nat.le_refl _) _).setCell (Nat.le_refl _) _).setCell (Nat.le_refl _) _).setCell (Nat.le_refl _) _)
  have hw6 := hw5.setV o.v.clean
  obtain ⟨W, hW⟩ : ∃ W, ((((w5.setCell ⟨w.heap.size, 9, none⟩ (.int .i64 o.v.clean.kind)).setCell ⟨w.heap.size, 10, none⟩ (.int .i64 o.v.clean.n)).setCell ⟨w.heap.size, 11, none⟩ (.float .f64 o.v.clean.f)).setCell ⟨w.heap.size, 12, none⟩ (.string o.v.clean.s)) = W := ⟨_, rfl⟩
  rw [hW] at hB4 hw6 ⊢
  clear hW q9 q10 q11 q12 f9 f10 f11 f12 hw5 hw4 q14 q15 hb3 hb4 hb5 q0 q1 q2 hw2 hL2 nR nI nC hB2 s1
  clear w5 w4 w3 W2
  have hset : M.set o = ⟨M.ops ++ [o.clean], M.hidden⟩ := rfl
  rw [hset] at hMr
  clear hset
  have hhc : M.has o.clean.id = false := hh
  rw [show ({ o with v := o.v.clean } : QOp) = o.clean from rfl] at hw6
  obtain ⟨oc, hoc⟩ : ∃ oc, o.clean = oc := ⟨_, rfl⟩
  rw [hoc] at hw6 hhc hMr
  have hL4 := hL.below hB4
  -- region 5
  have c0 : ∀ s : MStep (fun _ => False) W, s.val.cell? ⟨bm, 0, none⟩ = some (.map (some L.all)) := MStep.cell (hL4.foot_lt _ (.inl rfl)) id (by simp [World.cell?, hL4.st])
  have i0 : ∀ s : MStep (fun _ => False) W, s.val.cell? ⟨w.heap.size, 0, none⟩ = some (.int .u64 oc.id.c) := MStep.cell hw6.lt id (hw6.cells 0 _ rfl)
  have i1 : ∀ s : MStep (fun _ => False) W, s.val.cell? ⟨w.heap.size, 1, none⟩ = some (.int .u64 oc.id.k) := MStep.cell hw6.lt id (hw6.cells 1 _ rfl)
  have l1 : ∀ w', (∃ s : MStep (fun _ => False) W, w' = s.val) → (loadVar 35 ⟨w.heap.size, 0, none⟩).run Tryz.prog w' = .ok (opV oc) w' := by
    rintro _ ⟨s, rfl⟩
    exact OpBox.load ((s.h.block _ hw6.lt id).trans hw6)
  obtain ⟨ob, hput, hall⟩ := put_all_run (w := W.drew) hL4.all oc.id (opV oc)
  refine wp_region_flow 7 [0, 1, 2, 3, 4, 5, 6] [7] (fun w' => ∃ s : MStep (fun _ => False) W, w' = s.val) (by kernel_rfl) (by kernel_rfl) (fun _ _ d _ _ h => by cases d <;> exact h) (MStep.to (Mods.refl _ _).drew) ?_
  simp only [List.map_cons, List.map_nil, List.getElem?_cons_succ, List.getElem?_cons_zero, Option.getD_some]
  repeat (first | go_big_quiet_skip | (go_big_quiet_want; first | (refine quiet_load 35 _ _ rfl rfl l1 ?_; go_frame; go_big_quiet_on) | (go_big_quiet_op; go_big_quiet_on)))
  refine wpQuiet_nil ?_
  refine wpSeqF_step rfl ?_; simp only [List.getElem_toArray, List.getElem_cons_succ, List.getElem_cons_zero]
  go_wp2
  refine wpSeqF_nil ?_
  have hm5 : Mods (fun b => b = L.all) W (putMap W.drew L.all ob) := Mods.putMap (S := fun b => b = L.all) ((Mods.refl _ W).drew) (.inl rfl) ob
  have hs5 : (putMap W.drew L.all ob).heap.size = W.heap.size := by simp
  obtain ⟨W5, hW5⟩ : ∃ W5, putMap W.drew L.all ob = W5 := ⟨_, rfl⟩
  rw [hW5] at hm5 hall hs5 ⊢
  clear hW5 hput c0 i0 i1 l1
  go_wp2_with fail
  have hab : L.all ≠ bm := hL4.all.ne hL4.st
  have hst5 : W5.heap[bm]? = some (.cells #[.map (some L.all), .map (some L.inn), L.hv] 90 (0, 0)) := (hm5.block bm (hL4.foot_lt _ (.inl rfl)) hab.symm).trans hL4.st
  have hw5 : OpBox W5 w.heap.size oc := (hm5.block _ hw6.lt (hL4.all.ne hw6).symm).trans hw6
  have hsep := hL4.sep
  have hai : L.all ≠ L.inn := by rw [List.nodup_cons] at hsep; exact fun e => hsep.1 (by simp [e])
  have hinn5 : MapK idV W5 L.inn (L.PL.map fun p => (p.1, .map (some p.2))) := hL4.inn.blk (hm5.block _ hL4.inn.lt hai.symm)
  have hrow5 : OwnAt 0 35 22 encOp W5 (rowOf L M oc.parent oc.key) (opsAt M.ops oc.parent oc.key) := by
    have := rowOf_own hL4 oc.parent oc.key
    exact ownsRow_blk this fun b hb => hm5.block b (ownsRow_lt this b hb) (hL4.all.ne_own this hb).symm
  -- region 6
  have c1 : W5.cell? ⟨bm, 1, none⟩ = some (.map (some L.inn)) := by simp [World.cell?, hst5]
  have i14 : W5.cell? ⟨w.heap.size, 14, none⟩ = some (.int .u64 oc.parent.c) := hw5.cells 14 _ rfl
  have i15 : W5.cell? ⟨w.heap.size, 15, none⟩ = some (.int .u64 oc.parent.k) := hw5.cells 15 _ rfl
  cases hib : innBlk L oc.parent with
  | some r =>
    have hin5 : MapK Value.string W5 r ((keysAt M.ops oc.parent).map fun k => (k, L.row oc.parent k)) := by
      have hp := innBlk_some hL4 hib
      refine (hL4.inner _ hp).blk (hm5.block _ (hL4.inner _ hp).lt ?_)
      intro e
      rw [List.nodup_cons] at hsep
      exact hsep.1 (by rw [← e]; simp; exact .inr ⟨_, hp⟩)
    have hl6 : ∀ n, (Instr.lookup 88 (.map (some L.inn)) (.agg #[.int .u64 oc.parent.c, .int .u64 oc.parent.k]) false).run Tryz.prog (W5.drewN n) = .ok (.map (some r)) (W5.drewN n) :=
      fun n => look_inn2 (w := W5.drewN n) hinn5 hib
    have hbe := eqMap_some r
    go_quiet (fail)
    go_wp2_with fail
    obtain ⟨W7, hW7⟩ : ∃ W7, W5.drewN nq = W7 := ⟨_, rfl⟩
    have hm7 : Mods (fun b => b = L.all ∨ b = L.inn ∨ b = r ∨ (rowOf L M oc.parent oc.key).ownBlock = some b) W W7 := by
      rw [← hW7]; exact (hm5.mono fun k h => .inl h).trans (Mods.of_below (below_drewN (Below.refl _ _) nq))
    have hst7 := (show (W5.drewN nq).heap[bm]? = W5.heap[bm]? from rfl).trans hst5
    have hw7 : OpBox W7 w.heap.size oc := by rw [← hW7]; exact hw5
    have hall7 : MapK idV W7 L.all (put (M.ops.map fun o => (o.id, opV o)) oc.id (opV oc)) := by rw [← hW7]; exact hall
    have hinn7 : MapK idV W7 L.inn (L.PL.map fun p => (p.1, .map (some p.2))) := by rw [← hW7]; exact hinn5
    have hin7 : MapK Value.string W7 r ((keysAt M.ops oc.parent).map fun k => (k, L.row oc.parent k)) := by rw [← hW7]; exact hin5
    have hrow7 : OwnAt 0 35 22 encOp W7 (rowOf L M oc.parent oc.key) (opsAt M.ops oc.parent oc.key) := by rw [← hW7]; exact hrow5
    have hPL : PLOk W L oc.parent r L.PL := .inl ⟨rfl, innBlk_some hL4 hib⟩
    have hfind := hib
    unfold innBlk at hfind
    have har : L.all ≠ r := by
      intro e; rw [List.nodup_cons] at hsep; exact hsep.1 (by rw [e]; simp; exact .inr ⟨_, innBlk_some hL4 hib⟩)
    have hir : L.inn ≠ r := by
      intro e; rw [List.nodup_cons, List.nodup_cons] at hsep; exact hsep.2.1 (by rw [e]; simp; exact ⟨_, innBlk_some hL4 hib⟩)
    rw [hW7] at hst7 ⊢
    clear hW7 hm5 hst5 hw5 hinn5 hin5 hrow5 hl6 c1 i14 i15 hall hbe hs5
    clear W5
    have hd1 : ∀ b, (rowOf L M oc.parent oc.key).ownBlock = some b → b < W.heap.size ∧ b ≠ bm ∧ b ≠ w.heap.size ∧ b ≠ L.inn ∧ b ≠ r ∧ b ≠ L.all := fun b hb =>
      ⟨ownsRow_lt (rowOf_own hL4 oc.parent oc.key) b hb, fun e => ownsRow_ne hrow7 hst7 (by decide) (by rw [hb, e]), fun e => ?hd1a, (hinn7.ne_own hrow7 hb).symm, (hin7.ne_own hrow7 hb).symm, (hall7.ne_own hrow7 hb).symm⟩
    case hd1a =>
      have h1 := ownsRow_lt (rowOf_own hL oc.parent oc.key) b hb
      omega
    have c1 : ∀ s : MStep (fun b => (rowOf L M oc.parent oc.key).ownBlock = some b) W7, s.val.cell? ⟨bm, 1, none⟩ = some (.map (some L.inn)) := MStep.cell (Array.getElem?_eq_some_iff.1 hst7).1 (fun h => (hd1 _ h).2.1 rfl) (by simp [World.cell?, hst7])
    have i14 : ∀ s : MStep (fun b => (rowOf L M oc.parent oc.key).ownBlock = some b) W7, s.val.cell? ⟨w.heap.size, 14, none⟩ = some (.int .u64 oc.parent.c) := MStep.cell hw7.lt (fun h => (hd1 _ h).2.2.1 rfl) (hw7.cells 14 _ rfl)
    have i15 : ∀ s : MStep (fun b => (rowOf L M oc.parent oc.key).ownBlock = some b) W7, s.val.cell? ⟨w.heap.size, 15, none⟩ = some (.int .u64 oc.parent.k) := MStep.cell hw7.lt (fun h => (hd1 _ h).2.2.1 rfl) (hw7.cells 15 _ rfl)
    have i13 : ∀ s : MStep (fun b => (rowOf L M oc.parent oc.key).ownBlock = some b) W7, s.val.cell? ⟨w.heap.size, 13, none⟩ = some (.string oc.key) := MStep.cell hw7.lt (fun h => (hd1 _ h).2.2.1 rfl) (hw7.cells 13 _ rfl)
    have k1 : ∀ s : MStep (fun b => (rowOf L M oc.parent oc.key).ownBlock = some b) W7, (Instr.lookup 88 (.map (some L.inn)) (.agg #[.int .u64 oc.parent.c, .int .u64 oc.parent.k]) false).run Tryz.prog s.val = .ok (.map (some r)) s.val :=
      fun s => look_inn3 (hinn7.blk (s.h.block _ hinn7.lt (fun h => (hd1 _ h).2.2.2.1 rfl))) hfind
    have k2 : ∀ s : MStep (fun b => (rowOf L M oc.parent oc.key).ownBlock = some b) W7, (Instr.lookup 206 (.map (some r)) (.string oc.key) false).run Tryz.prog s.val = .ok (rowOf L M oc.parent oc.key) s.val :=
      fun s => look_key2 (hin7.blk (s.h.block _ hin7.lt (fun h => (hd1 _ h).2.2.2.2.1 rfl))) oc.key
    have l1 : ∀ w', (∃ s : MStep (fun b => (rowOf L M oc.parent oc.key).ownBlock = some b) W7, w' = s.val) → (loadVar 35 ⟨w.heap.size, 0, none⟩).run Tryz.prog w' = .ok (.agg #[.int .u64 oc.id.c, .int .u64 oc.id.k, .int .i64 oc.kind, .int .u64 oc.stamp, .int .u64 oc.left.c, .int .u64 oc.left.k, .int .u64 oc.right.c, .int .u64 oc.right.k, .string oc.text, .int .i64 oc.v.kind, .int .i64 oc.v.n, .float .f64 oc.v.f, .string oc.v.s, .string oc.key, .int .u64 oc.parent.c, .int .u64 oc.parent.k, .int .u64 oc.frm.c, .int .u64 oc.frm.k, .bool oc.frmA, .int .u64 oc.til.c, .int .u64 oc.til.k, .bool oc.tilA]) w' := by
      rintro _ ⟨s, rfl⟩
      exact OpBox.load ((s.h.block _ hw7.lt (fun h => (hd1 _ h).2.2.1 rfl)).trans hw7)
    refine wp_region_flow 22 [0, 1, 2, 3, 4, 5, 6, 7, 8, 9, 10, 11, 12, 13, 14, 15, 16, 17, 18, 19] [20, 21, 22] (fun w' => ∃ s : MStep (fun b => (rowOf L M oc.parent oc.key).ownBlock = some b) W7, w' = s.val) (by kernel_rfl) (by kernel_rfl) (fun _ _ d _ _ h => by cases d <;> exact h) (MStep.to (Mods.refl _ _).drew) ?_
    simp only [List.map_cons, List.map_nil, List.getElem?_cons_succ, List.getElem?_cons_zero, Option.getD_some]
    repeat (first | go_big_quiet_skip | (go_big_quiet_want; first | (refine quiet_load 35 _ _ rfl rfl l1 ?_; go_frame; go_big_quiet_on) | (go_big_quiet_op; go_big_quiet_on)))
    refine wpQuiet_nil ?_
    refine wpSeqF_step rfl ?_; simp only [List.getElem_toArray, List.getElem_cons_succ, List.getElem_cons_zero]
    go_wp2
    refine ⟨MStep.to (((Mods.refl _ W7).alloc (.cells #[.int .u64 oc.id.c, .int .u64 oc.id.k, .int .i64 oc.kind, .int .u64 oc.stamp, .int .u64 oc.left.c, .int .u64 oc.left.k, .int .u64 oc.right.c, .int .u64 oc.right.k, .string oc.text, .int .i64 oc.v.kind, .int .i64 oc.v.n, .float .f64 oc.v.f, .string oc.v.s, .string oc.key, .int .u64 oc.parent.c, .int .u64 oc.parent.k, .int .u64 oc.frm.c, .int .u64 oc.frm.k, .bool oc.frmA, .int .u64 oc.til.c, .int .u64 oc.til.k, .bool oc.tilA] 35)).drew), ?_⟩
    refine wpSeqF_step rfl ?_; simp only [List.getElem_toArray, List.getElem_cons_succ, List.getElem_cons_zero]
    obtain ⟨ix, hix, hz0, hz1, hz2⟩ := info_parts infoOp
    have hopl : (opsAt M.ops oc.parent oc.key).length ≤ 100000 := Nat.le_trans (List.length_filter_le _ _) hlen
    refine wpList_append_own_at _ rfl _ _ 39 (by rfl) 0 35 ix (opV opZero) 22 200 Tryz.underlying39 hix hz0 hz1 hz2 (by rfl) (by decide) _ _ _ (by rfl) (show World.ownsRow ((W7.alloc _).drew) _ _ _ _ _ _ from hrow7.alloc _) ⟨W7.heap.size, 0, none⟩ 1 1 (encOp oc) (by rfl) (by rfl) ?tc1 ?tc2 ?tc3 ?tc4 (Nat.zero_le _) ?_
    case tc1 => exact fun j u hu => by rw [Addr.add_lit]; exact (show OpBox ((W7.alloc (.cells #[.int .u64 oc.id.c, .int .u64 oc.id.k, .int .i64 oc.kind, .int .u64 oc.stamp, .int .u64 oc.left.c, .int .u64 oc.left.k, .int .u64 oc.right.c, .int .u64 oc.right.k, .string oc.text, .int .i64 oc.v.kind, .int .i64 oc.v.n, .float .f64 oc.v.f, .string oc.v.s, .string oc.key, .int .u64 oc.parent.c, .int .u64 oc.parent.k, .int .u64 oc.frm.c, .int .u64 oc.frm.k, .bool oc.frmA, .int .u64 oc.til.c, .int .u64 oc.til.k, .bool oc.tilA] 35)).drew) W7.heap.size oc from OpBox.new W7 oc).cells j u hu
    case tc2 => intro u hu; simp [encOp] at hu; rcases hu with h | h | h | h | h | h | h | h | h | h | h | h | h | h | h | h | h | h | h | h | h | h <;> (subst h; rfl)
    case tc3 => unfold maxLen; omega
    case tc4 => omega
    intro v' w8 hown8 hgrow8 hnil8 hblk8
    go_frame
    have hm8 : Mods (fun b => (rowOf L M oc.parent oc.key).ownBlock = some b) W7 w8 := ((Mods.refl _ W7).alloc _).drew.grown hgrow8 (fun b hb => .inl hb)
    refine ⟨fun _ => MStep.to hm8, ?_⟩
    have hin8 : MapK Value.string w8 r ((keysAt M.ops oc.parent).map fun k => (k, L.row oc.parent k)) := hin7.blk (hm8.block _ hin7.lt (fun h => (hd1 _ h).2.2.2.2.1 rfl))
    obtain ⟨ob3, hput3, hkey3⟩ := put_key_run hin8 oc.key v'
    refine wpSeqF_step rfl ?_; simp only [List.getElem_toArray, List.getElem_cons_succ, List.getElem_cons_zero]
    go_wp2
    refine wpSeqF_nil ?_
    have hm9 : Mods (fun b => b = L.all ∨ b = L.inn ∨ b = r ∨ (rowOf L M oc.parent oc.key).ownBlock = some b) W (putMap w8 r ob3) :=
      (hm7.trans (hm8.mono fun k h => .inr (.inr (.inr h)))).putMap (.inl (.inr (.inr (.inl rfl)))) ob3
    have hall9 : MapK idV (putMap w8 r ob3) L.all (put (M.ops.map fun o => (o.id, opV o)) oc.id (opV oc)) :=
      hall7.blk ((putMap_other har).trans (hm8.block _ hall7.lt (fun h => (hd1 _ h).2.2.2.2.2 rfl)))
    have hinn9 := hinn7.blk ((putMap_other (o := ob3) hir).trans (hm8.block _ hinn7.lt (fun h => (hd1 _ h).2.2.2.1 rfl)))
    have hrow9 : OwnAt 0 35 22 encOp (putMap w8 r ob3) v' (opsAt M.ops oc.parent oc.key ++ [oc]) := by
      have h1 : OwnAt 0 35 22 encOp w8 v' (opsAt M.ops oc.parent oc.key ++ [oc]) := by
        unfold OwnAt
        rw [List.length_append, List.flatMap_append]
        simpa using hown8
      exact ownsRow_blk h1 fun b hb => putMap_other (hin8.ne_own h1 hb).symm
    have hblk9 : v'.ownBlock = (rowOf L M oc.parent oc.key).ownBlock ∨ ∃ b, v'.ownBlock = some b ∧ W.heap.size ≤ b := by
      rcases hblk8 with h | h
      · exact .inl h
      · exact .inr ⟨_, h, by have := hm7.size; simp; omega⟩
    have hend := MapsAt.set hL4 hhc hPL hm9 hall9 hinn9 hkey3 hrow9 hblk9
    have hmF : Mods F w (putMap w8 r ob3) := (Mods.of_below hB4).trans ⟨hm9.os, hm9.tape, hm9.output, hm9.size, fun k hk hs => hm9.block k hk (by
      rintro (h | h | h | h)
      · exact hs (hF _ (.inr (.inl h)))
      · exact hs (hF _ (.inr (.inr (.inl h))))
      · rcases hPL with ⟨_, hp⟩ | ⟨_, hp, _⟩
        · exact hs (hF _ (.inr (.inr (.inr (.inl (List.mem_map.2 ⟨_, hp, h.symm⟩))))))
        · omega
      · obtain ⟨hne, hb⟩ := rowOf_block h
        exact hs (hF _ (.inr (.inr (.inr (.inr (.inr ⟨_, _, hne, hb⟩)))))))⟩
    have hfoot : ∀ b, MFoot bm L M b ∨ W.heap.size ≤ b → F b ∨ w.heap.size ≤ b := by
      rintro b (h | h)
      · exact .inl (hF b h)
      · exact .inr (Nat.le_trans hB4.size h)
    rw [hMr] at hend
    clear hMr
    obtain ⟨w9, hw9⟩ : ∃ w9, putMap w8 r ob3 = w9 := ⟨_, rfl⟩
    rw [hw9] at hend hmF ⊢
    clear hput3 hkey3 hm9 hall9 hinn9 hrow9 hblk9 hin8 hm8 hown8 hgrow8 hnil8 hblk8 k1 k2 l1 c1 i13 i14 i15
    go_wp2_with fail
    go_ret
    exact ⟨rfl, ⟨_, hend.1, fun b hb => hfoot b (hend.2 b hb)⟩, hmF, fun v hv => by
      rw [show w.cell? ⟨bm, 2, none⟩ = some L.hv from by simp [World.cell?, hL.st]] at hv
      rw [← hv]
      simp [World.cell?, hend.1.st]⟩
  | none =>
    have hl6 : ∀ n, (Instr.lookup 88 (.map (some L.inn)) (.agg #[.int .u64 oc.parent.c, .int .u64 oc.parent.k]) false).run Tryz.prog (W5.drewN n) = .ok (.map none) (W5.drewN n) :=
      fun n => look_inn3 (w := W5.drewN n) hinn5 hib
    have hbe := eqMap_none
    go_quiet (fail)
    go_wp2_with fail
    obtain ⟨W6, hW6⟩ : ∃ W6, W5.drewN nq = W6 := ⟨_, rfl⟩
    have hm6 : Mods (fun b => b = L.all) W W6 := by rw [← hW6]; exact hm5.trans (Mods.of_below (below_drewN (Below.refl _ _) nq))
    have hst6 := (show (W5.drewN nq).heap[bm]? = W5.heap[bm]? from rfl).trans hst5
    have hw6' : OpBox W6 w.heap.size oc := by rw [← hW6]; exact hw5
    have hall6 : MapK idV W6 L.all (put (M.ops.map fun o => (o.id, opV o)) oc.id (opV oc)) := by rw [← hW6]; exact hall
    have hinn6 : MapK idV W6 L.inn (L.PL.map fun p => (p.1, .map (some p.2))) := by rw [← hW6]; exact hinn5
    have hrow6 : OwnAt 0 35 22 encOp W6 (rowOf L M oc.parent oc.key) (opsAt M.ops oc.parent oc.key) := by rw [← hW6]; exact hrow5
    rw [hW6] at hst6 ⊢
    clear hW6 hm5 hst5 hw5 hinn5 hrow5 hl6 c1 i14 i15 hall hbe hs5
    clear W5
    -- region 7
    have c1 : ∀ s : MStep (fun _ => False) W6, s.val.cell? ⟨bm, 1, none⟩ = some (.map (some L.inn)) := MStep.cell (Array.getElem?_eq_some_iff.1 hst6).1 id (by simp [World.cell?, hst6])
    have i14 : ∀ s : MStep (fun _ => False) W6, s.val.cell? ⟨w.heap.size, 14, none⟩ = some (.int .u64 oc.parent.c) := MStep.cell hw6'.lt id (hw6'.cells 14 _ rfl)
    have i15 : ∀ s : MStep (fun _ => False) W6, s.val.cell? ⟨w.heap.size, 15, none⟩ = some (.int .u64 oc.parent.k) := MStep.cell hw6'.lt id (hw6'.cells 15 _ rfl)
    have hinnA : MapK idV ((W6.alloc (.map #[] 0)).drew) L.inn (L.PL.map fun p => (p.1, .map (some p.2))) := hinn6.blk (by show (W6.alloc (.map #[] 0)).heap[L.inn]? = _; rw [alloc_heap_if, if_neg (Nat.ne_of_lt hinn6.lt)])
    obtain ⟨ob2, hput2, hinn7⟩ := put_inn_run hinnA oc.parent (.map (some W6.heap.size))
    rw [put_inn_eq hib] at hinn7
    have hmm := @run_makeMap Tryz.prog
    refine wp_region_flow 7 [0, 1, 2, 3, 4, 5] [6, 7] (fun w' => ∃ s : MStep (fun _ => False) W6, w' = s.val) (by kernel_rfl) (by kernel_rfl) (fun _ _ d _ _ h => by cases d <;> exact h) (MStep.to (Mods.refl _ _).drew) ?_
    simp only [List.map_cons, List.map_nil, List.getElem?_cons_succ, List.getElem?_cons_zero, Option.getD_some]
    repeat (first | go_big_quiet_skip | (go_big_quiet_want; first | (fail; go_frame; go_big_quiet_on) | (go_big_quiet_op; go_big_quiet_on)))
    refine wpQuiet_nil ?_
    refine wpSeqF_step rfl ?_; simp only [List.getElem_toArray, List.getElem_cons_succ, List.getElem_cons_zero]
    go_wp2
    refine ⟨MStep.to (((Mods.refl _ W6).alloc (.map #[] 0)).drew), ?_⟩
    refine wpSeqF_step rfl ?_; simp only [List.getElem_toArray, List.getElem_cons_succ, List.getElem_cons_zero]
    go_wp2
    refine wpSeqF_nil ?_
    have hm7' : Mods (fun b => b = L.all ∨ b = L.inn ∨ b = W6.heap.size ∨ (rowOf L M oc.parent oc.key).ownBlock = some b) W (putMap ((W6.alloc (.map #[] 0)).drew) L.inn ob2) :=
      Mods.putMap (((hm6.mono fun k h => .inl h).alloc _).drew) (.inl (.inr (.inl rfl))) ob2
    have hA : ∀ k, k < W6.heap.size → k ≠ L.inn → (putMap ((W6.alloc (.map #[] 0)).drew) L.inn ob2).heap[k]? = W6.heap[k]? := fun k h1 h2 => by
      rw [putMap_other h2]
      show (W6.alloc (.map #[] 0)).heap[k]? = _
      rw [alloc_heap_if, if_neg (by omega)]
    have hst7 := (hA bm (Array.getElem?_eq_some_iff.1 hst6).1 (hinn6.ne hst6).symm).trans hst6
    have hw7' : OpBox (putMap ((W6.alloc (.map #[] 0)).drew) L.inn ob2) w.heap.size oc := (hA _ hw6'.lt (hinn6.ne hw6').symm).trans hw6'
    have hall7' := hall6.blk (hA _ hall6.lt hai)
    have hrow7' : OwnAt 0 35 22 encOp (putMap ((W6.alloc (.map #[] 0)).drew) L.inn ob2) (rowOf L M oc.parent oc.key) (opsAt M.ops oc.parent oc.key) :=
      ownsRow_blk hrow6 fun b hb => hA b (ownsRow_lt hrow6 b hb) (hinn6.ne_own hrow6 hb).symm
    have hin7' : MapK Value.string (putMap ((W6.alloc (.map #[] 0)).drew) L.inn ob2) W6.heap.size ((keysAt M.ops oc.parent).map fun k => (k, L.row oc.parent k)) := by
      rw [keysAt_none hL4 hib]
      refine MapK.empty ?_
      rw [putMap_other (Nat.ne_of_gt hinn6.lt)]
      show (W6.alloc (.map #[] 0)).heap[W6.heap.size]? = _
      rw [alloc_heap_if, if_pos rfl]
    have hszr : W.heap.size ≤ W6.heap.size := hm6.size
    have har' : L.all ≠ W6.heap.size := by have := hL4.all.lt; omega
    have hir' : L.inn ≠ W6.heap.size := by have := hL4.inn.lt; omega
    have hPL' : PLOk W L oc.parent W6.heap.size (L.PL ++ [(oc.parent, W6.heap.size)]) := .inr ⟨rfl, hszr, hib⟩
    have hfind' := innBlk_snoc (r := W6.heap.size) hib
    obtain ⟨r, hrq⟩ : ∃ r, W6.heap.size = r := ⟨_, rfl⟩
    obtain ⟨W7, hW7⟩ : ∃ W7, putMap ((W6.alloc (.map #[] 0)).drew) L.inn ob2 = W7 := ⟨_, rfl⟩
    rw [hrq, hW7] at hin7' hm7'
    rw [hrq] at har' hir' hPL' hfind'
    rw [hrq, hW7] at hinn7
    rw [hW7] at hst7 hw7' hall7' hrow7' ⊢
    have hin7 := hin7'
    have hm7 := hm7'
    have har := har'
    have hir := hir'
    have hPL := hPL'
    have hfind := hfind'
    have hw7 := hw7'
    have hall7 := hall7'
    have hrow7 := hrow7'
    clear hput2 hA hinnA hmm c1 i14 i15 hst6 hw6' hall6 hinn6 hrow6 hm6 hszr hin7' hm7' har' hir' hPL' hfind' hw7' hall7' hrow7'
    try rw [hrq]
    clear hrq hW7
    skip
    go_wp2_with fail
    have hd1 : ∀ b, (rowOf L M oc.parent oc.key).ownBlock = some b → b < W.heap.size ∧ b ≠ bm ∧ b ≠ w.heap.size ∧ b ≠ L.inn ∧ b ≠ r ∧ b ≠ L.all := fun b hb =>
      ⟨ownsRow_lt (rowOf_own hL4 oc.parent oc.key) b hb, fun e => ownsRow_ne hrow7 hst7 (by decide) (by rw [hb, e]), fun e => ?hd1a, (hinn7.ne_own hrow7 hb).symm, (hin7.ne_own hrow7 hb).symm, (hall7.ne_own hrow7 hb).symm⟩
    case hd1a =>
      have h1 := ownsRow_lt (rowOf_own hL oc.parent oc.key) b hb
      omega
    have c1 : ∀ s : MStep (fun b => (rowOf L M oc.parent oc.key).ownBlock = some b) W7, s.val.cell? ⟨bm, 1, none⟩ = some (.map (some L.inn)) := MStep.cell (Array.getElem?_eq_some_iff.1 hst7).1 (fun h => (hd1 _ h).2.1 rfl) (by simp [World.cell?, hst7])
    have i14 : ∀ s : MStep (fun b => (rowOf L M oc.parent oc.key).ownBlock = some b) W7, s.val.cell? ⟨w.heap.size, 14, none⟩ = some (.int .u64 oc.parent.c) := MStep.cell hw7.lt (fun h => (hd1 _ h).2.2.1 rfl) (hw7.cells 14 _ rfl)
    have i15 : ∀ s : MStep (fun b => (rowOf L M oc.parent oc.key).ownBlock = some b) W7, s.val.cell? ⟨w.heap.size, 15, none⟩ = some (.int .u64 oc.parent.k) := MStep.cell hw7.lt (fun h => (hd1 _ h).2.2.1 rfl) (hw7.cells 15 _ rfl)
    have i13 : ∀ s : MStep (fun b => (rowOf L M oc.parent oc.key).ownBlock = some b) W7, s.val.cell? ⟨w.heap.size, 13, none⟩ = some (.string oc.key) := MStep.cell hw7.lt (fun h => (hd1 _ h).2.2.1 rfl) (hw7.cells 13 _ rfl)
    have k1 : ∀ s : MStep (fun b => (rowOf L M oc.parent oc.key).ownBlock = some b) W7, (Instr.lookup 88 (.map (some L.inn)) (.agg #[.int .u64 oc.parent.c, .int .u64 oc.parent.k]) false).run Tryz.prog s.val = .ok (.map (some r)) s.val :=
      fun s => look_inn3 (hinn7.blk (s.h.block _ hinn7.lt (fun h => (hd1 _ h).2.2.2.1 rfl))) hfind
    have k2 : ∀ s : MStep (fun b => (rowOf L M oc.parent oc.key).ownBlock = some b) W7, (Instr.lookup 206 (.map (some r)) (.string oc.key) false).run Tryz.prog s.val = .ok (rowOf L M oc.parent oc.key) s.val :=
      fun s => look_key2 (hin7.blk (s.h.block _ hin7.lt (fun h => (hd1 _ h).2.2.2.2.1 rfl))) oc.key
    have l1 : ∀ w', (∃ s : MStep (fun b => (rowOf L M oc.parent oc.key).ownBlock = some b) W7, w' = s.val) → (loadVar 35 ⟨w.heap.size, 0, none⟩).run Tryz.prog w' = .ok (.agg #[.int .u64 oc.id.c, .int .u64 oc.id.k, .int .i64 oc.kind, .int .u64 oc.stamp, .int .u64 oc.left.c, .int .u64 oc.left.k, .int .u64 oc.right.c, .int .u64 oc.right.k, .string oc.text, .int .i64 oc.v.kind, .int .i64 oc.v.n, .float .f64 oc.v.f, .string oc.v.s, .string oc.key, .int .u64 oc.parent.c, .int .u64 oc.parent.k, .int .u64 oc.frm.c, .int .u64 oc.frm.k, .bool oc.frmA, .int .u64 oc.til.c, .int .u64 oc.til.k, .bool oc.tilA]) w' := by
      rintro _ ⟨s, rfl⟩
      exact OpBox.load ((s.h.block _ hw7.lt (fun h => (hd1 _ h).2.2.1 rfl)).trans hw7)
    refine wp_region_flow 22 [0, 1, 2, 3, 4, 5, 6, 7, 8, 9, 10, 11, 12, 13, 14, 15, 16, 17, 18, 19] [20, 21, 22] (fun w' => ∃ s : MStep (fun b => (rowOf L M oc.parent oc.key).ownBlock = some b) W7, w' = s.val) (by kernel_rfl) (by kernel_rfl) (fun _ _ d _ _ h => by cases d <;> exact h) (MStep.to (Mods.refl _ _).drew) ?_
    simp only [List.map_cons, List.map_nil, List.getElem?_cons_succ, List.getElem?_cons_zero, Option.getD_some]
    repeat (first | go_big_quiet_skip | (go_big_quiet_want; first | (refine quiet_load 35 _ _ rfl rfl l1 ?_; go_frame; go_big_quiet_on) | (go_big_quiet_op; go_big_quiet_on)))
    refine wpQuiet_nil ?_
    refine wpSeqF_step rfl ?_; simp only [List.getElem_toArray, List.getElem_cons_succ, List.getElem_cons_zero]
    go_wp2
    refine ⟨MStep.to (((Mods.refl _ W7).alloc (.cells #[.int .u64 oc.id.c, .int .u64 oc.id.k, .int .i64 oc.kind, .int .u64 oc.stamp, .int .u64 oc.left.c, .int .u64 oc.left.k, .int .u64 oc.right.c, .int .u64 oc.right.k, .string oc.text, .int .i64 oc.v.kind, .int .i64 oc.v.n, .float .f64 oc.v.f, .string oc.v.s, .string oc.key, .int .u64 oc.parent.c, .int .u64 oc.parent.k, .int .u64 oc.frm.c, .int .u64 oc.frm.k, .bool oc.frmA, .int .u64 oc.til.c, .int .u64 oc.til.k, .bool oc.tilA] 35)).drew), ?_⟩
    refine wpSeqF_step rfl ?_; simp only [List.getElem_toArray, List.getElem_cons_succ, List.getElem_cons_zero]
    obtain ⟨ix, hix, hz0, hz1, hz2⟩ := info_parts infoOp
    have hopl : (opsAt M.ops oc.parent oc.key).length ≤ 100000 := Nat.le_trans (List.length_filter_le _ _) hlen
    refine wpList_append_own_at _ rfl _ _ 39 (by rfl) 0 35 ix (opV opZero) 22 200 Tryz.underlying39 hix hz0 hz1 hz2 (by rfl) (by decide) _ _ _ (by rfl) (show World.ownsRow ((W7.alloc _).drew) _ _ _ _ _ _ from hrow7.alloc _) ⟨W7.heap.size, 0, none⟩ 1 1 (encOp oc) (by rfl) (by rfl) ?tc1 ?tc2 ?tc3 ?tc4 (Nat.zero_le _) ?_
    case tc1 => exact fun j u hu => by rw [Addr.add_lit]; exact (show OpBox ((W7.alloc (.cells #[.int .u64 oc.id.c, .int .u64 oc.id.k, .int .i64 oc.kind, .int .u64 oc.stamp, .int .u64 oc.left.c, .int .u64 oc.left.k, .int .u64 oc.right.c, .int .u64 oc.right.k, .string oc.text, .int .i64 oc.v.kind, .int .i64 oc.v.n, .float .f64 oc.v.f, .string oc.v.s, .string oc.key, .int .u64 oc.parent.c, .int .u64 oc.parent.k, .int .u64 oc.frm.c, .int .u64 oc.frm.k, .bool oc.frmA, .int .u64 oc.til.c, .int .u64 oc.til.k, .bool oc.tilA] 35)).drew) W7.heap.size oc from OpBox.new W7 oc).cells j u hu
    case tc2 => intro u hu; simp [encOp] at hu; rcases hu with h | h | h | h | h | h | h | h | h | h | h | h | h | h | h | h | h | h | h | h | h | h <;> (subst h; rfl)
    case tc3 => unfold maxLen; omega
    case tc4 => omega
    intro v' w8 hown8 hgrow8 hnil8 hblk8
    go_frame
    have hm8 : Mods (fun b => (rowOf L M oc.parent oc.key).ownBlock = some b) W7 w8 := ((Mods.refl _ W7).alloc _).drew.grown hgrow8 (fun b hb => .inl hb)
    refine ⟨fun _ => MStep.to hm8, ?_⟩
    have hin8 : MapK Value.string w8 r ((keysAt M.ops oc.parent).map fun k => (k, L.row oc.parent k)) := hin7.blk (hm8.block _ hin7.lt (fun h => (hd1 _ h).2.2.2.2.1 rfl))
    obtain ⟨ob3, hput3, hkey3⟩ := put_key_run hin8 oc.key v'
    refine wpSeqF_step rfl ?_; simp only [List.getElem_toArray, List.getElem_cons_succ, List.getElem_cons_zero]
    go_wp2
    refine wpSeqF_nil ?_
    have hm9 : Mods (fun b => b = L.all ∨ b = L.inn ∨ b = r ∨ (rowOf L M oc.parent oc.key).ownBlock = some b) W (putMap w8 r ob3) :=
      (hm7.trans (hm8.mono fun k h => .inr (.inr (.inr h)))).putMap (.inl (.inr (.inr (.inl rfl)))) ob3
    have hall9 : MapK idV (putMap w8 r ob3) L.all (put (M.ops.map fun o => (o.id, opV o)) oc.id (opV oc)) :=
      hall7.blk ((putMap_other har).trans (hm8.block _ hall7.lt (fun h => (hd1 _ h).2.2.2.2.2 rfl)))
    have hinn9 := hinn7.blk ((putMap_other (o := ob3) hir).trans (hm8.block _ hinn7.lt (fun h => (hd1 _ h).2.2.2.1 rfl)))
    have hrow9 : OwnAt 0 35 22 encOp (putMap w8 r ob3) v' (opsAt M.ops oc.parent oc.key ++ [oc]) := by
      have h1 : OwnAt 0 35 22 encOp w8 v' (opsAt M.ops oc.parent oc.key ++ [oc]) := by
        unfold OwnAt
        rw [List.length_append, List.flatMap_append]
        simpa using hown8
      exact ownsRow_blk h1 fun b hb => putMap_other (hin8.ne_own h1 hb).symm
    have hblk9 : v'.ownBlock = (rowOf L M oc.parent oc.key).ownBlock ∨ ∃ b, v'.ownBlock = some b ∧ W.heap.size ≤ b := by
      rcases hblk8 with h | h
      · exact .inl h
      · exact .inr ⟨_, h, by have := hm7.size; simp; omega⟩
    have hend := MapsAt.set hL4 hhc hPL hm9 hall9 hinn9 hkey3 hrow9 hblk9
    have hmF : Mods F w (putMap w8 r ob3) := (Mods.of_below hB4).trans ⟨hm9.os, hm9.tape, hm9.output, hm9.size, fun k hk hs => hm9.block k hk (by
      rintro (h | h | h | h)
      · exact hs (hF _ (.inr (.inl h)))
      · exact hs (hF _ (.inr (.inr (.inl h))))
      · rcases hPL with ⟨_, hp⟩ | ⟨_, hp, _⟩
        · exact hs (hF _ (.inr (.inr (.inr (.inl (List.mem_map.2 ⟨_, hp, h.symm⟩))))))
        · omega
      · obtain ⟨hne, hb⟩ := rowOf_block h
        exact hs (hF _ (.inr (.inr (.inr (.inr (.inr ⟨_, _, hne, hb⟩)))))))⟩
    have hfoot : ∀ b, MFoot bm L M b ∨ W.heap.size ≤ b → F b ∨ w.heap.size ≤ b := by
      rintro b (h | h)
      · exact .inl (hF b h)
      · exact .inr (Nat.le_trans hB4.size h)
    rw [hMr] at hend
    clear hMr
    obtain ⟨w9, hw9⟩ : ∃ w9, putMap w8 r ob3 = w9 := ⟨_, rfl⟩
    rw [hw9] at hend hmF ⊢
    clear hput3 hkey3 hm9 hall9 hinn9 hrow9 hblk9 hin8 hm8 hown8 hgrow8 hnil8 hblk8 k1 k2 l1 c1 i13 i14 i15
    go_wp2_with fail
    go_ret
    exact ⟨rfl, ⟨_, hend.1, fun b hb => hfoot b (hend.2 b hb)⟩, hmF, fun v hv => by
      rw [show w.cell? ⟨bm, 2, none⟩ = some L.hv from by simp [World.cell?, hL.st]] at hv
      rw [← hv]
      simp [World.cell?, hend.1.st]⟩
end Go.Proofs.YthhbiliimdpgmaaGreatDoor
