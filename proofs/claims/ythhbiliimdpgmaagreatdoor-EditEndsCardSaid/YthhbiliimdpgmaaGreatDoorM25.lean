/- Walk: a unit's place where the places are stale: they are laid anew. -/
import Derived.Test.YthhbiliimdpgmaaGreatDoorM23
import Derived.Test.YthhbiliimdpgmaaGreatDoorM24
namespace Go.Proofs.YthhbiliimdpgmaaGreatDoor
open Go.RowKit Go.Shelf Go.Lib
attribute [local go_sem] Oper.semAt_some

theorem cell_notMap {κ : Type} {enc : κ → Value} {W : World} {r : Nat} {l : List (κ × Value)} (h : MapK enc W r l) {a : Addr} {v : Value} (hc : W.cell? a = some v) : a.block ≠ r := by
  intro e
  obtain ⟨es, cl, h1, _⟩ := h
  unfold World.cell? at hc
  rw [e, h1] at hc
  simp at hc
theorem cellKeep {κ : Type} {enc : κ → Value} {W W' : World} {r : Nat} {l : List (κ × Value)} (h : MapK enc W r l) (hm : Mods (fun b => b = r) W W') {a : Addr} {v : Value} (hc : W.cell? a = some v) : W'.cell? a = some v := by
  have hlt : a.block < W.heap.size := by
    unfold World.cell? at hc
    cases ho : W.heap[a.block]? with
    | none => simp [ho] at hc
    | some o => exact (Array.getElem?_eq_some_iff.1 ho).1
  exact (World.cell?_of_block (w := W) (hm.block _ hlt (cell_notMap h hc))).trans hc
theorem AllA.keepM {κ : Type} {enc : κ → Value} {n r : Nat} {sv : Value} {bs : List Nat} {us : List QUnit} {W W' : World} {l : List (κ × Value)} (h : AllA n sv bs us W) (hk : MapK enc W r l) (hm : Mods (fun b => b = r) W W') : AllA n sv bs us W' where
  c := cellKeep hk hm h.c
  row := by
    rcases h.row with ⟨e1, e2⟩ | ⟨b, off, cap, e1, h1, h2, h3⟩
    · exact .inl ⟨e1, e2⟩
    · exact .inr ⟨b, off, cap, e1, h1, Nat.lt_of_lt_of_le h2 hm.size, fun j x hj i y hy => cellKeep hk hm (h3 j x hj i y hy)⟩
  len := h.len
  nodes := fun k b u h1 h2 i y hy => cellKeep hk hm (h.nodes k b u h1 h2 i y hy)
/-- the places of units, laid one after the other. -/
def stampU (l : List (Nat × QUnit)) (om : List (QId × Value)) : List (QId × Value) := l.foldl (fun m p => put m p.2.id (.int .i64 p.1)) om
theorem stampU_snoc (l : List (Nat × QUnit)) (x : Nat × QUnit) (om : List (QId × Value)) : stampU (l ++ [x]) om = put (stampU l om) x.2.id (.int .i64 x.1) := by simp [stampU]
theorem seqAllF (sv : Value) (w : World) (hd : sv.oneCell' = true) : Calls Tryz.prog 133 #[sv] w fun e w' => e = .returned (.func (.func 171) #[] #[.pointer (some ⟨w.heap.size, 0, none⟩)]) ∧ w' = w.alloc (.cells #[sv] 60) := by
  go_enter Tryz.func133, Tryz.ntmps133
  go_wp2
  go_ret
  exact ⟨rfl, rfl⟩
def FindR (n : Nat) (x : QId) (am om : List (QId × Value)) (ord root : Value) (us : List QUnit) (w : World) (e : Ending) (w' : World) : Prop :=
  e = .returned ((look (stampU (ixs us us.length) om) x).getD (.int .i64 0)) ∧ SeqM n w' am (stampU (ixs us us.length) om) ord root true ∧ Mods (fun b => b = n + 5 ∨ b = n + 6) w w'
set_option maxRecDepth 100000 in
set_option maxHeartbeats 2000000 in
theorem find_stale (n nb : Nat) (x : QId) (am om : List (QId × Value)) (ord root : Value) (bs : List Nat) (us : List QUnit) (w : World) (hs : SeqM n w am om ord root false) (ha : AllA n ord bs us w) (hl : look am x = some (ptrV nb)) :
    Calls Tryz.prog 95 #[.pointer (some ⟨n + 6, 0, none⟩), .agg #[.int .u64 x.c, .int .u64 x.k]] w (FindR n x am om ord root us w) := by
  have hsl := hs.lt
  have hall := fun W => (callsIn_wide (n := 11)).2 (seqAllF (.pointer (some ⟨n + 6, 0, none⟩)) W rfl)
  have hfn : Fence.wide.fn 133 := trivial
  have hne : ∀ w, (binOp BinOp.eql 202 (.pointer (some ⟨nb, 0, none⟩)) (.pointer none)).run Tryz.prog w = .ok (.bool false) w := fun w => by kernel_rfl
  refine (callsIn_wide (n := 12)).1 (callsIn_of_wp_marks Tryz.func95 rfl trivial ?_ rfl)
  simp only [Tryz.ntmps95, List.size_toArray, List.length_cons, List.length_nil, Nat.reduceAdd, Nat.reduceSub, Array.replicate_succ, Array.replicate_zero, List.push_toArray, List.append_toArray, List.nil_append, List.cons_append]
  gi_wp2
  have hB : Below w.heap.size w ((w.alloc (.cells #[.pointer (some ⟨n + 6, 0, none⟩)] 60)).alloc (.cells #[.int .u64 x.c, .int .u64 x.k] 28)) := by (repeat (first | exact Below.refl _ _ | assumption | refine Below.alloc ?_ (by simp <;> omega) _ | refine Below.drew ?_ | refine below_drewN ?_ _ | refine Below.setCell ?_ (by simp <;> omega) _ | refine belowTrans ?_ (by assumption)))
  have hp : ((w.alloc (.cells #[.pointer (some ⟨n + 6, 0, none⟩)] 60)).alloc (.cells #[.int .u64 x.c, .int .u64 x.k] 28)).cell? ⟨w.heap.size, 0, none⟩ = some (.pointer (some ⟨n + 6, 0, none⟩)) := (cellTwo w _ _ _ _ 0).1
  have hx0 : ((w.alloc (.cells #[.pointer (some ⟨n + 6, 0, none⟩)] 60)).alloc (.cells #[.int .u64 x.c, .int .u64 x.k] 28)).cell? ⟨w.heap.size + 1, 0, none⟩ = some (.int .u64 x.c) := (cellTwo w _ _ _ _ 0).2
  have hx1 : ((w.alloc (.cells #[.pointer (some ⟨n + 6, 0, none⟩)] 60)).alloc (.cells #[.int .u64 x.c, .int .u64 x.k] 28)).cell? ⟨w.heap.size + 1, 1, none⟩ = some (.int .u64 x.k) := (cellTwo w _ _ _ _ 1).2
  have hul : w.heap.size + 1 < ((w.alloc (.cells #[.pointer (some ⟨n + 6, 0, none⟩)] 60)).alloc (.cells #[.int .u64 x.c, .int .u64 x.k] 28)).heap.size := by simp
  generalize (w.alloc (.cells #[.pointer (some ⟨n + 6, 0, none⟩)] 60)).alloc (.cells #[.int .u64 x.c, .int .u64 x.k] 28) = W at hB hp hx0 hx1 hul ⊢
  have hs2 := hs.keep fun b g => hB.block b (by omega)
  have p0 : ∀ s : BStep W, s.val.cell? ⟨w.heap.size, 0, none⟩ = some (.pointer (some ⟨n + 6, 0, none⟩)) := BStep.cell (by show w.heap.size < _; omega) hp
  have x0 : ∀ s : BStep W, s.val.cell? ⟨w.heap.size + 1, 0, none⟩ = some (.int .u64 x.c) := BStep.cell hul hx0
  have x1 : ∀ s : BStep W, s.val.cell? ⟨w.heap.size + 1, 1, none⟩ = some (.int .u64 x.k) := BStep.cell hul hx1
  have a0 : ∀ s : BStep W, s.val.cell? ⟨n + 6, 0, none⟩ = some (.map (some (n + 4))) := BStep.cell hs2.lt (hs2.cell 0 _ rfl)
  have lk : ∀ s : BStep W, (Instr.lookup 83 (.map (some (n + 4))) (.agg #[.int .u64 x.c, .int .u64 x.k]) false).run Tryz.prog s.val = .ok (.pointer (some ⟨nb, 0, none⟩)) s.val := fun s => by
    have := seqLook (bstepSeq hs2 s) x
    rwa [hl] at this
  refine wpIn_wide.2 ?_
  refine wp_region_b (by kernel_rfl) (by kernel_rfl) ?_
  repeat (first | go_big_quiet_skip | (go_big_quiet_want; go_big_quiet_op; first | go_big_quiet_on | go_big_quiet_call (fail)))
  refine wpQuiet_nil ?_
  intro W' hC'
  have hBW' := BStep.of hC'
  have hB2 := hB.trans (hBW'.mono hB.size)
  have hp2 := (hBW'.cell (p := ⟨w.heap.size, 0, none⟩) (by show w.heap.size < _; omega)).trans hp
  have hx02 := (hBW'.cell (p := ⟨w.heap.size + 1, 0, none⟩) hul).trans hx0
  have hx12 := (hBW'.cell (p := ⟨w.heap.size + 1, 1, none⟩) hul).trans hx1
  have hul2 := Nat.lt_of_lt_of_le hul hBW'.size
  clear p0 x0 x1 a0 lk hC' hs2 hB hp hx0 hx1 hul hBW'
  clear W
  have hs2 := hs.keep fun b g => hB2.block b (by omega)
  have c4 : W'.cell? ⟨n + 6, 4, none⟩ = some (.bool false) := hs2.cell 4 _ rfl
  unfold Exit.then
  dsimp only
  gi_step
  gi_step
  gi_step
  gi_wp2_with (gi_at_call 133; refine (hall _).mono ?_; rintro e w' ⟨rfl, rfl⟩)
  have hz1 := hB2.size
  have hB3 : Below w.heap.size w (W'.alloc (.cells #[.pointer (some ⟨n + 6, 0, none⟩)] 60)) := hB2.alloc hB2.size _
  have hb1 : Below W'.heap.size W' (W'.alloc (.cells #[.pointer (some ⟨n + 6, 0, none⟩)] 60)) := (Below.refl _ _).alloc (Nat.le_refl _) _
  have hq3 : (W'.alloc (.cells #[.pointer (some ⟨n + 6, 0, none⟩)] 60)).cell? ⟨W'.heap.size, 0, none⟩ = some (ptrV (n + 6)) := by unfold ptrV; go_simp
  have hp3 := (hb1.cell (p := ⟨w.heap.size, 0, none⟩) (by show w.heap.size < _; omega)).trans hp2
  have hx03 := (hb1.cell (p := ⟨w.heap.size + 1, 0, none⟩) hul2).trans hx02
  have hx13 := (hb1.cell (p := ⟨w.heap.size + 1, 1, none⟩) hul2).trans hx12
  have hz3 : (W'.alloc (.cells #[.pointer (some ⟨n + 6, 0, none⟩)] 60)).heap.size = W'.heap.size + 1 := by simp
  generalize W'.alloc (.cells #[.pointer (some ⟨n + 6, 0, none⟩)] 60) = W3 at hB3 hq3 hp3 hx03 hx13 hz3 ⊢
  have hs3 : SeqM n W3 am om ord root false := hs.keep fun b g => hB3.block b (by omega)
  have ha3 : AllA n ord bs us W3 := ⟨(hB3.cell (p := ⟨n + 6, 1, none⟩) hsl).trans ha.c, ha.row.below hB3, ha.len, fun k b u h1 h2 i y hy => by
    have h3 := ha.nodes k b u h1 h2 i y hy
    have hlt : b < w.heap.size := by
      unfold World.cell? at h3
      cases ho : w.heap[b]? with
      | none => simp [ho] at h3
      | some o => exact (Array.getElem?_eq_some_iff.1 ho).1
    exact (hB3.cell (p := ⟨b, i, none⟩) hlt).trans h3⟩
  clear hb1 hs2 c4 hB2 hp2 hx02 hx12 hall ha
  generalize W'.heap.size = Y at hz1 hq3 hz3 hul2 ⊢
  clear W'
  refine wpIn_range_all (α := Nat × QUnit) (gf := 171) (lb := #[.pointer (some ⟨Y, 0, none⟩)]) (encs := encIU) (S := fun xs => xs = ixs us us.length) (N := us.length) rfl (by omega) rfl trivial (enters_of Tryz.func171 (by kernel_rfl) rfl) (fun _ => rfl)
    (fun pre W => Mods (fun b => b = n + 5) W3 W ∧ MapK idV W (n + 5) (stampU pre om)) (fun b => b = n + 5) ?hIp ?h0 ?hround ?hseq ?hdone
  case hIp =>
    rintro pre W r r' ⟨h1, h2⟩ hr
    exact ⟨⟨h1.os, h1.tape, h1.output, by simpa [World.putObj] using h1.size, fun k hk hs => (World.putObj_heap_other (by omega)).trans (h1.block k hk hs)⟩, h2.blk (World.putObj_heap_other (by omega))⟩
  case h0 =>
    intro r
    exact ⟨((Mods.refl _ _).alloc _).alloc _, hs3.at_.blk ((Below.heap_alloc _ _ _ (by simp; omega)).trans (Below.heap_alloc _ _ _ (by omega)))⟩
  case hseq =>
    rintro rec hy W ⟨h1, h2⟩ hb
    refine all1_any n Y 11 (W3.heap.size + 1) (by omega) ord bs us (Book W3.heap.size rec) (fun pre W => Mods (fun b => b = n + 5) W3 W ∧ MapK idV W (n + 5) (stampU pre om)) ?_ ?_ W ⟨h1, h2⟩ hb
    · rintro pre W ⟨h1, h2⟩
      exact ⟨ha3.keepM hs3.at_ h1, cellKeep hs3.at_ h1 hq3⟩
    · rintro pre x W ⟨h1, h2⟩ hbk hl
      exact (yieldDepth (hy pre x W ⟨h1, h2⟩ hbk hl)).mono fun e W' ⟨e1, e2, e3, _⟩ => ⟨e1, e2, e3⟩
  case hdone =>
    rintro xs W rfl ⟨h1, h2⟩ hdf
    have hz4 := h1.size
    have hz5 := (Array.getElem?_eq_some_iff.1 hdf).1
    have y2 : W.cell? ⟨w.heap.size, 0, none⟩ = some (.pointer (some ⟨n + 6, 0, none⟩)) := (World.cell?_of_block (w := W3) (h1.block w.heap.size (by omega) (by omega))).trans hp3
    have hs4 : SeqM n W am (stampU (ixs us us.length) om) ord root false := ⟨hs3.all.blk (h1.block _ (by omega) (by omega)), h2, (h1.block _ hs3.lt (by omega)).trans hs3.sq⟩
    have hx04 : W.cell? ⟨w.heap.size + 1, 0, none⟩ = some (.int .u64 x.c) := (World.cell?_of_block (w := W3) (h1.block (w.heap.size + 1) (by omega) (by omega))).trans hx03
    have hx14 : W.cell? ⟨w.heap.size + 1, 1, none⟩ = some (.int .u64 x.k) := (World.cell?_of_block (w := W3) (h1.block (w.heap.size + 1) (by omega) (by omega))).trans hx13
    have f4 := hs4.frz 4
    have c4 : W.cell? ⟨n + 6, 4, none⟩ = some (.bool false) := hs4.cell 4 _ rfl
    gi_wp2
    have hM5 : Mods (fun b => b = n + 5 ∨ b = n + 6) W3 (W.setCell ⟨n + 6, 4, none⟩ (.bool true)) := (h1.mono fun b g => .inl g).setC (.inl (.inr rfl)) _
    have hs5 := hs4.setFresh true
    have hdf2 : (W.setCell ⟨n + 6, 4, none⟩ (.bool true)).heap[W3.heap.size]? = some (.deferred (some [])) := (Below.heap_setCell _ _ _ _ (by show ¬ W3.heap.size = n + 6; omega)).trans hdf
    have hsz5 : (W.setCell ⟨n + 6, 4, none⟩ (.bool true)).heap.size = W.heap.size := by simp
    have y3 : (W.setCell ⟨n + 6, 4, none⟩ (.bool true)).cell? ⟨w.heap.size, 0, none⟩ = some (.pointer (some ⟨n + 6, 0, none⟩)) := (World.cell?_of_block (w := W) (Below.heap_setCell _ _ _ _ (by show ¬ w.heap.size = n + 6; omega))).trans y2
    have hx05 : (W.setCell ⟨n + 6, 4, none⟩ (.bool true)).cell? ⟨w.heap.size + 1, 0, none⟩ = some (.int .u64 x.c) := (World.cell?_of_block (w := W) (Below.heap_setCell _ _ _ _ (by show ¬ w.heap.size + 1 = n + 6; omega))).trans hx04
    have hx15 : (W.setCell ⟨n + 6, 4, none⟩ (.bool true)).cell? ⟨w.heap.size + 1, 1, none⟩ = some (.int .u64 x.k) := (World.cell?_of_block (w := W) (Below.heap_setCell _ _ _ _ (by show ¬ w.heap.size + 1 = n + 6; omega))).trans hx14
    generalize W.setCell ⟨n + 6, 4, none⟩ (.bool true) = W5 at hM5 hs5 hdf2 hsz5 y3 hx05 hx15 ⊢
    have s0 : ∀ s : BStep W5, s.val.cell? ⟨w.heap.size, 0, none⟩ = some (.pointer (some ⟨n + 6, 0, none⟩)) := BStep.cell (by show w.heap.size < _; omega) y3
    have s1 : ∀ s : BStep W5, s.val.cell? ⟨n + 6, 3, none⟩ = some (.map (some (n + 5))) := BStep.cell hs5.lt (hs5.cell 3 _ rfl)
    have s2 : ∀ s : BStep W5, s.val.cell? ⟨w.heap.size + 1, 0, none⟩ = some (.int .u64 x.c) := BStep.cell (by show w.heap.size + 1 < _; omega) hx05
    have s3 : ∀ s : BStep W5, s.val.cell? ⟨w.heap.size + 1, 1, none⟩ = some (.int .u64 x.k) := BStep.cell (by show w.heap.size + 1 < _; omega) hx15
    have lk : ∀ s : BStep W5, (Instr.lookup 84 (.map (some (n + 5))) (.agg #[.int .u64 x.c, .int .u64 x.k]) false).run Tryz.prog s.val = .ok ((look (stampU (ixs us us.length) om) x).getD (.int .i64 0)) s.val := fun s => seqLookAt (bstepSeq hs5 s) x
    have hlt5 : W3.heap.size < W5.heap.size := by omega
    obtain ⟨res, hres⟩ : ∃ res, (look (stampU (ixs us us.length) om) x).getD (.int .i64 0) = res := ⟨_, rfl⟩
    rw [hres] at lk
    have HR := Lib.hid hres
    clear hres
    clear f4 c4 hx04 hx14 y2 hdf h2 hs4 hsz5 h1 hz4 hz5
    clear W
    refine wpIn_wide.2 ?_
    refine wp_region_b (by kernel_rfl) (by kernel_rfl) ?_
    repeat (first | go_big_quiet_skip | (go_big_quiet_want; go_big_quiet_op; first | go_big_quiet_on | go_big_quiet_call (fail)))
    refine wpQuiet_nil ?_
    intro W' hC'
    have hBW' := BStep.of hC'
    unfold Exit.then
    dsimp only
    try gi_step
    try gi_step
    try gi_step
    gi_wp2
    have hdf3 := (hBW'.block _ hlt5).trans hdf2
    have hM6 : Mods (fun b => b = n + 5 ∨ b = n + 6) w W' := ((Mods.of_below hB3).trans hM5).trans (Mods.of_below hBW')
    have hs6 := hs5.keep fun b g => hBW'.block b (by have := hs5.lt; omega)
    refine ⟨by simp, .inl ⟨_, _, rfl, run_takeDeferred hdf3, ⟨_, results_tmp rfl _ _ _, ?_, ?_, ?_⟩⟩⟩
    · show Ending.returned res = _
      rw [HR.out]
    · exact hs6.keep fun b g => World.putObj_heap_other (by omega)
    · exact ⟨hM6.os, hM6.tape, hM6.output, by simpa [World.putObj] using hM6.size, fun k hk hs => (World.putObj_heap_other (by omega)).trans (hM6.block k hk hs)⟩
  case hround =>
    rintro pre ⟨i, u⟩ W r ⟨h1, h2⟩ hbk hl
    unfold encIU unitV encUnit
    gi_wp2
    have hBl := (Array.getElem?_eq_some_iff.1 hbk.1).1
    have hs5 := h1.size
    have hb1 : Below W.heap.size W (W.alloc (.cells #[.int .u64 u.id.c, .int .u64 u.id.k, .int .u64 u.left.c, .int .u64 u.left.k, .int .u64 u.right.c, .int .u64 u.right.k] 157)) := (Below.refl _ _).alloc (Nat.le_refl _) _
    have u0 : (W.alloc (.cells #[.int .u64 u.id.c, .int .u64 u.id.k, .int .u64 u.left.c, .int .u64 u.left.k, .int .u64 u.right.c, .int .u64 u.right.k] 157)).cell? ⟨W.heap.size, 0, none⟩ = some (.int .u64 u.id.c) := by go_simp
    have u1 : (W.alloc (.cells #[.int .u64 u.id.c, .int .u64 u.id.k, .int .u64 u.left.c, .int .u64 u.left.k, .int .u64 u.right.c, .int .u64 u.right.k] 157)).cell? ⟨W.heap.size, 1, none⟩ = some (.int .u64 u.id.k) := by go_simp
    have hz4 : (W.alloc (.cells #[.int .u64 u.id.c, .int .u64 u.id.k, .int .u64 u.left.c, .int .u64 u.left.k, .int .u64 u.right.c, .int .u64 u.right.k] 157)).heap.size = W.heap.size + 1 := by simp
    generalize W.alloc (.cells #[.int .u64 u.id.c, .int .u64 u.id.k, .int .u64 u.left.c, .int .u64 u.left.k, .int .u64 u.right.c, .int .u64 u.right.k] 157) = W4 at hb1 u0 u1 hz4 ⊢
    refine ⟨hbk.keep fun k hk => hb1.block k (by omega), Mods.of_below hb1, fun r' => ?_⟩
    have hk2 : Book W3.heap.size r' (W4.putObj (W3.heap.size + 1) (.loop r')) := (hbk.keep fun k hk => hb1.block k (by omega)).put r'
    have hM5 : Mods (fun b => b = n + 5) W3 (W4.putObj (W3.heap.size + 1) (.loop r')) := by
      have h3 := h1.trans (Mods.of_below hb1)
      exact ⟨h3.os, h3.tape, h3.output, by simpa [World.putObj] using h3.size, fun k hk hs => (World.putObj_heap_other (by omega)).trans (h3.block k hk hs)⟩
    have hmap5 : MapK idV (W4.putObj (W3.heap.size + 1) (.loop r')) (n + 5) (stampU pre om) := h2.blk ((World.putObj_heap_other (by omega)).trans (hb1.block _ (by omega)))
    have v0 : (W4.putObj (W3.heap.size + 1) (.loop r')).cell? ⟨W.heap.size, 0, none⟩ = some (.int .u64 u.id.c) := (World.cell?_of_block (w := W4) (World.putObj_heap_other (by show W.heap.size ≠ _; omega))).trans u0
    have v1 : (W4.putObj (W3.heap.size + 1) (.loop r')).cell? ⟨W.heap.size, 1, none⟩ = some (.int .u64 u.id.k) := (World.cell?_of_block (w := W4) (World.putObj_heap_other (by show W.heap.size ≠ _; omega))).trans u1
    have hz5 : (W4.putObj (W3.heap.size + 1) (.loop r')).heap.size = W.heap.size + 1 := by simpa [World.putObj] using hz4
    clear u0 u1 hz4 hb1 hbk h1 h2
    generalize W4.putObj (W3.heap.size + 1) (.loop r') = W5 at hk2 hM5 hmap5 v0 v1 hz5 ⊢
    clear W4
    have hs6 := hM5.size
    have y2 : W5.cell? ⟨w.heap.size, 0, none⟩ = some (.pointer (some ⟨n + 6, 0, none⟩)) := (World.cell?_of_block (w := W3) (hM5.block w.heap.size (by omega) (by omega))).trans hp3
    have y3 : W5.cell? ⟨n + 6, 3, none⟩ = some (.map (some (n + 5))) := (World.cell?_of_block (w := W3) (hM5.block (n + 6) hs3.lt (by omega))).trans (hs3.cell 3 _ rfl)
    have s0 : ∀ s : MStep (fun _ => False) W5, s.val.cell? ⟨w.heap.size, 0, none⟩ = some (.pointer (some ⟨n + 6, 0, none⟩)) := MStep.cell (by show w.heap.size < _; omega) id y2
    have s1 : ∀ s : MStep (fun _ => False) W5, s.val.cell? ⟨n + 6, 3, none⟩ = some (.map (some (n + 5))) := MStep.cell (by show n + 6 < _; omega) id y3
    have s2 : ∀ s : MStep (fun _ => False) W5, s.val.cell? ⟨W.heap.size, 0, none⟩ = some (.int .u64 u.id.c) := MStep.cell (by show W.heap.size < _; omega) id v0
    have s3 : ∀ s : MStep (fun _ => False) W5, s.val.cell? ⟨W.heap.size, 1, none⟩ = some (.int .u64 u.id.k) := MStep.cell (by show W.heap.size < _; omega) id v1
    obtain ⟨ob, hput, hkey⟩ := run_put idKey (T := 84) (E := 3) (by kernel_rfl) (hmap5.blk (w' := W5.drew) rfl) u.id (.int .i64 i)
    unfold idV at hput
    generalize W.heap.size = X at *
    gi_wp2
    refine wpIn_round_flow3 7 [0, 1, 2, 3, 4, 5, 6] [7] (fun w' => ∃ s : MStep (fun _ => False) W5, w' = s.val) (by kernel_rfl) (by kernel_rfl) (by kernel_rfl) (fun ⟨_, _, h⟩ => by have h2 : Exit.outgrown = Exit.normal := And.left h; cases h2) (fun _ _ d _ _ h => by cases d <;> exact h) (MStep.to (Mods.refl _ _).drew) ?_
    simp only [List.map_cons, List.map_nil, List.getElem?_cons_succ, List.getElem?_cons_zero, Option.getD_some]
    repeat (first | go_big_quiet_skip | (go_big_quiet_want; first | (fail; go_frame; go_big_quiet_on) | (go_big_quiet_op; go_big_quiet_on)))
    refine wpQuiet_nil ?_
    refine wpSeqF_step rfl ?_; simp only [List.getElem_toArray, List.getElem_cons_succ, List.getElem_cons_zero]
    go_wp2
    refine wpSeqF_nil ?_
    have hmm : ∀ k, k ≠ n + 5 → (putMap W5.drew (n + 5) ob).heap[k]? = W5.heap[k]? := fun k hk => putMap_other (w := W5.drew) hk
    have hms : (putMap W5.drew (n + 5) ob).heap.size = W5.heap.size := putMap_size _ _ _
    gi_wp2
    rw [hz3] at hk2
    exact ⟨hk2.keep fun k hk => hmm k (by omega), ⟨rfl, rfl, rfl, Nat.le_of_eq hms.symm, fun k hk hs => hmm k (fun e => hs (.inl e))⟩, ⟨hM5.os, hM5.tape, hM5.output, by rw [hms]; exact hM5.size, fun k hk hs => (hmm k hs).trans (hM5.block k hk hs)⟩, by rw [stampU_snoc]; exact hkey⟩
end Go.Proofs.YthhbiliimdpgmaaGreatDoor
