/- Walk: learn of an operation in a document that knows nothing; what 'does' does is a premise. -/
import Derived.Test.YthhbiliimdpgmaaGreatDoorM35
import Derived.Test.YthhbiliimdpgmaaGreatDoorM36
import Derived.Test.YthhbiliimdpgmaaGreatDoorM18
import Derived.Test.YthhbiliimdpgmaaGreatDoorM08
namespace Go.Proofs.YthhbiliimdpgmaaGreatDoor
open Go.RowKit Go.Lib

def LearnR (n : Nat) (o : QOp) (N : Nat) (wl : List (QId × Value)) (hv : Value) (D : Nat → Prop) (Q : World → Prop) (w : World) (e : Ending) (w' : World) : Prop :=
  e = .returned (.tuple #[]) ∧ DocC n w' [(o.id.c, .int .u64 N)] wl hv noS o.stamp ∧ Q w' ∧ Mods (fun b => b = n ∨ b = n + 1 ∨ b = n + 2 ∨ b = n + 11 ∨ D b) w w'
set_option maxRecDepth 100000 in
set_option maxHeartbeats 4000000 in
theorem learn_new (n N : Nat) (o : QOp) (wl : List (QId × Value)) (hv : Value) (D : Nat → Prop) (P Q : World → Prop) (w : World) (hd : DocC n w [] wl hv noS 0) (hs : StoreZ n w) (ho : HoldO o N) (hT : Tabs w) (hF : TabFree fun b => n ≤ b)
    (hck : ∀ w, Tabs w → Calls Tryz.prog 30 #[opV o] w fun e w' => e = .returned (.int .i64 0) ∧ Below w.heap.size w w') (hst : 0 ≤ o.stamp) (hP0 : P w)
    (hP : ∀ w w', Mods (fun b => b = n ∨ b = n + 1 ∨ b = n + 2 ∨ b = n + 11) w w' → n + 11 < w.heap.size → P w → P w')
    (hdoes : ∀ w, DocC n w [(o.id.c, .int .u64 N)] wl hv noS o.stamp → P w → Tabs w → Calls Tryz.prog 72 #[.pointer (some ⟨n + 11, 0, none⟩), opV o] w fun e w' => e = .returned (.bool true) ∧ DocC n w' [(o.id.c, .int .u64 N)] wl hv noS o.stamp ∧ Q w' ∧ Mods D w w') :
    Calls Tryz.prog 36 #[.pointer (some ⟨n + 11, 0, none⟩), opV o] w (LearnR n o N wl hv D Q w) := by
  have hlt := hd.lt
  have HO := Lib.hid ho
  have hrng := ho.range
  rw [ho.rng] at hrng
  have HK := Lib.hid ho.k
  have hin : ∀ w, StoreZ n w → StoreIn w (fun b => b = n ∨ b = n + 1) (n + 1) [] [] [] := fun w h => ⟨sLay0 n, h, fun b hf => by
    rcases hf with e | e | ⟨p, hp, _⟩ | e | e
    · exact .inr e
    · exact .inl e
    · cases hp
    · cases e
    · cases e⟩
  have hadd := fun w h hT => add_one (fun b => b = n ∨ b = n + 1) (n + 1) [] [] [] o.id.c o w (hin w h) (fun p hp => by cases hp) hT (by cases hi : o.id with | mk c k => rw [hi] at HK; have := HK.out; dsimp only at this ⊢; rw [this]) hck rfl
  clear ho hin
  unfold opV
  go_enter Tryz.func36, Tryz.ntmps36
  go_upto_region 1 with fail
  obtain ⟨W, hW⟩ : ∃ W, w.alloc (.cells (encOp o).toArray 35) = W := ⟨_, rfl⟩
  have hB : Below w.heap.size w W := by rw [← hW]; exact (Below.refl _ _).alloc (Nat.le_refl _) _
  have hbx : OpBox W w.heap.size o := by rw [← hW]; exact OpBox.new _ _
  change Code.wp _ _ _ _ (w.alloc (.cells (encOp o).toArray 35))
  rw [hW]
  clear hW
  have hd1 := hd.keep fun b g => hB.block b (by omega)
  have hs1 := hs.keep fun b g => hB.block b (by omega)
  have hdl := hd1.lt
  have hbl := hbx.lt
  have d0 : ∀ s : MStep (fun _ => False) W, s.val.cell? ⟨n + 11, 0, none⟩ = some (.pointer (some ⟨n + 1, 0, none⟩)) := MStep.cell hdl id (hd1.cell 0 _ rfl)
  have l1 : ∀ w', (∃ s : MStep (fun _ => False) W, w' = s.val) → (loadVar 35 ⟨w.heap.size, 0, none⟩).run Tryz.prog w' = .ok (opV o) w' := by
    rintro _ ⟨s, rfl⟩
    exact OpBox.load ((s.h.block _ hbl id).trans hbx)
  refine wp_region_flow3 5 [0, 1, 2, 3, 4] [5] (fun w' => ∃ s : MStep (fun _ => False) W, w' = s.val) (by kernel_rfl) (by kernel_rfl) (fun _ _ d _ _ h => by cases d <;> exact h) (MStep.to (Mods.refl _ _).drew) ?_
  simp only [List.map_cons, List.map_nil, List.getElem?_cons_succ, List.getElem?_cons_zero, Option.getD_some]
  repeat (first | go_big_quiet_skip | (go_big_quiet_want; first | ((refine quiet_load 35 _ _ rfl rfl l1 ?_); go_frame; go_big_quiet_on) | (go_big_quiet_op; go_big_quiet_on)))
  refine wpQuiet_nil ?_
  refine wpSeqF_step rfl ?_; simp only [List.getElem_toArray, List.getElem_cons_succ, List.getElem_cons_zero]
  have ha := hadd W.drew (hs1.keep fun b g => rfl) (hT.below (belowTrans hB (Below.refl _ _).drew))
  go_wp2_with (go_at_call 71; refine ha.mono ?_; rintro e w2 ⟨xv, rfl, hm2⟩)
  refine wpSeqF_nil ?_
  have hFM : TabFree fun b => b = n ∨ b = n + 1 ∨ b = n + 2 ∨ b = n + 11 := ⟨fun g => hF.1 (by omega), fun g => hF.2 (by omega)⟩
  have hM2 : Mods (fun b => b = n ∨ b = n + 1 ∨ b = n + 2 ∨ b = n + 11) w w2 := ((Mods.of_below hB).drew.trans (hm2.mono fun b g => by omega))
  have hd2 : DocC n w2 [] wl hv noS 0 := hd1.keep fun b g => hm2.block b (by show b < W.heap.size; omega) (by omega)
  have hbx2 : OpBox w2 w.heap.size o := (hm2.block _ hbl (by omega)).trans hbx
  clear ha d0 l1 hd1 hs1 hdl hbl hbx hm2 hB hadd
  clear W
  have hT2 := hT.mods hM2 hFM
  have hr2 := hrng w2 hT2
  go_upto_region 3 with (first | (refine wpList_load_eq (T := 35) (v := opV o) rfl rfl rfl hbx2.load ?_) | (go_at_call 31; refine hr2.mono ?_; rintro e w3 ⟨rfl, hb3⟩))
  have hr4 : RngBox (w3.alloc (.cells #[.int .u64 o.id.c, .int .u64 1, .int .u64 (1 + N)] 95)) w3.heap.size ⟨o.id.c, 1, 1 + N⟩ := RngBox.new w3 ⟨o.id.c, 1, 1 + N⟩
  have hB4 : Below w2.heap.size w2 (w3.alloc (.cells #[.int .u64 o.id.c, .int .u64 1, .int .u64 (1 + N)] 95)) := hb3.alloc hb3.size _
  have hX : w2.heap.size ≤ w3.heap.size := hb3.size
  generalize w3.heap.size = X at hr4 hX ⊢
  generalize w3.alloc (.cells #[.int .u64 o.id.c, .int .u64 1, .int .u64 (1 + N)] 95) = W4 at hr4 hB4 ⊢
  have hd4 := hd2.keep fun b g => hB4.block b (by have := hd2.lt; omega)
  have hbx4 := hbx2.below hB4 hbx2.lt
  have hM4 := hM2.trans (Mods.of_below hB4)
  clear hr2 hb3 hX hd2 hbx2 hM2 hT2 hB4
  have hdl := hd4.lt
  have hxl := hr4.lt
  have d1 : ∀ s : MStep (fun _ => False) W4, s.val.cell? ⟨n + 11, 1, none⟩ = some (.map (some (n + 2))) := MStep.cell hdl id (hd4.cell 1 _ rfl)
  have r0 : ∀ s : MStep (fun _ => False) W4, s.val.cell? ⟨X, 0, none⟩ = some (.int .u64 o.id.c) := MStep.cell hxl id hr4.cells.1
  have r2 : ∀ s : MStep (fun _ => False) W4, s.val.cell? ⟨X, 2, none⟩ = some (.int .u64 (1 + N)) := MStep.cell hxl id hr4.cells.2.2
  have hN2 := HO.out.n2
  have eN : (1 : Int) + N - 1 = N := by omega
  refine wp_region_flow3 9 [0, 1, 2, 3, 4, 5, 6, 7, 8] [9] (fun w' => ∃ s : MStep (fun _ => False) W4, w' = s.val) (by kernel_rfl) (by kernel_rfl) (fun _ _ d _ _ h => by cases d <;> exact h) (MStep.to (Mods.refl _ _).drew) ?_
  simp only [List.map_cons, List.map_nil, List.getElem?_cons_succ, List.getElem?_cons_zero, Option.getD_some]
  repeat (first | go_big_quiet_skip | (go_big_quiet_want; first | (fail; go_frame; go_big_quiet_on) | (go_big_quiet_op; go_big_quiet_on)))
  refine wpQuiet_nil ?_
  obtain ⟨ob, hput, hkey⟩ := run_put u64Key (T := 58) (E := 26) (by kernel_rfl) (hd4.kn.blk (w' := W4.drew) rfl) o.id.c (.int .u64 N)
  unfold u64V at hput
  refine wpSeqF_step rfl ?_; simp only [List.getElem_toArray, List.getElem_cons_succ, List.getElem_cons_zero]
  go_wp2
  refine wpSeqF_nil ?_
  have hd5 : DocC n (putMap W4.drew (n + 2) ob) [(o.id.c, .int .u64 N)] wl hv noS 0 := {
    kn := hkey
    wt := (hd4.wt.blk (w' := W4.drew) rfl).blk (putMap_other (by omega))
    dc := (putMap_other (by omega)).trans hd4.dc }
  have hbx5 : OpBox (putMap W4.drew (n + 2) ob) w.heap.size o := (putMap_other (by omega)).trans hbx4
  have hM5 : Mods (fun b => b = n ∨ b = n + 1 ∨ b = n + 2 ∨ b = n + 11) w (putMap W4.drew (n + 2) ob) := by
    have h1 := hM4.drew
    exact ⟨h1.os, h1.tape, h1.output, by rw [putMap_size]; exact h1.size, fun k hk hs => (putMap_other (by omega)).trans (h1.block k hk hs)⟩
  generalize putMap W4.drew (n + 2) ob = W5 at hd5 hbx5 hM5 ⊢
  clear hput hkey d1 r0 r2 hd4 hbx4 hM4 hdl hxl hr4 eN
  clear W4
  have hdl := hd5.lt
  have hbl := hbx5.lt
  have d11 : ∀ s : MStep (fun _ => False) W5, s.val.cell? ⟨n + 11, 11, none⟩ = some (.int .u64 0) := MStep.cell hdl id (hd5.cell 11 _ rfl)
  have b3 : ∀ s : MStep (fun _ => False) W5, s.val.cell? ⟨w.heap.size, 3, none⟩ = some (.int .u64 o.stamp) := MStep.cell hbl id (hbx5.cells 3 _ rfl)
  have mx : max (0 : Int) o.stamp = o.stamp := by omega
  have c11 : W5.cell? ⟨n + 11, 11, none⟩ = some (.int .u64 0) := hd5.cell 11 _ rfl
  have f11 := hd5.frz 11
  go_upto_region 4 with fail
  refine wp_region_flow3 8 [0, 1, 2, 3, 4, 5, 6] [7, 8, 9, 10] (fun w' => ∃ s : MStep (fun _ => False) W5, w' = s.val) (by kernel_rfl) (by kernel_rfl) (fun _ _ d _ _ h => by cases d <;> exact h) (MStep.to (Mods.refl _ _).drew) ?_
  simp only [List.map_cons, List.map_nil, List.getElem?_cons_succ, List.getElem?_cons_zero, Option.getD_some]
  repeat (first | go_big_quiet_skip | (go_big_quiet_want; first | (fail; go_frame; go_big_quiet_on) | (go_big_quiet_op; go_big_quiet_on)))
  refine wpQuiet_nil ?_
  refine wpSeqF_step rfl ?_; simp only [List.getElem_toArray, List.getElem_cons_succ, List.getElem_cons_zero]
  go_wp2
  refine ⟨MStep.to (Mods.refl _ W5).drew, ?_⟩
  refine wpSeqF_step rfl ?_; simp only [List.getElem_toArray, List.getElem_cons_succ, List.getElem_cons_zero]
  go_wp2
  refine wpSeqF_step rfl ?_; simp only [List.getElem_toArray, List.getElem_cons_succ, List.getElem_cons_zero]
  go_wp2
  refine wpSeqF_step rfl ?_; simp only [List.getElem_toArray, List.getElem_cons_succ, List.getElem_cons_zero]
  go_wp2
  refine wpSeqF_nil ?_
  have hd6 : DocC n (W5.setCell ⟨n + 11, 11, none⟩ (.int .u64 o.stamp)).drew [(o.id.c, .int .u64 N)] wl hv noS o.stamp := {
    kn := hd5.kn.blk (Below.heap_setCell _ _ _ _ (by show ¬ n + 2 = n + 11; omega))
    wt := hd5.wt.blk (Below.heap_setCell _ _ _ _ (by show ¬ n + 3 = n + 11; omega))
    dc := by
      show (W5.setCell ⟨n + 11, 11, none⟩ (.int .u64 o.stamp)).heap[n + 11]? = _
      simp [World.setCell, Array.getElem?_modify, hd5.dc] }
  have hbx6 : OpBox (W5.setCell ⟨n + 11, 11, none⟩ (.int .u64 o.stamp)).drew w.heap.size o := OpBox.drew ((Below.heap_setCell _ _ _ _ (by show ¬ w.heap.size = n + 11; omega)).trans hbx5)
  have hM6 := (hM5.setCell (p := ⟨n + 11, 11, none⟩) (.inr (.inr (.inr rfl))) (.int .u64 o.stamp)).drew
  generalize (W5.setCell ⟨n + 11, 11, none⟩ (.int .u64 o.stamp)).drew = W6 at hd6 hbx6 hM6 ⊢
  clear d11 b3 mx c11 f11 hd5 hbx5 hM5 hdl hbl
  clear W5
  have hT6 := hT.mods hM6 hFM
  have hdo := hdoes W6 hd6 (hP w W6 hM6 hlt hP0) hT6
  go_wp2_with (first | (refine wpList_load_eq (T := 35) (v := opV o) rfl rfl rfl hbx6.load ?_) | (go_at_call 72; refine hdo.mono ?_; rintro e w7 ⟨rfl, hd7, hQ7, hm7⟩))
  go_end0
  exact ⟨rfl, hd7, hQ7, (hM6.mono fun b g => by omega).trans (hm7.mono fun b g => .inr (.inr (.inr (.inr g))))⟩
end Go.Proofs.YthhbiliimdpgmaaGreatDoor
/- Walks: edit.fail ends with a panic. -/
namespace Go.Proofs.YthhbiliimdpgmaaGreatDoor
open Go.RowKit Go.Lib

/-- what a failing edit throws. -/
def brk (x : Int) : Value := .iface 76 (.agg #[.int .i64 x])
theorem fail_any (x : Int) (w : World) : Calls Tryz.prog 40 #[.int .i64 x] w fun e w' => e = .panicked [{ v := brk x, recovered := false }] ∧ w = w' := by
  go_enter Tryz.func40, Tryz.ntmps40
  go_wp2
  exact ⟨rfl, rfl, rfl⟩
theorem make1_idle (p q : Addr) (w : World) :
    CallsD Tryz.prog 25 #[.pointer (some p), .pointer (some q)] .returning w fun e u' w' => e = .returned (.tuple #[]) ∧ u' = .returning ∧ w' = w := by
  refine callsD_of_wpS Tryz.func25 rfl fun c₀ cs hu => ?_
  apply wpS_seq
  apply wpS_region
  simp [wpOpsS, go_sem, recoverD, hu, Tryz.ntmps25, Exit.thenS]
  refine wpS_of_wp ?_
  go_wp2
  cases c₀
  simp_all [bodyPostS, results, Tryz.results25]
def updBox (W : World) (b : Nat) : Prop := W.heap[b]? = some (.cells #[.slice none 0 0, .slice none 0 0] 42 (0, 0))
def errBox (x : Int) (W : World) (b : Nat) : Prop := W.heap[b]? = some (.cells #[.int .i64 x] 36 (0, 0))
set_option maxRecDepth 100000 in
theorem make1_panic (x : Int) (ub eb : Nat) (w : World) (hu : updBox w ub) (he : errBox 0 w eb) (hne : ub ≠ eb) :
    CallsD Tryz.prog 25 #[.pointer (some ⟨ub, 0, none⟩), .pointer (some ⟨eb, 0, none⟩)] (.panicking [{ v := brk x, recovered := false }]) w fun e u' w' => e = .returned (.tuple #[]) ∧ u' = .panicking [{ v := brk x, recovered := true }] ∧ updBox w' ub ∧ errBox x w' eb ∧ Mods (fun b => b = ub ∨ b = eb) w w' := by
  have HU := Lib.hid hu
  have HE := Lib.hid he
  clear hu he
  refine callsD_of_wpS Tryz.func25 rfl fun c₀ cs hu => ?_
  apply wpS_seq
  apply wpS_region
  simp [wpOpsS, go_sem, recoverD, hu, Tryz.ntmps25, Exit.thenS]
  refine wpS_of_wp ?_
  unfold brk
  have hta : ∀ (T : TypeId) w, (Instr.typeAssert (.iface 76 (.agg #[.int .i64 x])) T 76 true).run Tryz.prog w = .ok (.tuple #[.agg #[.int .i64 x], .bool true]) w := fun T w => by kernel_rfl
  simp only [List.size_toArray, List.length_cons, List.length_nil, Nat.reduceAdd, Nat.reduceSub, Array.replicate_succ, Array.replicate_zero, List.push_toArray, List.append_toArray, List.nil_append, List.cons_append, List.setIfInBounds_toArray, List.set_cons_succ, List.set_cons_zero]
  go_wp2
  have hul : ub < w.heap.size := (Array.getElem?_eq_some_iff.1 HU.out).1
  have hel : eb < w.heap.size := (Array.getElem?_eq_some_iff.1 HE.out).1
  have hB : Below w.heap.size w (w.alloc (.cells #[.int .i64 x] 76)) := by (repeat (first | exact Below.refl _ _ | assumption | refine Below.alloc ?_ (by simp <;> omega) _ | refine Below.drew ?_ | refine below_drewN ?_ _ | refine Below.setCell ?_ (by simp <;> omega) _ | refine belowTrans ?_ (by assumption)))
  have hX : (w.alloc (.cells #[.int .i64 x] 76)).cell? ⟨w.heap.size, 0, none⟩ = some (.int .i64 x) := by go_simp
  have hXl : w.heap.size < (w.alloc (.cells #[.int .i64 x] 76)).heap.size := by simp
  have hu1 : updBox (w.alloc (.cells #[.int .i64 x] 76)) ub := (hB.block ub hul).trans HU.out
  have he1 : errBox 0 (w.alloc (.cells #[.int .i64 x] 76)) eb := (hB.block eb hel).trans HE.out
  generalize w.alloc (.cells #[.int .i64 x] 76) = W at hB hX hXl hu1 he1 ⊢
  have x0 : ∀ s : MStep (fun b => b = ub) W, s.val.cell? ⟨w.heap.size, 0, none⟩ = some (.int .i64 x) := MStep.cell hXl (by show ¬ w.heap.size = ub; omega) hX
  refine wp_region_flow3 4 [0, 1, 2] [3, 4] (fun w' => ∃ s : MStep (fun b => b = ub) W, w' = s.val) (by kernel_rfl) (by kernel_rfl) (fun _ _ d _ _ h => by cases d <;> exact h) (MStep.to (Mods.refl _ _).drew) ?_
  simp only [List.map_cons, List.map_nil, List.getElem?_cons_succ, List.getElem?_cons_zero, Option.getD_some]
  repeat (first | go_big_quiet_skip | (go_big_quiet_want; first | (fail; go_frame; go_big_quiet_on) | (go_big_quiet_op; go_big_quiet_on)))
  refine wpQuiet_nil ?_
  have u0 : W.cell? ⟨ub, 0, none⟩ = some (.slice none 0 0) := by unfold updBox at hu1; simp [World.cell?, hu1]
  have u1 : W.cell? ⟨ub, 1, none⟩ = some (.slice none 0 0) := by unfold updBox at hu1; simp [World.cell?, hu1]
  have uf : W.frozen? ⟨ub, 0, none⟩ = false := by unfold updBox at hu1; simp [World.frozen?, hu1]
  have uf1 : W.frozen? ⟨ub, 1, none⟩ = false := by unfold updBox at hu1; simp [World.frozen?, hu1]
  refine wpSeqF_step rfl ?_; simp only [List.getElem_toArray, List.getElem_cons_succ, List.getElem_cons_zero]
  go_wp2
  have hM2 : Mods (fun b => b = ub) W (((W.setCell ⟨ub, 0, none⟩ (.slice none 0 0)).setCell ⟨ub, 1, none⟩ (.slice none 0 0)).drew) := (((Mods.refl (fun b => b = ub) W).setCell (p := ⟨ub, 0, none⟩) rfl _).setCell (p := ⟨ub, 1, none⟩) rfl _).drew
  refine ⟨MStep.to hM2, ?_⟩
  have hel1 : eb < W.heap.size := Nat.lt_of_lt_of_le hel hB.size
  have he2 := (hM2.block eb hel1 (by omega)).trans he1
  have hu2 : updBox (((W.setCell ⟨ub, 0, none⟩ (.slice none 0 0)).setCell ⟨ub, 1, none⟩ (.slice none 0 0)).drew) ub := by
    show ((W.setCell ⟨ub, 0, none⟩ (.slice none 0 0)).setCell ⟨ub, 1, none⟩ (.slice none 0 0)).heap[ub]? = _
    unfold updBox at hu1
    simp [World.setCell, Array.getElem?_modify, hu1]
  generalize ((W.setCell ⟨ub, 0, none⟩ (.slice none 0 0)).setCell ⟨ub, 1, none⟩ (.slice none 0 0)).drew = W2 at hM2 he2 hu2 ⊢
  have e0 : W2.cell? ⟨eb, 0, none⟩ = some (.int .i64 0) := by simp [World.cell?, he2]
  have ef : W2.frozen? ⟨eb, 0, none⟩ = false := by simp [World.frozen?, he2]
  have he3 : errBox x (W2.setCell ⟨eb, 0, none⟩ (.int .i64 x)) eb := by
    unfold errBox
    simp [World.setCell, Array.getElem?_modify, he2]
  have hu3 : updBox (W2.setCell ⟨eb, 0, none⟩ (.int .i64 x)) ub := (Below.heap_setCell _ _ _ _ (by show ¬ ub = eb; omega)).trans hu2
  have hM3 : Mods (fun b => b = ub ∨ b = eb) w (W2.setCell ⟨eb, 0, none⟩ (.int .i64 x)) := (((Mods.of_below hB).trans (hM2.mono fun b g => .inl g))).setCell (p := ⟨eb, 0, none⟩) (.inr rfl) _
  clear u0 u1 uf uf1 x0 hX hu1 he1 hu2 he2
  refine wpSeqF_step rfl ?_; simp only [List.getElem_toArray, List.getElem_cons_succ, List.getElem_cons_zero]
  go_wp2
  refine wpSeqF_nil ?_
  generalize W2.setCell ⟨eb, 0, none⟩ (.int .i64 x) = W3 at he3 hu3 hM3 ⊢
  go_wp2
  cases c₀
  simp_all [bodyPostS, results, Tryz.results25]
end Go.Proofs.YthhbiliimdpgmaaGreatDoor
/- Walks: edit.Make around made: what fails, what doesn't. -/
namespace Go.Proofs.YthhbiliimdpgmaaGreatDoor
open Go.RowKit Go.Lib

/-- an edit, as a value. -/
def edV (k at_ n : Int) (t : ByteArray) (v : QVal) (key : ByteArray) (path : Value) : Value := .agg #[.int .i64 k, .int .i64 at_, .int .i64 n, .string t, .int .i64 v.kind, .int .i64 v.n, .float .f64 v.f, .string v.s, .string key, path]
set_option maxRecDepth 100000 in
set_option maxHeartbeats 1000000 in
theorem make_fail (n : Nat) (c x k at_ m : Int) (t : ByteArray) (v : QVal) (key : ByteArray) (p : Option Addr) (a b : Nat) (w : World)
    (hm : ∀ w', Below w.heap.size w w' → Calls Tryz.prog 26 #[.pointer (some ⟨n + 11, 0, none⟩), .int .u64 c, edV k at_ m t v key (.slice p a b)] w' fun e w2 => e = .panicked [{ v := brk x, recovered := false }] ∧ Below w'.heap.size w' w2) :
    Calls Tryz.prog 9 #[.pointer (some ⟨n + 11, 0, none⟩), .int .u64 c, edV k at_ m t v key (.slice p a b)] w fun e w' => e = .returned (.tuple #[.agg #[.slice none 0 0, .slice none 0 0], .int .i64 x]) ∧ Below w.heap.size w w' := by
  have hmf : ∀ (fn : Fn) (first cap : Array Value) (w : World), (Instr.makeFunc fn first cap).run Tryz.prog w = .ok (.func fn first cap) w := fun _ _ _ _ => rfl
  unfold edV at hm ⊢
  go_enter_defers Tryz.func9, Tryz.ntmps9
  go_wp2_with (go_at_call 26; refine (hm _ (by (repeat (first | exact Below.refl _ _ | assumption | refine Below.alloc ?_ (by simp <;> omega) _ | refine Below.drew ?_ | refine below_drewN ?_ _ | refine Below.setCell ?_ (by simp <;> omega) _ | refine belowTrans ?_ (by assumption))))).mono ?_; rintro e w1 ⟨rfl, hb1⟩)
  have hB : Below w.heap.size w (((w.alloc (.cells #[.int .i64 k, .int .i64 at_, .int .i64 m, .string t, .int .i64 v.kind, .int .i64 v.n, .float .f64 v.f, .string v.s, .string key, .slice p a b] 48)).alloc (.cells #[.slice none 0 0, .slice none 0 0] 42)).alloc (.cells #[.int .i64 0] 36)) := by (repeat (first | exact Below.refl _ _ | assumption | refine Below.alloc ?_ (by simp <;> omega) _ | refine Below.drew ?_ | refine below_drewN ?_ _ | refine Below.setCell ?_ (by simp <;> omega) _ | refine belowTrans ?_ (by assumption)))
  have hu0 : updBox (((w.alloc (.cells #[.int .i64 k, .int .i64 at_, .int .i64 m, .string t, .int .i64 v.kind, .int .i64 v.n, .float .f64 v.f, .string v.s, .string key, .slice p a b] 48)).alloc (.cells #[.slice none 0 0, .slice none 0 0] 42)).alloc (.cells #[.int .i64 0] 36)) (w.heap.size + 1) := by
    unfold updBox; rw [alloc_heap_if, if_neg (by simp), alloc_heap_if, if_pos (by simp)]
  have he0 : errBox 0 (((w.alloc (.cells #[.int .i64 k, .int .i64 at_, .int .i64 m, .string t, .int .i64 v.kind, .int .i64 v.n, .float .f64 v.f, .string v.s, .string key, .slice p a b] 48)).alloc (.cells #[.slice none 0 0, .slice none 0 0] 42)).alloc (.cells #[.int .i64 0] 36)) (w.heap.size + 1 + 1) := by
    unfold errBox; rw [alloc_heap_if, if_pos (by simp)]
  have hz0 : (((w.alloc (.cells #[.int .i64 k, .int .i64 at_, .int .i64 m, .string t, .int .i64 v.kind, .int .i64 v.n, .float .f64 v.f, .string v.s, .string key, .slice p a b] 48)).alloc (.cells #[.slice none 0 0, .slice none 0 0] 42)).alloc (.cells #[.int .i64 0] 36)).heap.size = w.heap.size + 3 := by simp
  generalize ((w.alloc (.cells #[.int .i64 k, .int .i64 at_, .int .i64 m, .string t, .int .i64 v.kind, .int .i64 v.n, .float .f64 v.f, .string v.s, .string key, .slice p a b] 48)).alloc (.cells #[.slice none 0 0, .slice none 0 0] 42)).alloc (.cells #[.int .i64 0] 36) = W at hB hu0 he0 hz0 hb1
  have hu1 : updBox w1 (w.heap.size + 1) := (hb1.block _ (by omega)).trans hu0
  have he1 : errBox 0 w1 (w.heap.size + 1 + 1) := (hb1.block _ (by omega)).trans he0
  refine leaves_cons (f := 25) (args := #[.pointer (some ⟨w.heap.size + 1, 0, none⟩), .pointer (some ⟨w.heap.size + 1 + 1, 0, none⟩)]) (by simp) (by simp [go_sem]) ?_
  refine (make1_panic x (w.heap.size + 1) (w.heap.size + 1 + 1) _ hu1 he1 (by omega)).mono ?_
  rintro e u' w2 ⟨rfl, rfl, hu2, he2, hm2⟩
  have a0 : w2.cell? ⟨w.heap.size + 1, 0, none⟩ = some (.slice none 0 0) := by unfold updBox at hu2; simp [World.cell?, hu2]
  have a1 : w2.cell? ⟨w.heap.size + 1, 1, none⟩ = some (.slice none 0 0) := by unfold updBox at hu2; simp [World.cell?, hu2]
  have a2 : w2.cell? ⟨w.heap.size + 1 + 1, 0, none⟩ = some (.int .i64 x) := by unfold errBox at he2; simp [World.cell?, he2]
  have hB2 : Below w.heap.size w w2 := by
    have h1 := belowTrans hB hb1
    have h2 := h1.size
    exact ⟨hm2.os.trans h1.os, hm2.tape.trans h1.tape, hm2.output.trans h1.output, Nat.le_trans h2 hm2.size, fun j hj => (hm2.block j (by omega) (by omega)).trans (h1.block j hj)⟩
  simp [Leaves, settle, results, Tryz.results9, go_sem, a0, a1, a2]
  exact hB2
end Go.Proofs.YthhbiliimdpgmaaGreatDoor
/- Walks: edit.Make around made that makes an update. -/
namespace Go.Proofs.YthhbiliimdpgmaaGreatDoor
open Go.RowKit Go.Lib

set_option maxRecDepth 100000 in
set_option maxHeartbeats 1000000 in
theorem make_ok (w : World) (Q : World → Prop) (p1 p2 : Option Addr) (n1 c1 n2 c2 : Nat) (hQ : ∀ w1 w2, Mods (fun j => w.heap.size ≤ j ∧ j < w.heap.size + 3) w1 w2 → Q w1 → Q w2) (n : Nat) (c k at_ m : Int) (t : ByteArray) (v : QVal) (key : ByteArray) (p : Option Addr) (a b : Nat)
    (hm : ∀ w', Below w.heap.size w w' → Calls Tryz.prog 26 #[.pointer (some ⟨n + 11, 0, none⟩), .int .u64 c, edV k at_ m t v key (.slice p a b)] w' fun e w2 => e = .returned (.agg #[.slice p1 n1 c1, .slice p2 n2 c2]) ∧ Below w'.heap.size w' w2 ∧ Q w2) :
    Calls Tryz.prog 9 #[.pointer (some ⟨n + 11, 0, none⟩), .int .u64 c, edV k at_ m t v key (.slice p a b)] w fun e w' => e = .returned (.tuple #[.agg #[.slice p1 n1 c1, .slice p2 n2 c2], .int .i64 0]) ∧ Below w.heap.size w w' ∧ Q w' := by
  have hmf : ∀ (fn : Fn) (first cap : Array Value) (w : World), (Instr.makeFunc fn first cap).run Tryz.prog w = .ok (.func fn first cap) w := fun _ _ _ _ => rfl
  unfold edV at hm ⊢
  go_enter_defers Tryz.func9, Tryz.ntmps9
  have hB : Below w.heap.size w (((w.alloc (.cells #[.int .i64 k, .int .i64 at_, .int .i64 m, .string t, .int .i64 v.kind, .int .i64 v.n, .float .f64 v.f, .string v.s, .string key, .slice p a b] 48)).alloc (.cells #[.slice none 0 0, .slice none 0 0] 42)).alloc (.cells #[.int .i64 0] 36)) := by (repeat (first | exact Below.refl _ _ | assumption | refine Below.alloc ?_ (by simp <;> omega) _ | refine Below.drew ?_ | refine below_drewN ?_ _ | refine Below.setCell ?_ (by simp <;> omega) _ | refine belowTrans ?_ (by assumption)))
  have hu0 : updBox (((w.alloc (.cells #[.int .i64 k, .int .i64 at_, .int .i64 m, .string t, .int .i64 v.kind, .int .i64 v.n, .float .f64 v.f, .string v.s, .string key, .slice p a b] 48)).alloc (.cells #[.slice none 0 0, .slice none 0 0] 42)).alloc (.cells #[.int .i64 0] 36)) (w.heap.size + 1) := by
    unfold updBox; rw [alloc_heap_if, if_neg (by simp), alloc_heap_if, if_pos (by simp)]
  have he0 : errBox 0 (((w.alloc (.cells #[.int .i64 k, .int .i64 at_, .int .i64 m, .string t, .int .i64 v.kind, .int .i64 v.n, .float .f64 v.f, .string v.s, .string key, .slice p a b] 48)).alloc (.cells #[.slice none 0 0, .slice none 0 0] 42)).alloc (.cells #[.int .i64 0] 36)) (w.heap.size + 1 + 1) := by
    unfold errBox; rw [alloc_heap_if, if_pos (by simp)]
  have hz0 : (((w.alloc (.cells #[.int .i64 k, .int .i64 at_, .int .i64 m, .string t, .int .i64 v.kind, .int .i64 v.n, .float .f64 v.f, .string v.s, .string key, .slice p a b] 48)).alloc (.cells #[.slice none 0 0, .slice none 0 0] 42)).alloc (.cells #[.int .i64 0] 36)).heap.size = w.heap.size + 3 := by simp
  go_wp2_with (go_at_call 26; refine (hm _ hB).mono ?_; rintro e w1 ⟨rfl, hb1, hq1⟩; have hu1 := (hb1.block (w.heap.size + 1) (by omega)).trans hu0; have he1 := (hb1.block (w.heap.size + 1 + 1) (by omega)).trans he0; have u0 : w1.cell? ⟨w.heap.size + 1, 0, none⟩ = some (.slice none 0 0) := (by simp [World.cell?, hu1]); have u1 : w1.cell? ⟨w.heap.size + 1, 1, none⟩ = some (.slice none 0 0) := (by simp [World.cell?, hu1]); have uf : w1.frozen? ⟨w.heap.size + 1, 0, none⟩ = false := (by simp [World.frozen?, hu1]); have uf1 : w1.frozen? ⟨w.heap.size + 1, 1, none⟩ = false := (by simp [World.frozen?, hu1]); have e0 : w1.cell? ⟨w.heap.size + 1 + 1, 0, none⟩ = some (.int .i64 0) := (by simp [World.cell?, he1]); have ef : w1.frozen? ⟨w.heap.size + 1 + 1, 0, none⟩ = false := (by simp [World.frozen?, he1]))
  have hz1 := hb1.size
  have hB1 := belowTrans hB hb1
  have hM : Mods (fun j => w.heap.size ≤ j ∧ j < w.heap.size + 3) w1 (((w1.setCell ⟨w.heap.size + 1, 0, none⟩ (.slice p1 n1 c1)).setCell ⟨w.heap.size + 1, 1, none⟩ (.slice p2 n2 c2)).setCell ⟨w.heap.size + 1 + 1, 0, none⟩ (.int .i64 0)) :=
    (((Mods.refl (fun j => w.heap.size ≤ j ∧ j < w.heap.size + 3) w1).setCell (p := ⟨w.heap.size + 1, 0, none⟩) (show _ ∧ _ by constructor <;> (dsimp only; omega)) _).setCell (p := ⟨w.heap.size + 1, 1, none⟩) (show _ ∧ _ by constructor <;> (dsimp only; omega)) _).setCell (p := ⟨w.heap.size + 1 + 1, 0, none⟩) (show _ ∧ _ by constructor <;> (dsimp only; omega)) _
  have hq2 := hQ _ _ hM hq1
  have hB2 : Below w.heap.size w (((w1.setCell ⟨w.heap.size + 1, 0, none⟩ (.slice p1 n1 c1)).setCell ⟨w.heap.size + 1, 1, none⟩ (.slice p2 n2 c2)).setCell ⟨w.heap.size + 1 + 1, 0, none⟩ (.int .i64 0)) := ⟨hM.os.trans hB1.os, hM.tape.trans hB1.tape, hM.output.trans hB1.output, Nat.le_trans hB1.size hM.size, fun j hj => (hM.block j (Nat.lt_of_lt_of_le hj hB1.size) (by omega)).trans (hB1.block j hj)⟩
  have a0 : (((w1.setCell ⟨w.heap.size + 1, 0, none⟩ (.slice p1 n1 c1)).setCell ⟨w.heap.size + 1, 1, none⟩ (.slice p2 n2 c2)).setCell ⟨w.heap.size + 1 + 1, 0, none⟩ (.int .i64 0)).cell? ⟨w.heap.size + 1, 0, none⟩ = some (.slice p1 n1 c1) := by simp [World.cell?, World.setCell, Array.getElem?_modify, hu1]
  have a1 : (((w1.setCell ⟨w.heap.size + 1, 0, none⟩ (.slice p1 n1 c1)).setCell ⟨w.heap.size + 1, 1, none⟩ (.slice p2 n2 c2)).setCell ⟨w.heap.size + 1 + 1, 0, none⟩ (.int .i64 0)).cell? ⟨w.heap.size + 1, 1, none⟩ = some (.slice p2 n2 c2) := by simp [World.cell?, World.setCell, Array.getElem?_modify, hu1]
  have a2 : (((w1.setCell ⟨w.heap.size + 1, 0, none⟩ (.slice p1 n1 c1)).setCell ⟨w.heap.size + 1, 1, none⟩ (.slice p2 n2 c2)).setCell ⟨w.heap.size + 1 + 1, 0, none⟩ (.int .i64 0)).cell? ⟨w.heap.size + 1 + 1, 0, none⟩ = some (.int .i64 0) := by simp [World.cell?, World.setCell, Array.getElem?_modify, he1]
  generalize (((w1.setCell ⟨w.heap.size + 1, 0, none⟩ (.slice p1 n1 c1)).setCell ⟨w.heap.size + 1, 1, none⟩ (.slice p2 n2 c2)).setCell ⟨w.heap.size + 1 + 1, 0, none⟩ (.int .i64 0)) = W4 at hB2 hq2 a0 a1 a2 ⊢
  refine leaves_cons (f := 25) (args := #[.pointer (some ⟨w.heap.size + 1, 0, none⟩), .pointer (some ⟨w.heap.size + 1 + 1, 0, none⟩)]) (by simp) (by simp [go_sem]) ?_
  refine (make1_idle ⟨w.heap.size + 1, 0, none⟩ ⟨w.heap.size + 1 + 1, 0, none⟩ _).mono ?_
  rintro e u' w2 ⟨rfl, rfl, rfl⟩
  simp [Leaves, settle, results, Tryz.results9, go_sem, a0, a1, a2]
  exact ⟨hB2, hq2⟩
end Go.Proofs.YthhbiliimdpgmaaGreatDoor
/- Walk: edit.made refuses a client that is none. -/
namespace Go.Proofs.YthhbiliimdpgmaaGreatDoor
open Go.RowKit Go.Lib

set_option maxRecDepth 100000 in
set_option maxHeartbeats 1000000 in
theorem made_client (n : Nat) (c k at_ m : Int) (t : ByteArray) (v : QVal) (key : ByteArray) (p : Option Addr) (a b : Nat) (w : World) (hk1 : 1 ≤ k) (hk2 : k ≤ 5) (hc : c < 1 ∨ 9007199254740991 < c) :
    Calls Tryz.prog 26 #[.pointer (some ⟨n + 11, 0, none⟩), .int .u64 c, edV k at_ m t v key (.slice p a b)] w fun e w2 => e = .panicked [{ v := brk 154, recovered := false }] ∧ Below w.heap.size w w2 := by
  have d1 : decide (k < 1) = false := by simp; omega
  have d2 : decide (5 < k) = false := by simp; omega
  have hf := fail_any 154
  unfold edV
  rcases Int.lt_or_le c 1 with h | h
  · have d3 : decide (c < 1) = true := by simpa using h
    clear hc
    go_enter Tryz.func26, Tryz.ntmps26
    go_wp2_with (go_at_call 40; refine (hf _).mono ?_; rintro e w1 ⟨rfl, rfl⟩)
    exact ⟨rfl, rfl, by (repeat (first | exact Below.refl _ _ | assumption | refine Below.alloc ?_ (by simp <;> omega) _ | refine Below.drew ?_ | refine below_drewN ?_ _ | refine Below.setCell ?_ (by simp <;> omega) _ | refine belowTrans ?_ (by assumption)))⟩
  · have h2 : 9007199254740991 < c := by omega
    have d3 : decide (c < 1) = false := by simp; omega
    have d4 : decide (9007199254740991 < c) = true := by simpa using h2
    clear hc
    go_enter Tryz.func26, Tryz.ntmps26
    go_wp2_with (go_at_call 40; refine (hf _).mono ?_; rintro e w1 ⟨rfl, rfl⟩)
    exact ⟨rfl, rfl, by (repeat (first | exact Below.refl _ _ | assumption | refine Below.alloc ?_ (by simp <;> omega) _ | refine Below.drew ?_ | refine below_drewN ?_ _ | refine Below.setCell ?_ (by simp <;> omega) _ | refine belowTrans ?_ (by assumption)))⟩
end Go.Proofs.YthhbiliimdpgmaaGreatDoor
