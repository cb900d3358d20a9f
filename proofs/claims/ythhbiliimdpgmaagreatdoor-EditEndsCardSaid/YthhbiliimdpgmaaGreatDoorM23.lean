/- Walks: the first unit of a sequence: rightOf, put. -/
import Derived.Test.YthhbiliimdpgmaaGreatDoorM22
import Derived.Test.YthhbiliimdpgmaaGreatDoorM05
import Derived.Test.YthhbiliimdpgmaaGreatDoorM21
namespace Go.Proofs.YthhbiliimdpgmaaGreatDoor
open Go.RowKit Go.Lib

theorem Mods.setC {S : Nat → Prop} {w w' : World} (h : Mods S w w') {p : Addr} (hp : S p.block ∨ w.heap.size ≤ p.block) (v : Value) : Mods S w (w'.setCell p v) :=
  ⟨h.os, h.tape, h.output, by simpa using h.size, fun k hk hs => (Below.heap_setCell _ _ _ _ (fun e => by
    rcases hp with g | g
    · exact hs (by rw [e]; exact g)
    · omega)).trans (h.block k hk hs)⟩
theorem NodeAt.keep {W W' : World} {b : Nat} {u : QUnit} {p l r : Value} {s : Int} (h : NodeAt W b u p l r s) (hb : W'.heap[b]? = W.heap[b]?) : NodeAt W' b u p l r s := hb.trans h
theorem ownP_ne {W : World} {base n b : Nat} {v : Value} {xs : List Value} {u : QUnit} {p l r : Value} {s : Int} (h : W.ownsRow base 202 1 v n xs) (hn : NodeAt W b u p l r s) : v.ownBlock ≠ some b := by
  intro e
  rcases h.2 with ⟨rfl, _⟩ | ⟨g, cap, cur, rfl, _, hc, _⟩
  · cases e
  · obtain rfl : g = b := by simpa [Value.ownBlock] using e
    rw [show W.heap[g]? = _ from hn] at hc
    cases hc
def RightR (n b1 base : Nat) (u : QUnit) (am om : List (QId × Value)) (ord : Value) (fr : Bool) (w : World) (e : Ending) (w' : World) : Prop :=
  e = .returned (.int .i64 0) ∧ ∃ rv, SeqM n w' am om ord rv fr ∧ NodeAt w' b1 u (.pointer none) (.slice none 0 0) (.slice none 0 0) 1 ∧ OwnAt base 202 1 encP w' rv [b1] ∧ Mods (fun b => b = b1 ∨ b = n + 6) w w'
set_option maxRecDepth 100000 in
set_option maxHeartbeats 1000000 in
theorem rightOf_first (n b1 : Nat) (u : QUnit) (am om : List (QId × Value)) (ord : Value) (fr : Bool) (w : World) (hs : SeqM n w am om ord (.slice none 0 0) fr) (hn : NodeAt w b1 u (.pointer none) (.slice none 0 0) (.slice none 0 0) 1) (hne : n + 6 < b1) :
    Calls Tryz.prog 187 #[.pointer (some ⟨n + 6, 0, none⟩), .pointer (some ⟨b1, 0, none⟩), .pointer none] w (RightR n b1 w.heap.size u am om ord fr w) := by
  have f6 := hn.frz 6
  have c6 : w.cell? ⟨b1, 6, none⟩ = some (.pointer none) := hn.cell 6 _ rfl
  have hbl := hn.lt
  have hsl := hs.lt
  go_enter Tryz.func187, Tryz.ntmps187
  go_upto_region 2 with fail
  have hs1 : SeqM n (w.setCell ⟨b1, 6, none⟩ (.pointer none)) am om ord (.slice none 0 0) fr := hs.keep fun b g => Below.heap_setCell _ _ _ _ (by show ¬ b = b1; omega)
  have hn1 := hn.setP (.pointer none)
  have hM1 : Mods (fun b => b = b1 ∨ b = n + 6) w (w.setCell ⟨b1, 6, none⟩ (.pointer none)) := (Mods.refl _ _).setC (.inl (.inl rfl)) _
  generalize w.setCell ⟨b1, 6, none⟩ (.pointer none) = W at hs1 hn1 hM1 ⊢
  clear f6 c6 hs hn
  have c2 : W.cell? ⟨n + 6, 2, none⟩ = some (.slice none 0 0) := hs1.cell 2 _ rfl
  go_wp2_with fail
  go_loopw [8, 9] (fun p k wx => p = .int .i64 0 ∧ k = .int .i64 0 ∧ wx = W) (fun _ _ _ => 0)
  case atStart => exact ⟨rfl, rfl, rfl⟩
  case round =>
    obtain ⟨rfl, rfl, rfl⟩ := hrel
    go_upto_region 9 with fail
    have hm1 := hM1.size
    have ha : Mods (fun b => b = b1 ∨ b = n + 6) w (wr.alloc (.cells #[.pointer (some ⟨b1, 0, none⟩)] 202)) := hM1.alloc _
    have hv : (wr.alloc (.cells #[.pointer (some ⟨b1, 0, none⟩)] 202)).cell? ⟨wr.heap.size, 0, none⟩ = some (ptrV b1) := by unfold ptrV; go_simp
    have hs2 : SeqM n (wr.alloc (.cells #[.pointer (some ⟨b1, 0, none⟩)] 202)) am om ord (.slice none 0 0) fr := hs1.keep fun b g => Below.heap_alloc _ _ _ (by omega)
    have hn2 : NodeAt (wr.alloc (.cells #[.pointer (some ⟨b1, 0, none⟩)] 202)) b1 u (.pointer none) (.slice none 0 0) (.slice none 0 0) 1 := hn1.keep (Below.heap_alloc _ _ _ (by omega))
    have hin := insert_end w.heap.size (.slice none 0 0) [] 0 b1 wr.heap.size 1 _ OwnAt.nil rfl hv (by simp; omega) (by omega)
    have hz : wr.heap.size < (wr.alloc (.cells #[.pointer (some ⟨b1, 0, none⟩)] 202)).heap.size := by simp
    go_upto_region 10 with (go_at_call 188; refine hin.mono ?_; rintro e w3 ⟨rv, rfl, ho, hg, _⟩; obtain ⟨pp, pc, rfl⟩ : ∃ p c, rv = .slice p 1 c := ownsRow_len ho; have cc := (hs2.keep (fun b g => hg.block b (by omega) (by intro e; cases e))); have fz := cc.frz 2; have c2 : w3.cell? ⟨n + 6, 2, none⟩ = some (.slice none 0 0) := cc.cell 2 _ rfl)
    go_wp2
    go_ret
    have hb3 := hg.block b1 (by omega) (by intro e; cases e)
    have hn3 : NodeAt w3 b1 u (.pointer none) (.slice none 0 0) (.slice none 0 0) 1 := hn2.keep hb3
    have hnb : ∀ k, (Value.slice pp 1 pc).ownBlock = some k → k ≠ n + 6 := fun k e h => by
      have := (World.ownsRow.lt ho k e).1
      omega
    exact ⟨rfl, _, cc.setRoot _, hn3.keep (Below.heap_setCell _ _ _ _ (by show ¬ b1 = n + 6; omega)), ownsRow_blk ho fun k e => Below.heap_setCell _ _ _ _ (by show ¬ k = n + 6; exact hnb k e), (ha.grown hg (fun k e => by cases e)).setC (.inl (.inr rfl)) _⟩
def PutR (n : Nat) (x : QId) (w : World) (e : Ending) (w' : World) : Prop :=
  e = .returned (.tuple #[]) ∧ ∃ b1 ov rv, w.heap.size ≤ b1 ∧ SeqM n w' [(x, ptrV b1)] [] ov rv false ∧ NodeAt w' b1 ⟨x, idZero, idZero⟩ (.pointer none) (.slice none 0 0) (.slice none 0 0) 1 ∧ OwnAt w.heap.size 202 1 encP w' ov [b1] ∧ Mods (fun b => b = n + 4 ∨ b = n + 6) w w'
set_option maxRecDepth 100000 in
set_option maxHeartbeats 2000000 in
theorem put_first (n : Nat) (x : QId) (fr : Bool) (w : World) (hs : SeqM n w [] [] (.slice none 0 0) (.slice none 0 0) fr) :
    Calls Tryz.prog 148 #[.pointer (some ⟨n + 6, 0, none⟩), .agg #[.int .u64 x.c, .int .u64 x.k, .int .u64 0, .int .u64 0, .int .u64 0, .int .u64 0]] w (PutR n x w) := by
  have hsl := hs.lt
  go_enter Tryz.func148, Tryz.ntmps148
  go_upto_region 2 with fail
  have hB : Below w.heap.size w ((w.alloc (.cells #[.int .u64 x.c, .int .u64 x.k, .int .u64 0, .int .u64 0, .int .u64 0, .int .u64 0] 157)).alloc (.cells (nodeCells ⟨x, idZero, idZero⟩ (.pointer none) (.slice none 0 0) (.slice none 0 0) 1) 204)) := by (repeat (first | exact Below.refl _ _ | assumption | refine Below.alloc ?_ (by simp <;> omega) _ | refine Below.drew ?_ | refine below_drewN ?_ _ | refine Below.setCell ?_ (by simp <;> omega) _ | refine belowTrans ?_ (by assumption)))
  have hu : ∀ k v, (#[Value.int .u64 x.c, .int .u64 x.k, .int .u64 0, .int .u64 0, .int .u64 0, .int .u64 0])[k]? = some v → ((w.alloc (.cells #[.int .u64 x.c, .int .u64 x.k, .int .u64 0, .int .u64 0, .int .u64 0, .int .u64 0] 157)).alloc (.cells (nodeCells ⟨x, idZero, idZero⟩ (.pointer none) (.slice none 0 0) (.slice none 0 0) 1) 204)).cell? ⟨w.heap.size, k, none⟩ = some v := fun k v hk => (cellTwo w _ _ _ _ k).1.trans hk
  have hn : NodeAt ((w.alloc (.cells #[.int .u64 x.c, .int .u64 x.k, .int .u64 0, .int .u64 0, .int .u64 0, .int .u64 0] 157)).alloc (.cells (nodeCells ⟨x, idZero, idZero⟩ (.pointer none) (.slice none 0 0) (.slice none 0 0) 1) 204)) (w.heap.size + 1) ⟨x, idZero, idZero⟩ (.pointer none) (.slice none 0 0) (.slice none 0 0) 1 := by
    unfold NodeAt
    rw [alloc_heap_if, if_pos (by simp)]
  change Code.wp _ _ _ _ ((w.alloc (.cells #[.int .u64 x.c, .int .u64 x.k, .int .u64 0, .int .u64 0, .int .u64 0, .int .u64 0] 157)).alloc (.cells (nodeCells ⟨x, idZero, idZero⟩ (.pointer none) (.slice none 0 0) (.slice none 0 0) 1) 204))
  generalize (w.alloc (.cells #[.int .u64 x.c, .int .u64 x.k, .int .u64 0, .int .u64 0, .int .u64 0, .int .u64 0] 157)).alloc (.cells (nodeCells ⟨x, idZero, idZero⟩ (.pointer none) (.slice none 0 0) (.slice none 0 0) 1) 204) = W at hB hu hn ⊢
  have hs2 := hs.keep fun b g => hB.block b (by omega)
  have hul : w.heap.size < W.heap.size := by have := hn.lt; omega
  have u2 : ∀ s : BStep W, s.val.cell? ⟨w.heap.size, 2, none⟩ = some (.int .u64 0) := BStep.cell hul (hu 2 _ rfl)
  have u3 : ∀ s : BStep W, s.val.cell? ⟨w.heap.size, 3, none⟩ = some (.int .u64 0) := BStep.cell hul (hu 3 _ rfl)
  have u4 : ∀ s : BStep W, s.val.cell? ⟨w.heap.size, 4, none⟩ = some (.int .u64 0) := BStep.cell hul (hu 4 _ rfl)
  have u5 : ∀ s : BStep W, s.val.cell? ⟨w.heap.size, 5, none⟩ = some (.int .u64 0) := BStep.cell hul (hu 5 _ rfl)
  have a0 : ∀ s : BStep W, s.val.cell? ⟨n + 6, 0, none⟩ = some (.map (some (n + 4))) := BStep.cell hs2.lt (hs2.cell 0 _ rfl)
  have lk : ∀ s : BStep W, (Instr.lookup 83 (.map (some (n + 4))) (.agg #[.int .u64 0, .int .u64 0]) false).run Tryz.prog s.val = .ok (.pointer none) s.val := fun s => seqLook (bstepSeq hs2 s) idZero
  refine wp_region_b (by kernel_rfl) (by kernel_rfl) ?_
  repeat (first | go_big_quiet_skip | (go_big_quiet_want; go_big_quiet_op; first | go_big_quiet_on | go_big_quiet_call (fail)))
  refine wpQuiet_nil ?_
  intro W' hC'
  have hBW' := BStep.of hC'
  have hB2 := hB.trans (hBW'.mono hB.size)
  have hs3 := hs.keep fun b g => hB2.block b (by omega)
  have hn3 := hn.keep (hBW'.block _ hn.lt)
  have hu3 : ∀ k v, (#[Value.int .u64 x.c, .int .u64 x.k, .int .u64 0, .int .u64 0, .int .u64 0, .int .u64 0])[k]? = some v → W'.cell? ⟨w.heap.size, k, none⟩ = some v := fun k v hk => (hBW'.cell (p := ⟨w.heap.size, k, none⟩) hul).trans (hu k v hk)
  have hz3 : W.heap.size ≤ W'.heap.size := hBW'.size
  clear u2 u3 u4 u5 a0 lk hC' hs2 hB hn hu hBW'
  have hro := rightOf_first n (w.heap.size + 1) ⟨x, idZero, idZero⟩ _ _ _ _ W' hs3 hn3 (by omega)
  go_upto_region 7 with (go_at_call 187; refine hro.mono ?_; rintro e w4 ⟨rfl, rv, hs4, hn4, _, hm4⟩)
  have hM4 : Mods (fun b => b = n + 4 ∨ b = n + 6) w w4 := ⟨hm4.os.trans hB2.os, hm4.tape.trans hB2.tape, hm4.output.trans hB2.output, Nat.le_trans hB2.size hm4.size, fun k hk hs => (hm4.block k (Nat.lt_of_lt_of_le hk hB2.size) (by omega)).trans (hB2.block k hk)⟩
  have hu4 : ∀ k v, (#[Value.int .u64 x.c, .int .u64 x.k, .int .u64 0, .int .u64 0, .int .u64 0, .int .u64 0])[k]? = some v → w4.cell? ⟨w.heap.size, k, none⟩ = some v := fun k v hk => (World.cell?_of_block (w := W') (hm4.block w.heap.size (by omega) (by omega))).trans (hu3 k v hk)
  clear hro hm4 hs3 hn3 hu3 hB2
  have p6 : w4.cell? ⟨w.heap.size + 1, 6, none⟩ = some (.pointer none) := hn4.cell 6 _ rfl
  have hz4 : w.heap.size + 1 < w4.heap.size := hn4.lt
  go_upto_region 8 with fail
  go_loopw [8] (fun p wx => p = .pointer none ∧ wx = w4) (fun _ _ => 0)
  case atStart => exact ⟨rfl, rfl⟩
  case round =>
    obtain ⟨rfl, rfl⟩ := hrel
    go_upto_region 11 with fail
    have u0 : ∀ s : MStep (fun _ => False) wr, s.val.cell? ⟨w.heap.size, 0, none⟩ = some (.int .u64 x.c) := MStep.cell (by show w.heap.size < _; omega) id (hu4 0 _ rfl)
    have u1 : ∀ s : MStep (fun _ => False) wr, s.val.cell? ⟨w.heap.size, 1, none⟩ = some (.int .u64 x.k) := MStep.cell (by show w.heap.size < _; omega) id (hu4 1 _ rfl)
    have a0 : ∀ s : MStep (fun _ => False) wr, s.val.cell? ⟨n + 6, 0, none⟩ = some (.map (some (n + 4))) := MStep.cell hs4.lt id (hs4.cell 0 _ rfl)
    obtain ⟨ob, hput, hkey⟩ := run_put idKey (T := 83) (E := 202) (by kernel_rfl) (hs4.all.blk (w' := wr.drew) rfl) x (ptrV (w.heap.size + 1))
    unfold idV ptrV at hput
    refine wp_region_flow3 7 [0, 1, 2, 3, 4, 5, 6] [7] (fun w' => ∃ s : MStep (fun _ => False) wr, w' = s.val) (by kernel_rfl) (by kernel_rfl) (fun _ _ d _ _ h => by cases d <;> exact h) (MStep.to (Mods.refl _ _).drew) ?_
    simp only [List.map_cons, List.map_nil, List.getElem?_cons_succ, List.getElem?_cons_zero, Option.getD_some]
    repeat (first | go_big_quiet_skip | (go_big_quiet_want; first | (fail; go_frame; go_big_quiet_on) | (go_big_quiet_op; go_big_quiet_on)))
    refine wpQuiet_nil ?_
    refine wpSeqF_step rfl ?_; simp only [List.getElem_toArray, List.getElem_cons_succ, List.getElem_cons_zero]
    go_wp2
    refine wpSeqF_nil ?_
    have hs5 : SeqM n (putMap wr.drew (n + 4) ob) [(x, ptrV (w.heap.size + 1))] [] (.slice none 0 0) rv fr := {
      all := hkey
      at_ := hs4.at_.blk (putMap_other (w := wr.drew) (by omega))
      sq := (putMap_other (w := wr.drew) (by omega)).trans hs4.sq }
    have hn5 : NodeAt (putMap wr.drew (n + 4) ob) (w.heap.size + 1) ⟨x, idZero, idZero⟩ (.pointer none) (.slice none 0 0) (.slice none 0 0) 1 := hn4.keep (putMap_other (w := wr.drew) (by omega))
    have hM5 : Mods (fun b => b = n + 4 ∨ b = n + 6) w (putMap wr.drew (n + 4) ob) :=
      ⟨hM4.os, hM4.tape, hM4.output, by rw [putMap_size]; exact hM4.size, fun k hk hs => (putMap_other (w := wr.drew) (by omega)).trans (hM4.block k hk hs)⟩
    generalize putMap wr.drew (n + 4) ob = W5 at hs5 hn5 hM5 ⊢
    clear hput hkey u0 u1 a0 hs4 hn4 hM4 hu4 p6 hz4
    have hz5 := hn5.lt
    have hm5 := hM5.size
    have c1 : W5.cell? ⟨n + 6, 1, none⟩ = some (.slice none 0 0) := hs5.cell 1 _ rfl
    have ha : Mods (fun b => b = n + 4 ∨ b = n + 6) w (W5.alloc (.cells #[.pointer (some ⟨w.heap.size + 1, 0, none⟩)] 202)) := hM5.alloc _
    have hv : (W5.alloc (.cells #[.pointer (some ⟨w.heap.size + 1, 0, none⟩)] 202)).cell? ⟨W5.heap.size, 0, none⟩ = some (ptrV (w.heap.size + 1)) := by unfold ptrV; go_simp
    have hs6 : SeqM n (W5.alloc (.cells #[.pointer (some ⟨w.heap.size + 1, 0, none⟩)] 202)) [(x, ptrV (w.heap.size + 1))] [] (.slice none 0 0) rv fr := hs5.keep fun b g => Below.heap_alloc _ _ _ (by omega)
    have hn6 : NodeAt (W5.alloc (.cells #[.pointer (some ⟨w.heap.size + 1, 0, none⟩)] 202)) (w.heap.size + 1) ⟨x, idZero, idZero⟩ (.pointer none) (.slice none 0 0) (.slice none 0 0) 1 := hn5.keep (Below.heap_alloc _ _ _ (by omega))
    have hin := insert_end w.heap.size (.slice none 0 0) [] 0 (w.heap.size + 1) W5.heap.size 1 _ OwnAt.nil rfl hv (by simp; omega) (by omega)
    have hz : W5.heap.size < (W5.alloc (.cells #[.pointer (some ⟨w.heap.size + 1, 0, none⟩)] 202)).heap.size := by simp
    go_upto_region 13 with (go_at_call 188; refine hin.mono ?_; rintro e w7 ⟨ov, rfl, ho, hg, _⟩; obtain ⟨pp, pc, rfl⟩ : ∃ p c, ov = .slice p 1 c := ownsRow_len ho; have cc := (hs6.keep (fun b g => hg.block b (by omega) (by intro e; cases e))); have fz := cc.frz 1; have c1 : w7.cell? ⟨n + 6, 1, none⟩ = some (.slice none 0 0) := cc.cell 1 _ rfl)
    have hnb : ∀ k, (Value.slice pp 1 pc).ownBlock = some k → k ≠ n + 6 := fun k e h => by
      have := (World.ownsRow.lt ho k e).1
      omega
    have hs8 := cc.setOrd (.slice pp 1 pc)
    have hn8 : NodeAt (w7.setCell ⟨n + 6, 1, none⟩ (.slice pp 1 pc)) (w.heap.size + 1) ⟨x, idZero, idZero⟩ (.pointer none) (.slice none 0 0) (.slice none 0 0) 1 := (hn6.keep (hg.block _ (by omega) (by intro e; cases e))).keep (Below.heap_setCell _ _ _ _ (by show ¬ w.heap.size + 1 = n + 6; omega))
    have ho8 : OwnAt w.heap.size 202 1 encP (w7.setCell ⟨n + 6, 1, none⟩ (.slice pp 1 pc)) (.slice pp 1 pc) [w.heap.size + 1] := ownsRow_blk ho fun k e => Below.heap_setCell _ _ _ _ (by show ¬ k = n + 6; exact hnb k e)
    have hM8 : Mods (fun b => b = n + 4 ∨ b = n + 6) w (w7.setCell ⟨n + 6, 1, none⟩ (.slice pp 1 pc)) := (ha.grown hg (fun k e => by cases e)).setC (.inl (.inr rfl)) _
    generalize w7.setCell ⟨n + 6, 1, none⟩ (.slice pp 1 pc) = W8 at hs8 hn8 ho8 hM8 ⊢
    clear cc fz c1 hin ho hg hs6 hn6 hv ha hz hs5 hn5 hM5
    have c4 : W8.cell? ⟨n + 6, 4, none⟩ = some (.bool fr) := hs8.cell 4 _ rfl
    have f4 := hs8.frz 4
    go_wp2
    go_end0
    exact ⟨rfl, w.heap.size + 1, _, rv, by omega, hs8.setFresh false, hn8.keep (Below.heap_setCell _ _ _ _ (by show ¬ w.heap.size + 1 = n + 6; omega)), ownsRow_blk ho8 fun k e => Below.heap_setCell _ _ _ _ (by show ¬ k = n + 6; exact hnb k e), hM8.setC (.inl (.inr rfl)) _⟩
end Go.Proofs.YthhbiliimdpgmaaGreatDoor
/- Walks: edit.origins in a document whose sequence is empty. -/
namespace Go.Proofs.YthhbiliimdpgmaaGreatDoor
open Go.RowKit Go.Lib

def SeqR (w : World) (e : Ending) (w' : World) : Prop := ∃ b, e = .returned (.pointer (some ⟨b, 0, none⟩)) ∧ SeqE w' b ∧ Below w.heap.size w w'
theorem docSeq_none (n : Nat) (kl : List (Int × Value)) (wl : List (QId × Value)) (hv vv : Value) (st : Int) (w : World) (hd : DocC n w kl wl hv vv st) (hs : SeqZ n w) : Calls Tryz.prog 94 #[.pointer (some ⟨n + 11, 0, none⟩)] w (SeqR w) := by
  have c6 := hd.cell 6 _ rfl
  have hl := hd.lt
  have hc := seqCopy_none n w hs
  go_enter Tryz.func94, Tryz.ntmps94
  go_wp2_with (go_at_call 137; refine hc.mono ?_; rintro e w1 ⟨b, rfl, h1, h2⟩)
  go_ret
  exact ⟨b, rfl, h1, h2⟩
theorem SeqE.cell {w : World} {b : Nat} (h : SeqE w b) : w.cell? ⟨b, 1, none⟩ = some (.slice none 0 0) := by
  obtain ⟨m, m', h⟩ := h
  simp [World.cell?, h, noS]
theorem SeqE.lt {w : World} {b : Nat} (h : SeqE w b) : b < w.heap.size := by
  obtain ⟨m, m', h⟩ := h
  exact (Array.getElem?_eq_some_iff.1 h).1
set_option maxRecDepth 100000 in
theorem origins_none (n : Nat) (kl : List (Int × Value)) (wl : List (QId × Value)) (hv vv : Value) (st : Int) (p : Option Addr) (a b : Nat) (w : World) (hd : DocC n w kl wl hv vv st) (hs : SeqZ n w) :
    Calls Tryz.prog 46 #[.pointer (some ⟨n + 11, 0, none⟩), .slice p a b, .int .i64 0] w fun e w' => e = .returned (.tuple #[.agg #[.int .u64 idZero.c, .int .u64 idZero.k], .agg #[.int .u64 idZero.c, .int .u64 idZero.k]]) ∧ Below w.heap.size w w' := by
  have hl := hd.lt
  have hB : Below w.heap.size w ((w.alloc (.cells #[.int .u64 0, .int .u64 0] 28)).alloc (.cells #[.int .u64 0, .int .u64 0] 28)) := by (repeat (first | exact Below.refl _ _ | assumption | refine Below.alloc ?_ (by simp <;> omega) _ | refine Below.drew ?_ | refine below_drewN ?_ _ | refine Below.setCell ?_ (by simp <;> omega) _ | refine belowTrans ?_ (by assumption)))
  have hsq := docSeq_none n kl wl hv vv st _ (hd.keep fun b g => hB.block b (by omega)) (hs.keep fun b g => hB.block b (by omega))
  have e0 : ((w.alloc (.cells #[.int .u64 0, .int .u64 0] 28)).alloc (.cells #[.int .u64 0, .int .u64 0] 28)).cell? ⟨w.heap.size, 0, none⟩ = some (.int .u64 0) := by go_simp
  have e1 : ((w.alloc (.cells #[.int .u64 0, .int .u64 0] 28)).alloc (.cells #[.int .u64 0, .int .u64 0] 28)).cell? ⟨w.heap.size, 1, none⟩ = some (.int .u64 0) := by go_simp
  have e2 : ((w.alloc (.cells #[.int .u64 0, .int .u64 0] 28)).alloc (.cells #[.int .u64 0, .int .u64 0] 28)).cell? ⟨w.heap.size + 1, 0, none⟩ = some (.int .u64 0) := by go_simp
  have e3 : ((w.alloc (.cells #[.int .u64 0, .int .u64 0] 28)).alloc (.cells #[.int .u64 0, .int .u64 0] 28)).cell? ⟨w.heap.size + 1, 1, none⟩ = some (.int .u64 0) := by go_simp
  have hz : ((w.alloc (.cells #[.int .u64 0, .int .u64 0] 28)).alloc (.cells #[.int .u64 0, .int .u64 0] 28)).heap.size = w.heap.size + 2 := by simp
  unfold idZero
  go_enter Tryz.func46, Tryz.ntmps46
  go_wp2_with (first | (go_at_call 94; refine hsq.mono ?_; rintro e w1 ⟨sb, rfl, h1, h2⟩) | (go_at_call 96; refine (seqAt_none sb 0 w1 h1.lt h1.cell (Int.le_refl _)).mono ?_; rintro e w2 ⟨rfl, h3⟩; have hW := belowTrans h2 h3; have q0 := (hW.cell (p := ⟨w.heap.size, 0, none⟩) (by rw [hz]; show w.heap.size < w.heap.size + 2; omega)).trans e0; have q1 := (hW.cell (p := ⟨w.heap.size, 1, none⟩) (by rw [hz]; show w.heap.size < w.heap.size + 2; omega)).trans e1; have q2 := (hW.cell (p := ⟨w.heap.size + 1, 0, none⟩) (by rw [hz]; show w.heap.size + 1 < w.heap.size + 2; omega)).trans e2; have q3 := (hW.cell (p := ⟨w.heap.size + 1, 1, none⟩) (by rw [hz]; show w.heap.size + 1 < w.heap.size + 2; omega)).trans e3))
  have hB3 : Below w.heap.size w (w2.alloc (.cells #[.int .u64 0, .int .u64 0, .int .u64 0, .int .u64 0, .int .u64 0, .int .u64 0] 157)) := by
    have h4 := belowTrans hB hW
    exact h4.alloc h4.size _
  have hz3 : (w2.alloc (.cells #[.int .u64 0, .int .u64 0, .int .u64 0, .int .u64 0, .int .u64 0, .int .u64 0] 157)).heap.size = w2.heap.size + 1 := by simp
  have hb1 : Below w2.heap.size w2 (w2.alloc (.cells #[.int .u64 0, .int .u64 0, .int .u64 0, .int .u64 0, .int .u64 0, .int .u64 0] 157)) := (Below.refl _ _).alloc (Nat.le_refl _) _
  have hz2 : w.heap.size + 1 < w2.heap.size := by have := hW.size; omega
  have v0 : (w2.alloc (.cells #[.int .u64 0, .int .u64 0, .int .u64 0, .int .u64 0, .int .u64 0, .int .u64 0] 157)).cell? ⟨w2.heap.size, 0, none⟩ = some (.int .u64 0) := by go_simp
  have v1 : (w2.alloc (.cells #[.int .u64 0, .int .u64 0, .int .u64 0, .int .u64 0, .int .u64 0, .int .u64 0] 157)).cell? ⟨w2.heap.size, 1, none⟩ = some (.int .u64 0) := by go_simp
  have hL : (w2.alloc (.cells #[.int .u64 0, .int .u64 0, .int .u64 0, .int .u64 0, .int .u64 0, .int .u64 0] 157)).heap[w.heap.size]? = some (.cells #[.int .u64 0, .int .u64 0] 28 (0, 0)) := (hb1.block w.heap.size (by omega)).trans ((hW.block w.heap.size (by omega)).trans (by rw [alloc_heap_if, if_neg (by simp), alloc_heap_if, if_pos rfl]))
  have hR : (w2.alloc (.cells #[.int .u64 0, .int .u64 0, .int .u64 0, .int .u64 0, .int .u64 0, .int .u64 0] 157)).heap[w.heap.size + 1]? = some (.cells #[.int .u64 0, .int .u64 0] 28 (0, 0)) := (hb1.block (w.heap.size + 1) (by omega)).trans ((hW.block (w.heap.size + 1) (by omega)).trans (by rw [alloc_heap_if, if_pos (by simp)]))
  generalize w2.alloc (.cells #[.int .u64 0, .int .u64 0, .int .u64 0, .int .u64 0, .int .u64 0, .int .u64 0] 157) = W at hB3 hz3 v0 v1 hL hR ⊢
  clear q0 q1 q2 q3 hW h3 h2 h1 e0 e1 e2 e3 hb1 hsq hB hz hd hs
  generalize w2.heap.size = X at hz3 hz2 v0 v1 ⊢
  have f0 : W.frozen? ⟨w.heap.size, 0, none⟩ = false := by simp [World.frozen?, hL]
  have f1 : W.frozen? ⟨w.heap.size, 1, none⟩ = false := by simp [World.frozen?, hL]
  have c0 : W.cell? ⟨w.heap.size, 0, none⟩ = some (.int .u64 0) := by simp [World.cell?, hL]
  have c1 : W.cell? ⟨w.heap.size, 1, none⟩ = some (.int .u64 0) := by simp [World.cell?, hL]
  obtain ⟨S, hS⟩ : ∃ S : World → Prop, ∀ w', S w' ↔ Mods (fun b => b = w.heap.size ∨ b = w.heap.size + 1) W w' ∧ w'.heap[w.heap.size]? = some (.cells #[.int .u64 0, .int .u64 0] 28 (0, 0)) := ⟨_, fun _ => Iff.rfl⟩
  have hS0 : S W.drew := (hS _).2 ⟨(Mods.refl _ _).drew, hL⟩
  haveI : Nonempty (CStep S) := ⟨⟨_, hS0⟩⟩
  have a0 : ∀ s : CStep S, s.val.cell? ⟨w.heap.size, 0, none⟩ = some (.int .u64 0) := fun s => by simp [World.cell?, ((hS _).1 s.h).2]
  have a1 : ∀ s : CStep S, s.val.cell? ⟨w.heap.size, 1, none⟩ = some (.int .u64 0) := fun s => by simp [World.cell?, ((hS _).1 s.h).2]
  have x0 : ∀ s : CStep S, s.val.cell? ⟨X, 0, none⟩ = some (.int .u64 0) := fun s => (World.cell?_of_block (w := W) (((hS _).1 s.h).1.block X (by omega) (by omega))).trans v0
  have x1 : ∀ s : CStep S, s.val.cell? ⟨X, 1, none⟩ = some (.int .u64 0) := fun s => (World.cell?_of_block (w := W) (((hS _).1 s.h).1.block X (by omega) (by omega))).trans v1
  refine wp_region_flow7 (.rd [0, 1, 2] (.one 3 (.one 4 .nil))) (fun w' => ∃ s : CStep (S), w' = s.val) (by kernel_rfl) (by kernel_rfl) (fun _ _ d _ _ h => by cases d <;> exact h) (CStep.to (hS0)) ?_
  refine wpRT_rd ?_
  simp only [List.map_cons, List.map_nil, List.getElem?_toArray, List.getElem?_cons_succ, List.getElem?_cons_zero, Option.getD_some]
  repeat (first | go_big_quiet_skip | (go_big_quiet_want; first | (fail; go_frame; go_big_quiet_on) | (go_big_quiet_op; go_big_quiet_on)))
  refine wpQuiet_nil ?_
  refine wpRT_one rfl ?_; simp only [List.getElem_toArray, List.getElem_cons_succ, List.getElem_cons_zero]
  go_wp2
  have hM1 : Mods (fun b => b = w.heap.size) W (((W.setCell ⟨w.heap.size, 0, none⟩ (.int .u64 0)).setCell ⟨w.heap.size, 1, none⟩ (.int .u64 0)).drew) := (((Mods.refl (fun b => b = w.heap.size) W).setC (p := ⟨w.heap.size, 0, none⟩) (.inl rfl) _).setC (p := ⟨w.heap.size, 1, none⟩) (.inl rfl) _).drew
  have hL1 : (((W.setCell ⟨w.heap.size, 0, none⟩ (.int .u64 0)).setCell ⟨w.heap.size, 1, none⟩ (.int .u64 0)).drew).heap[w.heap.size]? = some (.cells #[.int .u64 0, .int .u64 0] 28 (0, 0)) := by
    show ((W.setCell ⟨w.heap.size, 0, none⟩ (.int .u64 0)).setCell ⟨w.heap.size, 1, none⟩ (.int .u64 0)).heap[w.heap.size]? = _
    simp [World.setCell, Array.getElem?_modify, hL]
  refine ⟨CStep.to ((hS _).2 ⟨hM1.mono fun b g => .inl g, hL1⟩), ?_⟩
  generalize ((W.setCell ⟨w.heap.size, 0, none⟩ (.int .u64 0)).setCell ⟨w.heap.size, 1, none⟩ (.int .u64 0)).drew = W1 at hM1 hL1 ⊢
  have hR1 := (hM1.block (w.heap.size + 1) (by omega) (by omega)).trans hR
  clear a0 a1 x0 x1 f0 f1 c0 c1 v0 v1
  have f2 : W1.frozen? ⟨w.heap.size + 1, 0, none⟩ = false := by simp [World.frozen?, hR1]
  have f3 : W1.frozen? ⟨w.heap.size + 1, 1, none⟩ = false := by simp [World.frozen?, hR1]
  have c2 : W1.cell? ⟨w.heap.size + 1, 0, none⟩ = some (.int .u64 0) := by simp [World.cell?, hR1]
  have c3 : W1.cell? ⟨w.heap.size + 1, 1, none⟩ = some (.int .u64 0) := by simp [World.cell?, hR1]
  refine wpRT_one rfl ?_; simp only [List.getElem_toArray, List.getElem_cons_succ, List.getElem_cons_zero]
  go_wp2
  have hM2 : Mods (fun b => b = w.heap.size ∨ b = w.heap.size + 1) W ((W1.setCell ⟨w.heap.size + 1, 0, none⟩ (.int .u64 0)).setCell ⟨w.heap.size + 1, 1, none⟩ (.int .u64 0)) := ((hM1.mono fun b g => .inl g).setC (p := ⟨w.heap.size + 1, 0, none⟩) (.inl (.inr rfl)) _).setC (p := ⟨w.heap.size + 1, 1, none⟩) (.inl (.inr rfl)) _
  have hL2 : ((W1.setCell ⟨w.heap.size + 1, 0, none⟩ (.int .u64 0)).setCell ⟨w.heap.size + 1, 1, none⟩ (.int .u64 0)).heap[w.heap.size]? = some (.cells #[.int .u64 0, .int .u64 0] 28 (0, 0)) := (Below.heap_setCell _ _ _ _ (by show ¬ w.heap.size = w.heap.size + 1; omega)).trans ((Below.heap_setCell _ _ _ _ (by show ¬ w.heap.size = w.heap.size + 1; omega)).trans hL1)
  have hR2 : ((W1.setCell ⟨w.heap.size + 1, 0, none⟩ (.int .u64 0)).setCell ⟨w.heap.size + 1, 1, none⟩ (.int .u64 0)).heap[w.heap.size + 1]? = some (.cells #[.int .u64 0, .int .u64 0] 28 (0, 0)) := by simp [World.setCell, Array.getElem?_modify, hR1]
  refine ⟨CStep.to ((hS _).2 ⟨hM2, hL2⟩), ?_⟩
  generalize (W1.setCell ⟨w.heap.size + 1, 0, none⟩ (.int .u64 0)).setCell ⟨w.heap.size + 1, 1, none⟩ (.int .u64 0) = W2 at hM2 hL2 hR2 ⊢
  refine wpRT_nil ?_
  clear f2 f3 c2 c3
  have l0 : W2.cell? ⟨w.heap.size, 0, none⟩ = some (.int .u64 0) := by simp [World.cell?, hL2]
  have l1 : W2.cell? ⟨w.heap.size, 1, none⟩ = some (.int .u64 0) := by simp [World.cell?, hL2]
  have r0 : W2.cell? ⟨w.heap.size + 1, 0, none⟩ = some (.int .u64 0) := by simp [World.cell?, hR2]
  have r1 : W2.cell? ⟨w.heap.size + 1, 1, none⟩ = some (.int .u64 0) := by simp [World.cell?, hR2]
  go_wp2
  refine bodyPost_ret (v := .tuple #[.agg #[.int .u64 0, .int .u64 0], .agg #[.int .u64 0, .int .u64 0]]) ?_ rfl ⟨rfl, ?_⟩
  · simp [results, Tryz.results46, go_sem, l0, l1, r0, r1]
  · exact ⟨hM2.os.trans hB3.os, hM2.tape.trans hB3.tape, hM2.output.trans hB3.output, Nat.le_trans hB3.size hM2.size, fun k hk => (hM2.block k (Nat.lt_of_lt_of_le hk hB3.size) (by omega)).trans (hB3.block k hk)⟩
end Go.Proofs.YthhbiliimdpgmaaGreatDoor
