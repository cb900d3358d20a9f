/- Walks: a run of two units in a sequence without units: chain, Run. -/
import Derived.Test.YthhbiliimdpgmaaGreatDoorM25
namespace Go.Proofs.YthhbiliimdpgmaaGreatDoor
open Go.RowKit Go.Lib

theorem OwnAt.rowP {base : Nat} {w : World} {v : Value} {l : List Nat} (h : OwnAt base 202 1 encP w v l) : SliceAt 1 encP w v l := OwnAt.slice (k := 1) (enc := encP) (fun _ => rfl) h
theorem all_one {n b1 base : Nat} {x : QUnit} {am om : List (QId × Value)} {ord root p l r : Value} {fr : Bool} {s : Int} {w : World} (hs : SeqM n w am om ord root fr) (hn : NodeAt w b1 x p l r s) (ho : OwnAt base 202 1 encP w ord [b1]) : AllA n ord [b1] [x] w where
  c := hs.cell 1 _ rfl
  row := ho.rowP
  len := rfl
  nodes := fun k b u h1 h2 i y hy => by
    match k, h1, h2 with
    | 0, h1, h2 =>
      simp at h1 h2
      subst h1
      subst h2
      refine hn.cell i y ?_
      match i, hy with
      | 0, hy => exact hy
      | 1, hy => exact hy
      | 2, hy => exact hy
      | 3, hy => exact hy
      | 4, hy => exact hy
      | 5, hy => exact hy
      | (i + 6), hy => simp [encUnit] at hy
    | (k + 1), h1, _ => simp at h1
def ChS (n base : Nat) (b : Nat) : Prop := b = n + 4 ∨ b = n + 5 ∨ b = n + 6 ∨ base ≤ b
def ChainR (n b1 base : Nat) (x y : QId) (w : World) (e : Ending) (w' : World) : Prop :=
  e = .returned (.tuple #[]) ∧ ∃ b2 ov rv am om sl, w.heap.size ≤ b2 ∧ SeqM n w' am om ov rv false ∧ NodeAt w' b1 ⟨x, idZero, idZero⟩ (.pointer none) (.slice none 0 0) sl 2 ∧ NodeAt w' b2 ⟨y, x, idZero⟩ (ptrV b1) (.slice none 0 0) (.slice none 0 0) 1 ∧ OwnAt base 202 1 encP w' ov [b1, b2] ∧ Mods (ChS n base) w w'
set_option maxRecDepth 100000 in
set_option maxHeartbeats 4000000 in
theorem chain_one (n b1 base : Nat) (x : QId) (ov rv : Value) (w : World) (hs : SeqM n w [(x, ptrV b1)] [] ov rv false) (hn : NodeAt w b1 ⟨x, idZero, idZero⟩ (.pointer none) (.slice none 0 0) (.slice none 0 0) 1) (ho : OwnAt base 202 1 encP w ov [b1]) (hb : n + 6 < base) (hb1 : base ≤ b1) (hbw : base ≤ w.heap.size)
    (hw : IntKind.u64.wrap (x.k + 1) = x.k + 1) :
    Calls Tryz.prog 149 #[.pointer (some ⟨n + 6, 0, none⟩), .pointer (some ⟨b1, 0, none⟩), .int .i64 1] w (ChainR n b1 base x ⟨x.c, x.k + 1⟩ w) := by
  have hsl := hs.lt
  have hbb := hb1
  have hb1 : n + 6 < b1 := by omega
  have hbl := hn.lt
  have hfd := find_stale n b1 x _ _ _ _ [b1] [⟨x, idZero, idZero⟩] w hs (all_one hs hn ho) (by simp [look])
  have n0 : w.cell? ⟨b1, 0, none⟩ = some (.int .u64 x.c) := hn.cell 0 _ rfl
  have n1 : w.cell? ⟨b1, 1, none⟩ = some (.int .u64 x.k) := hn.cell 1 _ rfl
  have est : stampU (ixs [⟨x, idZero, idZero⟩] [(⟨x, idZero, idZero⟩ : QUnit)].length) [] = [(x, .int .i64 0)] := by simp [stampU, ixs, put, look, List.range_succ]
  have elk : (look [(x, Value.int .i64 0)] x).getD (.int .i64 0) = .int .i64 0 := by simp [look]
  unfold FindR at hfd
  rw [est, elk] at hfd
  clear est elk
  go_enter Tryz.func149, Tryz.ntmps149
  go_upto_region 1 with (go_at_call 95; refine hfd.mono ?_; rintro e w1 ⟨rfl, hs1, hm1⟩)
  have hn1 : NodeAt w1 b1 ⟨x, idZero, idZero⟩ (.pointer none) (.slice none 0 0) (.slice none 0 0) 1 := hn.keep (hm1.block _ hbl (by omega))
  have ho1 : OwnAt base 202 1 encP w1 ov [b1] := ownsRow_blk ho fun k e => hm1.block k (ownsRow_lt ho k e) (by have := (World.ownsRow.lt ho k e).1; omega)
  have hM1 : Mods (ChS n base) w w1 := hm1.mono fun b g => by unfold ChS; omega
  clear hfd n0 n1 hs hn ho hm1
  have s9 : w1.cell? ⟨b1, 9, none⟩ = some (.int .i64 1) := hn1.cell 9 _ rfl
  have f9 := hn1.frz 9
  go_upto_region 2 with fail
  have hs2 : SeqM n (w1.setCell ⟨b1, 9, none⟩ (.int .i64 2)) [(x, ptrV b1)] [(x, .int .i64 0)] ov rv true := hs1.keep fun b g => Below.heap_setCell _ _ _ _ (by show ¬ b = b1; omega)
  have hn2 := hn1.setS 2
  have hob : ∀ k, ov.ownBlock = some k → k ≠ b1 := fun k e h => ownP_ne ho1 hn1 (by rw [e, h])
  have ho2 : OwnAt base 202 1 encP (w1.setCell ⟨b1, 9, none⟩ (.int .i64 2)) ov [b1] := ownsRow_blk ho1 fun k e => Below.heap_setCell _ _ _ _ (by show ¬ k = b1; exact hob k e)
  have hM2 : Mods (ChS n base) w (w1.setCell ⟨b1, 9, none⟩ (.int .i64 2)) := hM1.setC (.inl (.inr (.inr (.inr hbb)))) _
  have q6 : (w1.setCell ⟨b1, 9, none⟩ (.int .i64 2)).cell? ⟨b1, 6, none⟩ = some (.pointer none) := hn2.cell 6 _ rfl
  go_loopw [7] (fun p wx => (p = ptrV b1 ∧ wx = w1) ∨ (p = .pointer none ∧ wx = w1.setCell ⟨b1, 9, none⟩ (.int .i64 2))) (fun p _ => match p with | .pointer (some _) => 1 | _ => 0)
  case atStart => exact .inl ⟨rfl, rfl⟩
  case round =>
    rcases hrel with ⟨rfl, rfl⟩ | ⟨rfl, rfl⟩
    · unfold ptrV
      go_wp2
      exact ⟨by simp, Nat.zero_lt_one⟩
    · clear s9 f9 hs1 hn1 ho1 hM1 q6
      generalize w1.setCell ⟨b1, 9, none⟩ (.int .i64 2) = W at hs2 hn2 ho2 hM2 ⊢
      have hm2 := hM2.size
      go_upto_region 7 with fail
      go_loopw [1, 8, 9] (fun nn l i wx => (nn = ptrV b1 ∧ l = .slice none 0 0 ∧ i = .int .i64 1 ∧ wx = W) ∨ (∃ b2 lb lc sl, nn = ptrV b2 ∧ l = .slice (some ⟨lb, 0, none⟩) 1 lc ∧ i = .int .i64 0 ∧ w.heap.size ≤ b2 ∧ SeqM n wx [(x, ptrV b1), (⟨x.c, x.k + 1⟩, ptrV b2)] [(x, .int .i64 0)] ov rv true ∧ NodeAt wx b1 ⟨x, idZero, idZero⟩ (.pointer none) (.slice none 0 0) sl 2 ∧ NodeAt wx b2 ⟨⟨x.c, x.k + 1⟩, x, idZero⟩ (ptrV b1) (.slice none 0 0) (.slice none 0 0) 1 ∧ OwnAt base 202 1 encP wx ov [b1] ∧ wx.cell? ⟨lb, 0, none⟩ = some (ptrV b2) ∧ Mods (ChS n base) w wx)) (fun _ _ i _ => (intOf i).toNat)
      case atStart => exact .inl ⟨rfl, rfl, rfl, rfl⟩
      case round =>
        rcases hrel with ⟨rfl, rfl, rfl, rfl⟩ | ⟨b2, lb, lc, sl, rfl, rfl, rfl, hlb, hsx, hnx, hn2x, hox, hlx, hMx⟩
        · unfold ptrV
          go_upto_region 9 with fail
          have c0 : ∀ s : MStep (fun _ => False) wr, s.val.cell? ⟨b1, 0, none⟩ = some (.int .u64 x.c) := MStep.cell hn2.lt id (hn2.cell 0 _ rfl)
          have c1 : ∀ s : MStep (fun _ => False) wr, s.val.cell? ⟨b1, 1, none⟩ = some (.int .u64 x.k) := MStep.cell hn2.lt id (hn2.cell 1 _ rfl)
          have c4 : ∀ s : MStep (fun _ => False) wr, s.val.cell? ⟨b1, 4, none⟩ = some (.int .u64 0) := MStep.cell hn2.lt id (hn2.cell 4 _ rfl)
          have c5 : ∀ s : MStep (fun _ => False) wr, s.val.cell? ⟨b1, 5, none⟩ = some (.int .u64 0) := MStep.cell hn2.lt id (hn2.cell 5 _ rfl)
          refine wp_region_flow3 28 [0, 1, 2, 3, 4, 5, 6, 7, 8, 9, 10, 11, 12, 13, 14, 15, 16, 17, 18, 19, 20, 21, 22, 23, 24, 25, 26, 27] [28, 29] (fun w' => ∃ s : MStep (fun _ => False) wr, w' = s.val) (by kernel_rfl) (by kernel_rfl) (fun _ _ d _ _ h => by cases d <;> exact h) (MStep.to (Mods.refl _ _).drew) ?_
          simp only [List.map_cons, List.map_nil, List.getElem?_cons_succ, List.getElem?_cons_zero, Option.getD_some]
          repeat (first | go_big_quiet_skip | (go_big_quiet_want; first | (fail; go_frame; go_big_quiet_on) | (go_big_quiet_op; go_big_quiet_on)))
          refine wpQuiet_nil ?_
          refine wpSeqF_step rfl ?_; simp only [List.getElem_toArray, List.getElem_cons_succ, List.getElem_cons_zero]
          go_wp2
          have hb3 : Below wr.heap.size wr (wr.alloc (.cells (nodeCells ⟨⟨x.c, x.k + 1⟩, x, idZero⟩ (ptrV b1) (.slice none 0 0) (.slice none 0 0) 1) 204)).drew := ((Below.refl _ _).alloc (Nat.le_refl _) _).drew
          have hn3x : NodeAt (wr.alloc (.cells (nodeCells ⟨⟨x.c, x.k + 1⟩, x, idZero⟩ (ptrV b1) (.slice none 0 0) (.slice none 0 0) 1) 204)).drew wr.heap.size ⟨⟨x.c, x.k + 1⟩, x, idZero⟩ (ptrV b1) (.slice none 0 0) (.slice none 0 0) 1 := World.alloc_heap_new _ _
          change wpSeqF _ _ _ _ _ _ _ (wr.alloc (.cells (nodeCells ⟨⟨x.c, x.k + 1⟩, x, idZero⟩ (ptrV b1) (.slice none 0 0) (.slice none 0 0) 1) 204)).drew
          generalize (wr.alloc (.cells (nodeCells ⟨⟨x.c, x.k + 1⟩, x, idZero⟩ (ptrV b1) (.slice none 0 0) (.slice none 0 0) 1) 204)).drew = W3 at hb3 hn3x ⊢
          have hz3 := hb3.size
          have hbl2 := hn2.lt
          have hsl2 := hs2.lt
          have hs3 : SeqM n W3 [(x, ptrV b1)] [(x, .int .i64 0)] ov rv true := hs2.keep fun b g => hb3.block b (by omega)
          have hn3 : NodeAt W3 b1 ⟨x, idZero, idZero⟩ (.pointer none) (.slice none 0 0) (.slice none 0 0) 2 := hn2.keep (hb3.block _ hbl2)
          have ho3 : OwnAt base 202 1 encP W3 ov [b1] := ownsRow_blk ho2 fun k e => hb3.block k (ownsRow_lt ho2 k e)
          have hM3 : Mods (ChS n base) w W3 := hM2.trans (Mods.of_below hb3)
          have hx3 := hn3x.lt
          have hoy : ∀ k, ov.ownBlock = some k → k < wr.heap.size := fun k e => ownsRow_lt ho2 k e
          clear c0 c1 c4 c5 hs2 hn2 ho2 hM2 hb3
          generalize wr.heap.size = b2 at hn3x hz3 hbl2 hsl2 hx3 hm2 hoy ⊢
          refine wpSeqF_step rfl ?_; simp only [List.getElem_toArray, List.getElem_cons_succ, List.getElem_cons_zero]
          go_wp2
          refine wpSeqF_nil ?_
          have f8 : (W3.alloc (.cells #[.pointer (some ⟨b2, 0, none⟩)] 202)).frozen? ⟨b1, 8, none⟩ = false := (hn3.keep (Below.heap_alloc _ _ _ (by omega))).frz 8
          have c8 : (W3.alloc (.cells #[.pointer (some ⟨b2, 0, none⟩)] 202)).cell? ⟨b1, 8, none⟩ = some (.slice none 0 0) := (hn3.keep (W' := W3.alloc (.cells #[.pointer (some ⟨b2, 0, none⟩)] 202)) (Below.heap_alloc _ _ _ (by omega))).cell 8 _ rfl
          have ha4 : Mods (ChS n base) w (W3.alloc (.cells #[.pointer (some ⟨b2, 0, none⟩)] 202)) := hM3.alloc _
          have hs4 : SeqM n (W3.alloc (.cells #[.pointer (some ⟨b2, 0, none⟩)] 202)) [(x, ptrV b1)] [(x, .int .i64 0)] ov rv true := hs3.keep fun b g => Below.heap_alloc _ _ _ (by omega)
          have hn4 : NodeAt (W3.alloc (.cells #[.pointer (some ⟨b2, 0, none⟩)] 202)) b1 ⟨x, idZero, idZero⟩ (.pointer none) (.slice none 0 0) (.slice none 0 0) 2 := hn3.keep (Below.heap_alloc _ _ _ (by omega))
          have hn4x : NodeAt (W3.alloc (.cells #[.pointer (some ⟨b2, 0, none⟩)] 202)) b2 ⟨⟨x.c, x.k + 1⟩, x, idZero⟩ (ptrV b1) (.slice none 0 0) (.slice none 0 0) 1 := hn3x.keep (Below.heap_alloc _ _ _ (by omega))
          have ho4 : OwnAt base 202 1 encP (W3.alloc (.cells #[.pointer (some ⟨b2, 0, none⟩)] 202)) ov [b1] := ownsRow_blk ho3 fun k e => Below.heap_alloc _ _ _ (ownsRow_lt ho3 k e)
          have hz4 : (W3.alloc (.cells #[.pointer (some ⟨b2, 0, none⟩)] 202)).heap.size = W3.heap.size + 1 := by simp
          go_upto_region 11 with fail
          generalize W3.alloc (.cells #[.pointer (some ⟨b2, 0, none⟩)] 202) = W4 at f8 c8 ha4 hs4 hn4 hn4x ho4 hz4 ⊢
          clear hs3 hn3 hn3x ho3 hM3
          have hs5 : SeqM n (W4.setCell ⟨b1, 8, none⟩ (.slice (some ⟨W3.heap.size, 0, none⟩) 1 1)) [(x, ptrV b1)] [(x, .int .i64 0)] ov rv true := hs4.keep fun b g => Below.heap_setCell _ _ _ _ (by show ¬ b = b1; omega)
          have hn5 := hn4.setR (.slice (some ⟨W3.heap.size, 0, none⟩) 1 1)
          have hn5x : NodeAt (W4.setCell ⟨b1, 8, none⟩ (.slice (some ⟨W3.heap.size, 0, none⟩) 1 1)) b2 ⟨⟨x.c, x.k + 1⟩, x, idZero⟩ (ptrV b1) (.slice none 0 0) (.slice none 0 0) 1 := hn4x.keep (Below.heap_setCell _ _ _ _ (by show ¬ b2 = b1; omega))
          have ho5 : OwnAt base 202 1 encP (W4.setCell ⟨b1, 8, none⟩ (.slice (some ⟨W3.heap.size, 0, none⟩) 1 1)) ov [b1] := ownsRow_blk ho4 fun k e => Below.heap_setCell _ _ _ _ (by show ¬ k = b1; exact hob k e)
          have hM5 : Mods (ChS n base) w (W4.setCell ⟨b1, 8, none⟩ (.slice (some ⟨W3.heap.size, 0, none⟩) 1 1)) := ha4.setC (.inl (.inr (.inr (.inr hbb)))) _
          have hz5 : (W4.setCell ⟨b1, 8, none⟩ (.slice (some ⟨W3.heap.size, 0, none⟩) 1 1)).heap.size = W4.heap.size := by simp
          generalize W4.setCell ⟨b1, 8, none⟩ (.slice (some ⟨W3.heap.size, 0, none⟩) 1 1) = W5 at hs5 hn5 hn5x ho5 hM5 hz5 ⊢
          clear f8 c8 ha4 hs4 hn4 hn4x ho4
          have hx5 := hn5x.lt
          have u0 : ∀ s : MStep (fun _ => False) W5, s.val.cell? ⟨b2, 0, none⟩ = some (.int .u64 x.c) := MStep.cell hx5 id (hn5x.cell 0 _ rfl)
          have u1 : ∀ s : MStep (fun _ => False) W5, s.val.cell? ⟨b2, 1, none⟩ = some (.int .u64 (x.k + 1)) := MStep.cell hx5 id (hn5x.cell 1 _ rfl)
          have a0 : ∀ s : MStep (fun _ => False) W5, s.val.cell? ⟨n + 6, 0, none⟩ = some (.map (some (n + 4))) := MStep.cell hs5.lt id (hs5.cell 0 _ rfl)
          obtain ⟨ob, hput, hkey⟩ := run_put idKey (T := 83) (E := 202) (by kernel_rfl) (hs5.all.blk (w' := W5.drew) rfl) ⟨x.c, x.k + 1⟩ (ptrV b2)
          have hne : ¬ x = ⟨x.c, x.k + 1⟩ := fun h => by
            have := congrArg QId.k h
            dsimp only at this
            omega
          rw [show put [(x, ptrV b1)] ⟨x.c, x.k + 1⟩ (ptrV b2) = [(x, ptrV b1), (⟨x.c, x.k + 1⟩, ptrV b2)] by simp [put, look, hne]] at hkey
          clear hne
          unfold idV ptrV at hput
          refine wp_region_flow3 10 [0, 1, 2, 3, 4, 5, 6, 7, 8, 9] [10] (fun w' => ∃ s : MStep (fun _ => False) W5, w' = s.val) (by kernel_rfl) (by kernel_rfl) (fun _ _ d _ _ h => by cases d <;> exact h) (MStep.to (Mods.refl _ _).drew) ?_
          simp only [List.map_cons, List.map_nil, List.getElem?_cons_succ, List.getElem?_cons_zero, Option.getD_some]
          repeat (first | go_big_quiet_skip | (go_big_quiet_want; first | (fail; go_frame; go_big_quiet_on) | (go_big_quiet_op; go_big_quiet_on)))
          refine wpQuiet_nil ?_
          refine wpSeqF_step rfl ?_; simp only [List.getElem_toArray, List.getElem_cons_succ, List.getElem_cons_zero]
          go_wp2
          refine wpSeqF_nil ?_
          have hs6 : SeqM n (putMap W5.drew (n + 4) ob) [(x, ptrV b1), (⟨x.c, x.k + 1⟩, ptrV b2)] [(x, .int .i64 0)] ov rv true := ⟨hkey, hs5.at_.blk (putMap_other (w := W5.drew) (by omega)), (putMap_other (w := W5.drew) (by omega)).trans hs5.sq⟩
          have hn6 : NodeAt (putMap W5.drew (n + 4) ob) b1 ⟨x, idZero, idZero⟩ (.pointer none) (.slice none 0 0) (.slice (some ⟨W3.heap.size, 0, none⟩) 1 1) 2 := hn5.keep (putMap_other (w := W5.drew) (by omega))
          have hn6x : NodeAt (putMap W5.drew (n + 4) ob) b2 ⟨⟨x.c, x.k + 1⟩, x, idZero⟩ (ptrV b1) (.slice none 0 0) (.slice none 0 0) 1 := hn5x.keep (putMap_other (w := W5.drew) (by omega))
          have ho6 : OwnAt base 202 1 encP (putMap W5.drew (n + 4) ob) ov [b1] := ownsRow_blk ho5 fun k e => putMap_other (w := W5.drew) (by have := (World.ownsRow.lt ho5 k e).1; omega)
          have hM6 : Mods (ChS n base) w (putMap W5.drew (n + 4) ob) := ⟨hM5.os, hM5.tape, hM5.output, by rw [putMap_size]; exact hM5.size, fun k hk hs => (putMap_other (w := W5.drew) (fun e => hs (.inl e))).trans (hM5.block k hk hs)⟩
          generalize putMap W5.drew (n + 4) ob = W6 at hs6 hn6 hn6x ho6 hM6 ⊢
          clear hput hkey u0 u1 a0 hs5 hn5 hn5x ho5 hM5 hx5 hz5 hz4
          obtain ⟨i0, hi, hz0, hz1, hz2⟩ := info_parts infoP
          have hm6 := hM6.size
          have hv7 : (W6.alloc (.cells #[.pointer (some ⟨b2, 0, none⟩)] 202)).cell? ⟨W6.heap.size, 0, none⟩ = some (ptrV b2) := by unfold ptrV; go_simp
          go_wp2_with (at_builtin; refine wpList_append_own_at _ rfl _ _ 85 rfl w.heap.size 202 i0 (.pointer none) 1 8 Tryz.underlying85 hi hz0 hz1 hz2 rfl (by decide) _ 0 [] rfl (OwnAt.nil (α := Nat) (k := 1) (enc := encP)) ⟨W6.heap.size, 0, none⟩ 1 1 [ptrV b2] rfl rfl ?f1 ?f2 ?f3 ?f4 ?f5 ?_)
          case f1 => intro j y hj; match j, hj with | 0, hj => (simp at hj; subst hj; exact hv7)
          case f2 => intro y hy; simp at hy; subst hy; rfl
          case f3 => unfold maxLen; omega
          case f4 => omega
          case f5 => simp; omega
          intro v' w7 hown hgrow _ _
          have hg7 : ∀ k, k < W6.heap.size → w7.heap[k]? = W6.heap[k]? := fun k hk => (hgrow.block k (by simp; omega) (by intro e; cases e)).trans (Below.heap_alloc _ _ _ hk)
          obtain ⟨lp, lc, rfl⟩ : ∃ p c, v' = .slice p 1 c := ownsRow_len hown
          have hl7 : ∃ lb, lp = some ⟨lb, 0, none⟩ ∧ w7.cell? ⟨lb, 0, none⟩ = some (ptrV b2) := by
            have h1 : OwnAt w.heap.size 202 1 encP w7 (.slice lp 1 lc) [b2] := by unfold OwnAt; simpa [encP] using hown
            rcases h1.2 with ⟨e, _⟩ | ⟨g, cap, cur, e, _⟩
            · cases e
            · cases e
              refine ⟨_, rfl, ?_⟩
              rcases (OwnAt.rowP h1) with ⟨e, _⟩ | ⟨b, off, c2, e, _, _, h⟩
              · cases e
              · cases e
                simpa using h 0 b2 rfl 0 (ptrV b2) rfl
          obtain ⟨lb, rfl, hl7⟩ := hl7
          have hs6l := hs6.lt
          have hn6l := hn6.lt
          have hn6xl := hn6x.lt
          have hs7 : SeqM n w7 [(x, ptrV b1), (⟨x.c, x.k + 1⟩, ptrV b2)] [(x, .int .i64 0)] ov rv true := hs6.keep fun b g => hg7 b (by omega)
          have hn7 := hn6.keep (hg7 b1 hn6l)
          have hn7x := hn6x.keep (hg7 b2 hn6xl)
          have ho7 : OwnAt base 202 1 encP w7 ov [b1] := ownsRow_blk ho6 fun k e => hg7 k (ownsRow_lt ho6 k e)
          have hM7 : Mods (ChS n base) w w7 := (hM6.alloc _).grown hgrow (fun k e => by cases e)
          clear hown hgrow hg7 hv7 hs6 hn6 hn6x ho6 hM6
          go_wp2
          go_roundw
          case rel => exact .inr ⟨b2, lb, lc, _, rfl, rfl, rfl, hm2, hs7, hn7, hn7x, ho7, hl7, hM7⟩
          case measure => simp [intOf]
        · obtain ⟨op, oc, rfl⟩ : ∃ p c, ov = .slice p 1 c := ownsRow_len hox
          have hmx := hMx.size
          have hin := insert_end base (.slice op 1 oc) [b1] 1 b2 lb lc wr hox rfl hlx (by omega) (by omega)
          have c1 : wr.cell? ⟨n + 6, 1, none⟩ = some (.slice op 1 oc) := hsx.cell 1 _ rfl
          have hsxl := hsx.lt
          have hnxl := hnx.lt
          have hn2xl := hn2x.lt
          have hox6 : ∀ k, (Value.slice op 1 oc).ownBlock = some k → k ≠ n + 4 ∧ k ≠ n + 5 ∧ k ≠ n + 6 ∧ k ≠ b1 ∧ k ≠ b2 := fun k e => by
            have h1 := (World.ownsRow.lt hox k e).1
            refine ⟨by omega, by omega, by omega, fun h => ownP_ne hox hnx (by rw [e, h]), fun h => ownP_ne hox hn2x (by rw [e, h])⟩
          clear hlx
          go_upto_region 15 with (go_at_call 188; refine hin.mono ?_; rintro e w7 ⟨ov2, rfl, ho, hg, hgb⟩; obtain ⟨pp, pc, rfl⟩ : ∃ p c, ov2 = .slice p 2 c := ownsRow_len ho; have cc := hsx.keep (fun b g => hg.block b (by omega) (fun e => by have := hox6 b e.symm; omega)); have fz := cc.frz 1; have c1 : w7.cell? ⟨n + 6, 1, none⟩ = some (.slice op 1 oc) := cc.cell 1 _ rfl)
          have hnb : ∀ k, (Value.slice pp 2 pc).ownBlock = some k → k ≠ n + 6 := fun k e h => by
            have := (World.ownsRow.lt ho k e).1
            omega
          have hs8 := cc.setOrd (.slice pp 2 pc)
          have hn8 : NodeAt (w7.setCell ⟨n + 6, 1, none⟩ (.slice pp 2 pc)) b1 ⟨x, idZero, idZero⟩ (.pointer none) (.slice none 0 0) sl 2 := (hnx.keep (hg.block _ hnxl (fun e => (hox6 b1 e.symm).2.2.2.1 rfl))).keep (Below.heap_setCell _ _ _ _ (by show ¬ b1 = n + 6; omega))
          have hn8x : NodeAt (w7.setCell ⟨n + 6, 1, none⟩ (.slice pp 2 pc)) b2 ⟨⟨x.c, x.k + 1⟩, x, idZero⟩ (ptrV b1) (.slice none 0 0) (.slice none 0 0) 1 := (hn2x.keep (hg.block _ hn2xl (fun e => (hox6 b2 e.symm).2.2.2.2 rfl))).keep (Below.heap_setCell _ _ _ _ (by show ¬ b2 = n + 6; omega))
          have ho8 : OwnAt base 202 1 encP (w7.setCell ⟨n + 6, 1, none⟩ (.slice pp 2 pc)) (.slice pp 2 pc) [b1, b2] := ownsRow_blk ho fun k e => Below.heap_setCell _ _ _ _ (by show ¬ k = n + 6; exact hnb k e)
          have hM8 : Mods (ChS n base) w (w7.setCell ⟨n + 6, 1, none⟩ (.slice pp 2 pc)) := (hMx.grown hg (fun k e => .inl (.inr (.inr (.inr (World.ownsRow.lt hox k e).1))))).setC (.inl (.inr (.inr (.inl rfl)))) _
          generalize w7.setCell ⟨n + 6, 1, none⟩ (.slice pp 2 pc) = W8 at hs8 hn8 hn8x ho8 hM8 ⊢
          clear cc fz c1 hin ho hg hgb hsx hnx hn2x hox hMx
          have c4 : W8.cell? ⟨n + 6, 4, none⟩ = some (.bool true) := hs8.cell 4 _ rfl
          have f4 := hs8.frz 4
          go_wp2
          go_end0
          exact ⟨rfl, b2, _, rv, _, _, sl, hlb, hs8.setFresh false, hn8.keep (Below.heap_setCell _ _ _ _ (by show ¬ b1 = n + 6; omega)), hn8x.keep (Below.heap_setCell _ _ _ _ (by show ¬ b2 = n + 6; omega)), ownsRow_blk ho8 fun k e => Below.heap_setCell _ _ _ _ (by show ¬ k = n + 6; exact hnb k e), hM8.setC (.inl (.inr (.inr (.inl rfl)))) _⟩
end Go.Proofs.YthhbiliimdpgmaaGreatDoor
