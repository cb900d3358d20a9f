/- Walk: maps.Get. -/
import Derived.Test.YteadongdlacgmaaOps
namespace Go.Proofs.Yteadongdlacgmaa
open Go.RowKit

def zOp : Obj := .cells (encOp opZero).toArray 41
theorem zOp_def : Obj.cells #[.int .u64 opZero.id.c, .int .u64 opZero.id.k, .int .i64 opZero.kind, .int .u64 opZero.stamp, .int .u64 opZero.left.c, .int .u64 opZero.left.k, .int .u64 opZero.right.c, .int .u64 opZero.right.k, .string opZero.text, .int .i64 opZero.v.kind, .int .i64 opZero.v.n, .float .f64 opZero.v.f, .string opZero.v.s, .string opZero.key, .int .u64 opZero.parent.c, .int .u64 opZero.parent.k, .int .u64 opZero.frm.c, .int .u64 opZero.frm.k, .bool opZero.frmA, .int .u64 opZero.til.c, .int .u64 opZero.til.k, .bool opZero.tilA] 41 = zOp := rfl

set_option maxRecDepth 100000 in
set_option maxHeartbeats 1000000 in
theorem get_any (F : Nat → Prop) (bm : Nat) (M : QMaps) (p : QId) (k : ByteArray) (w : World) (hm : MapsIn w F bm M) :
    Calls Try.prog 18 #[.pointer (some ⟨bm, 0, none⟩), .agg #[.int .u64 p.c, .int .u64 p.k], .string k] w fun e w' => e = .returned (.tuple #[opV ((M.get p k).getD opZero), .bool (M.get p k).isSome]) ∧ Below w.heap.size w w' := by
  obtain ⟨L, hL, hF⟩ := hm
  obtain ⟨l, hl⟩ : ∃ l, opsAt M.ops p k = l := ⟨_, rfl⟩
  rw [show M.get p k = seen (bestOp M.hidden l) by rw [← hl]; rfl]
  obtain ⟨res, hre⟩ : ∃ res, seen (bestOp M.hidden l) = res := ⟨_, rfl⟩
  rw [hre]
  go_enter Try.func18, Try.ntmps18
  go_upto_region 3 with fail
  obtain ⟨W, hW⟩ : ∃ W, ((w.alloc (.cells #[.int .u64 p.c, .int .u64 p.k] 34)).alloc zOp).alloc zOp = W := ⟨_, rfl⟩
  have hB : Below w.heap.size w W := by subst hW; (repeat (first | exact Below.refl _ _ | assumption | refine Below.alloc ?_ (by simp <;> omega) _ | refine Below.drew ?_ | refine below_drewN ?_ _ | refine Below.setCell ?_ (by simp <;> omega) _ | refine belowTrans ?_ (by assumption)))
  have h0 : OpBox W (w.heap.size + 1) opZero := by subst hW; unfold OpBox zOp; (simp only [alloc_heap_if, World.size_alloc]; repeat (first | rw [if_pos rfl] | rw [if_pos trivial] | rw [if_pos (by omega)] | rw [if_neg (by omega)]))
  have h1 : OpBox W (w.heap.size + 1 + 1) opZero := by subst hW; unfold OpBox zOp; (simp only [alloc_heap_if, World.size_alloc]; repeat (first | rw [if_pos rfl] | rw [if_pos trivial] | rw [if_pos (by omega)] | rw [if_neg (by omega)]))
  have hc0 : W.cell? ⟨w.heap.size, 0, none⟩ = some (.int .u64 p.c) := by subst hW; unfold World.cell?; (simp only [alloc_heap_if, World.size_alloc]; repeat (first | rw [if_pos rfl] | rw [if_pos trivial] | rw [if_pos (by omega)] | rw [if_neg (by omega)])); rfl
  have hc1 : W.cell? ⟨w.heap.size, 1, none⟩ = some (.int .u64 p.k) := by subst hW; unfold World.cell?; (simp only [alloc_heap_if, World.size_alloc]; repeat (first | rw [if_pos rfl] | rw [if_pos trivial] | rw [if_pos (by omega)] | rw [if_neg (by omega)])); rfl
  change Code.wp _ _ _ _ (((w.alloc (.cells #[.int .u64 p.c, .int .u64 p.k] 34)).alloc zOp).alloc zOp)
  rw [hW]
  have hsz : W.heap.size = w.heap.size + 3 := by subst hW; simp
  clear hW
  have hL1 := hL.below hB
  have c0 : W.cell? ⟨bm, 1, none⟩ = some (.map (some L.inn)) := by simp [World.cell?, hL1.st]
  have hl1 : ∀ n, (Instr.lookup 66 (.map (some L.inn)) (.agg #[.int .u64 p.c, .int .u64 p.k]) false).run Try.prog (W.drewN n) = .ok (.map (innBlk L p)) (W.drewN n) :=
    fun n => look_inn (hL1.below (below_drewN (Below.refl _ _) n)) p
  have hl2 : ∀ n, (Instr.lookup 71 (.map (innBlk L p)) (.string k) false).run Try.prog (W.drewN n) = .ok (rowOf L M p k) (W.drewN n) :=
    fun n => look_key (hL1.below (below_drewN (Below.refl _ _) n)) p k
  have hrow := rowOf_slice hL1 p k
  rw [hl] at hrow
  have hshape : ∃ q n, rowOf L M p k = .slice q l.length n := by
    rcases hrow with ⟨h, h'⟩ | ⟨b, off, cap, h, _⟩
    · exact ⟨_, _, by rw [h, h']; rfl⟩
    · exact ⟨_, _, h⟩
  obtain ⟨q, ncap, hq⟩ := hshape
  rw [hq] at hl2 hrow
  go_quiet (fail)
  obtain ⟨W1, hW1⟩ : ∃ W1, W.drewN nq = W1 := ⟨_, rfl⟩
  have hB1 : Below W.heap.size W W1 := by rw [← hW1]; exact below_drewN (Below.refl _ _) nq
  rw [hW1]
  clear hW1
  have hz : zOp = zOp := rfl
  go_wp2_with fail
  have hB2 : Below w.heap.size w W1 := hB.trans (hB1.mono (by omega))
  have hS1 : w.heap.size + 3 ≤ W1.heap.size := by have := hB1.size; omega
  have g0 : OpBox W1 (w.heap.size + 1) opZero := (hB1.block _ (by omega)).trans h0
  have g1 : OpBox W1 (w.heap.size + 1 + 1) opZero := (hB1.block _ (by omega)).trans h1
  have hrow0 := rowOf_slice hL p k
  rw [hl, hq] at hrow0
  clear h0 h1 hc0 hc1 hB1 hB hl1 hl2 hrow c0
  clear hL1 hsz
  clear W
  go_loopw [9, 21] (fun t i wr => ∃ j : Nat, j ≤ l.length ∧ i = .int .i64 j ∧ t = .bool (bestOp M.hidden (l.take j)).isSome ∧ Below w.heap.size w wr ∧ w.heap.size + 3 ≤ wr.heap.size ∧ OpBox wr (w.heap.size + 1) opZero ∧ OpBox wr (w.heap.size + 1 + 1) ((bestOp M.hidden (l.take j)).getD opZero)) (fun _ i _ => l.length - (intOf i).toNat)
  case atStart => exact ⟨0, Nat.zero_le _, rfl, rfl, hB2, hS1, g0, g1⟩
  case round =>
    obtain ⟨j, hj, rfl, rfl, hb, hs, b0, b1⟩ := hrel
    by_cases hlt : j < l.length
    · obtain ⟨x, hx⟩ : ∃ x, l[j]? = some x := ⟨l[j], by simp [hlt]⟩
      have ht : l.take (j + 1) = l.take j ++ [x] := by rw [List.take_add_one, hx]; rfl
      obtain ⟨b, off, cap, rfl, hn, hbl, hcell⟩ : ∃ b off cap, q = some ⟨b, off, none⟩ ∧ l.length ≤ 9223372036854775807 ∧ b < w.heap.size ∧ OpCells w b (off + j * 22) x := by
        rcases hrow0 with ⟨_, h⟩ | ⟨b, off, cap, h, hn, hbl, hc⟩
        · rw [h] at hlt; simp at hlt
        · cases h; exact ⟨b, off, ncap, rfl, hn, hbl, hc j x hx⟩
      have hcw : OpCells wr b (off + j * 22) x := fun i y hi => (hb.cell (p := ⟨b, _, none⟩) hbl).trans (hcell i y hi)
      clear hcell
      have bz : OpBox (wr.alloc zOp) wr.heap.size opZero := OpBox.new _ _
      go_wp2_with (first | refine wpList_load_eq (T := 41) (v := opV x) rfl rfl rfl (load_op hcw) ?_ | refine wpList_store_eq (T := 41) (v := opV x) rfl rfl rfl rfl (OpBox.store bz x) ?_)
      have hL2 := hL.below hb
      have hB3 : Below w.heap.size w (putOp (wr.alloc zOp) wr.heap.size x) := below_putOp (hb.alloc (by omega) _) (by omega) _
      have hs3 : wr.heap.size + 1 ≤ (putOp (wr.alloc zOp) wr.heap.size x).heap.size := by simp
      have b0' : OpBox (putOp (wr.alloc zOp) wr.heap.size x) (w.heap.size + 1) opZero := (OpBox.below b0 ((Below.refl _ _).alloc (Nat.le_refl _) _) (by omega)).other _ (by omega)
      have b1' : OpBox (putOp (wr.alloc zOp) wr.heap.size x) (w.heap.size + 1 + 1) ((bestOp M.hidden (List.take j l)).getD opZero) := (OpBox.below b1 ((Below.refl _ _).alloc (Nat.le_refl _) _) (by omega)).other _ (by omega)
      have bx' : OpBox (putOp (wr.alloc zOp) wr.heap.size x) wr.heap.size x := bz.put x
      obtain ⟨B, hBeq⟩ : ∃ B, wr.heap.size = B := ⟨_, rfl⟩
      rw [hBeq] at hB3 hs3 b0' b1' bx' ⊢
      obtain ⟨W2, hW2⟩ : ∃ W2, putOp (wr.alloc zOp) B x = W2 := ⟨_, rfl⟩
      rw [hW2] at hB3 hs3 b0' b1' bx' ⊢
      clear hW2 bz b0 b1 hcw
      have hL3 := hL.below hB3
      obtain ⟨H, hH1, hH2⟩ := hL3.hid
      have hH3 := hH1.slice (k := 3) (enc := encRng) (fun _ => rfl)
      have d0 : ∀ s : BStep W2, s.val.cell? ⟨bm, 2, none⟩ = some L.hv := BStep.cell (hL3.foot_lt _ (.inl rfl)) (by simp [World.cell?, hL3.st])
      have d1 : ∀ s : BStep W2, s.val.cell? ⟨B, 0, none⟩ = some (.int .u64 x.id.c) := BStep.cell bx'.lt (bx'.cells 0 _ rfl)
      have d2 : ∀ s : BStep W2, s.val.cell? ⟨B, 1, none⟩ = some (.int .u64 x.id.k) := BStep.cell bx'.lt (bx'.cells 1 _ rfl)
      have l1 : ∀ w', (∃ s : BStep W2, w' = s.val) → (loadVar 41 ⟨w.heap.size + 1 + 1, 0, none⟩).run Try.prog w' = .ok (opV ((bestOp M.hidden (List.take j l)).getD opZero)) w' := by
        rintro _ ⟨s, rfl⟩; exact (b1'.below s.h b1'.lt).load
      have l2 : ∀ w', (∃ s : BStep W2, w' = s.val) → (loadVar 41 ⟨B, 0, none⟩).run Try.prog w' = .ok (opV x) w' := by
        rintro _ ⟨s, rfl⟩; exact (bx'.below s.h bx'.lt).load
      have cHas : ∀ s : BStep W2, Calls Try.prog 35 #[L.hv, .agg #[.int .u64 x.id.c, .int .u64 x.id.k]] s.val fun e w' => e = .returned (.bool (hasRngs M.hidden x.id)) ∧ Below s.val.heap.size s.val w' := fun s => by
        rw [← hH2]; exact idsHas_any x.id L.hv H s.val (hH3.below s.h)
      have hnext : bestOp M.hidden (l.take (j + 1)) = pickOp M.hidden (bestOp M.hidden (l.take j)) x := by
        rw [ht]; simp [bestOp]
      go_frame
      rcases hbest : bestOp M.hidden (l.take j) with _ | y
      · rw [hbest] at hnext b1' l1
        simp only [Option.isSome_none, Option.getD_none] at b1' l1 ⊢
        cases hh : hasRngs M.hidden x.id
        · rw [hh] at cHas
          refine wp_region_b (by kernel_rfl) (by kernel_rfl) ?_
          repeat (first | go_big_quiet_skip | (go_big_quiet_want; first | (refine quiet_load 41 _ ⟨w.heap.size + 1 + 1, 0, none⟩ rfl rfl l1 ?_; go_frame; go_big_quiet_on) | (refine quiet_load 41 _ ⟨B, 0, none⟩ rfl rfl l2 ?_; go_frame; go_big_quiet_on) | (go_big_quiet_op; first | go_big_quiet_on | go_big_quiet_call ((go_at_call 35; exact callsB (cHas _))))))
          refine wpQuiet_nil ?_
          intro Wq hCq
          have hWq := BStep.of hCq
          go_wp2_with (first | refine wpList_load_eq (T := 41) (v := opV x) rfl rfl rfl (l2 _ hCq) ?_ | refine wpList_store_eq (T := 41) (v := opV x) rfl rfl rfl rfl (OpBox.store (b1'.below hWq b1'.lt) x) ?_)
          go_roundw
          case rel => exact ⟨j + 1, by omega, by go_num, by rw [hnext]; simp [pickOp, hh], below_putOp (belowTrans hB3 hWq) (by omega) _, by rw [putOp_size]; have := hWq.size; omega, (b0'.below hWq b0'.lt).other _ (by omega), by rw [hnext]; simpa [pickOp, hh] using (b1'.below hWq b1'.lt).put x⟩
          case measure => simp [intOf]; omega
        · rw [hh] at cHas
          refine wp_region_b (by kernel_rfl) (by kernel_rfl) ?_
          repeat (first | go_big_quiet_skip | (go_big_quiet_want; first | (refine quiet_load 41 _ ⟨w.heap.size + 1 + 1, 0, none⟩ rfl rfl l1 ?_; go_frame; go_big_quiet_on) | (refine quiet_load 41 _ ⟨B, 0, none⟩ rfl rfl l2 ?_; go_frame; go_big_quiet_on) | (go_big_quiet_op; first | go_big_quiet_on | go_big_quiet_call ((go_at_call 35; exact callsB (cHas _))))))
          refine wpQuiet_nil ?_
          intro Wq hCq
          have hWq := BStep.of hCq
          go_wp2_with fail
          go_roundw
          case rel => exact ⟨j + 1, by omega, by go_num, by rw [hnext]; simp [pickOp, hh], belowTrans hB3 hWq, by have := hWq.size; omega, b0'.below hWq b0'.lt, by rw [hnext]; simpa [pickOp, hh] using (b1'.below hWq b1'.lt)⟩
          case measure => simp [intOf]; omega
      · rw [hbest] at hnext b1' l1
        simp only [Option.isSome_some, Option.getD_some] at b1' l1 ⊢
        cases hh : hasRngs M.hidden x.id
        · rw [hh] at cHas
          have cLess := fun W => marksLess_any y x W
          cases hls : y.lessB x
          · rw [hls] at cLess
            refine wp_region_b (by kernel_rfl) (by kernel_rfl) ?_
            repeat (first | go_big_quiet_skip | (go_big_quiet_want; first | (refine quiet_load 41 _ ⟨w.heap.size + 1 + 1, 0, none⟩ rfl rfl l1 ?_; go_frame; go_big_quiet_on) | (refine quiet_load 41 _ ⟨B, 0, none⟩ rfl rfl l2 ?_; go_frame; go_big_quiet_on) | (go_big_quiet_op; first | go_big_quiet_on | go_big_quiet_call (first | (go_at_call 35; exact callsB (cHas _)) | (go_at_call 36; exact callsB (cLess _))))))
            refine wpQuiet_nil ?_
            intro Wq hCq
            have hWq := BStep.of hCq
            go_wp2_with fail
            go_roundw
            case rel => exact ⟨j + 1, by omega, by go_num, by rw [hnext]; simp [pickOp, hh, hls], belowTrans hB3 hWq, by have := hWq.size; omega, b0'.below hWq b0'.lt, by rw [hnext]; simpa [pickOp, hh, hls] using (b1'.below hWq b1'.lt)⟩
            case measure => simp [intOf]; omega
          · rw [hls] at cLess
            refine wp_region_b (by kernel_rfl) (by kernel_rfl) ?_
            repeat (first | go_big_quiet_skip | (go_big_quiet_want; first | (refine quiet_load 41 _ ⟨w.heap.size + 1 + 1, 0, none⟩ rfl rfl l1 ?_; go_frame; go_big_quiet_on) | (refine quiet_load 41 _ ⟨B, 0, none⟩ rfl rfl l2 ?_; go_frame; go_big_quiet_on) | (go_big_quiet_op; first | go_big_quiet_on | go_big_quiet_call (first | (go_at_call 35; exact callsB (cHas _)) | (go_at_call 36; exact callsB (cLess _))))))
            refine wpQuiet_nil ?_
            intro Wq hCq
            have hWq := BStep.of hCq
            go_wp2_with (first | refine wpList_load_eq (T := 41) (v := opV x) rfl rfl rfl (l2 _ hCq) ?_ | refine wpList_store_eq (T := 41) (v := opV x) rfl rfl rfl rfl (OpBox.store (b1'.below hWq b1'.lt) x) ?_)
            go_roundw
            case rel => exact ⟨j + 1, by omega, by go_num, by rw [hnext]; simp [pickOp, hh, hls], below_putOp (belowTrans hB3 hWq) (by omega) _, by rw [putOp_size]; have := hWq.size; omega, (b0'.below hWq b0'.lt).other _ (by omega), by rw [hnext]; simpa [pickOp, hh, hls] using (b1'.below hWq b1'.lt).put x⟩
            case measure => simp [intOf]; omega
        · rw [hh] at cHas
          refine wp_region_b (by kernel_rfl) (by kernel_rfl) ?_
          repeat (first | go_big_quiet_skip | (go_big_quiet_want; first | (refine quiet_load 41 _ ⟨w.heap.size + 1 + 1, 0, none⟩ rfl rfl l1 ?_; go_frame; go_big_quiet_on) | (refine quiet_load 41 _ ⟨B, 0, none⟩ rfl rfl l2 ?_; go_frame; go_big_quiet_on) | (go_big_quiet_op; first | go_big_quiet_on | go_big_quiet_call ((go_at_call 35; exact callsB (cHas _))))))
          refine wpQuiet_nil ?_
          intro Wq hCq
          have hWq := BStep.of hCq
          go_wp2_with fail
          go_roundw
          case rel => exact ⟨j + 1, by omega, by go_num, by rw [hnext]; simp [pickOp, hh], belowTrans hB3 hWq, by have := hWq.size; omega, b0'.below hWq b0'.lt, by rw [hnext]; simpa [pickOp, hh] using (b1'.below hWq b1'.lt)⟩
          case measure => simp [intOf]; omega
    · have hje : j = l.length := by omega
      subst hje
      rw [List.take_length] at b1 ⊢
      have hlt2 : ¬ ((l.length : Int) < l.length) := by omega
      rcases hbest : bestOp M.hidden l with _ | y
      · rw [hbest] at b1
        simp only [Option.isSome_none, Option.getD_none] at b1 ⊢
        go_wp2_with (refine wpList_store_eq (T := 41) (v := opV opZero) rfl rfl rfl rfl (OpBox.store b0 opZero) ?_)
        have hres := (b0.put opZero).load
        refine bodyPost_ret (v := .tuple #[opV opZero, .bool false]) ?_ rfl ⟨by rw [← hre, hbest]; rfl, below_putOp hb (by omega) _⟩
        simp [results, Try.results18, asAddr, hres]
      · rw [hbest] at b1
        simp only [Option.isSome_some, Option.getD_some] at b1 ⊢
        have ck : wr.cell? ⟨w.heap.size + 1 + 1, 9, none⟩ = some (.int .i64 y.v.kind) := b1.cells 9 _ rfl
        cases hk : (y.v.kind == 0)
        · have hse : seen (some y) = some y := by simp at hk; simp [seen, hk]
          go_wp2_with (first | refine wpList_load_eq (T := 41) (v := opV y) rfl rfl rfl b1.load ?_ | refine wpList_store_eq (T := 41) (v := opV y) rfl rfl rfl rfl (OpBox.store b0 y) ?_)
          have hres := (b0.put y).load
          refine bodyPost_ret (v := .tuple #[opV y, .bool true]) ?_ rfl ⟨by rw [← hre, hbest, hse]; rfl, below_putOp hb (by omega) _⟩
          simp [results, Try.results18, asAddr, hres]
        · have hse : seen (some y) = none := by simp at hk; simp [seen, hk]
          go_wp2_with (refine wpList_store_eq (T := 41) (v := opV opZero) rfl rfl rfl rfl (OpBox.store b0 opZero) ?_)
          have hres := (b0.put opZero).load
          refine bodyPost_ret (v := .tuple #[opV opZero, .bool false]) ?_ rfl ⟨by rw [← hre, hbest, hse]; rfl, below_putOp hb (by omega) _⟩
          simp [results, Try.results18, asAddr, hres]
end Go.Proofs.Yteadongdlacgmaa
