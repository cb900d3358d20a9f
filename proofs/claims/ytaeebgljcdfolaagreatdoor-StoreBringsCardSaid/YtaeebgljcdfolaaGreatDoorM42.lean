/- Walk: ops.Join of right texts, one a client, in order. -/
import Derived.Test.YtaeebgljcdfolaaGreatDoorM41
namespace Go.Proofs.YtaeebgljcdfolaaGreatDoor
open Go.RowKit Go.Lib

theorem cloneOp_any (sv : Value) (l : List QOp) (w : World) (hl : SliceAt 22 encOp w sv l) (hn : l.length ≤ 100000) :
    Calls Tryz.prog 74 #[sv] w (RetW fun v w' => OwnAt w.heap.size 35 22 encOp w' v l ∧ Below w.heap.size w w') := by
  obtain ⟨i0, hi, hz0, hz1, hz2⟩ := info_parts infoOp
  rcases hl with ⟨rfl, rfl⟩ | ⟨b, off, cap, rfl, hln, hb, hc⟩
  · refine (AnyE.slices_Clone_nil Tryz.cloneOp 0 0 w).mono ?_
    rintro e w' ⟨rfl, rfl⟩
    exact ⟨_, rfl, OwnAt.nil, Below.refl _ _⟩
  · refine (AnyE.slices_Clone Tryz.cloneOp i0 (opV opZero) 22 200 hi hz0 hz1 hz2 rfl (by decide) (fun w => by kernel_rfl) b off l.length cap (l.flatMap encOp) w (flat_length (enc := encOp) (k := 22) (fun _ => rfl) l) (by unfold maxLen; omega) (by omega) ?_ ?_).mono ?_
    · intro t u ht
      have htl : t < l.length * 22 := by
        have := (List.getElem?_eq_some_iff.1 ht).1
        rwa [flat_length (enc := encOp) (k := 22) (fun _ => rfl)] at this
      have h1 := flat_get (enc := encOp) (k := 22) (fun _ => rfl) l (t / 22) (t % 22) l[t / 22] (by simp [show t / 22 < l.length by omega]) (Nat.mod_lt _ (by omega))
      rw [show t / 22 * 22 + t % 22 = t by omega, ht] at h1
      have h2 := hc (t / 22) l[t / 22] (by simp [show t / 22 < l.length by omega]) (t % 22) u h1.symm
      rwa [show off + t / 22 * 22 + t % 22 = off + t by omega] at h2
    · intro u hu
      obtain ⟨x, _, hx⟩ := List.mem_flatMap.1 hu
      simp [encOp] at hx
      rcases hx with h | h | h | h | h | h | h | h | h | h | h | h | h | h | h | h | h | h | h | h | h | h <;> (subst h; rfl)
    · rintro e w' ⟨v, rfl, ho, _, hb⟩
      exact ⟨v, rfl, ho, hb⟩
set_option maxRecDepth 100000 in
set_option maxHeartbeats 8000000 in
theorem opsJoin_any (sv : Value) (l : List QOp) (w : World) (hl : SliceAt 22 encOp w sv l) (hj : JoinL l) (hn : l.length ≤ 19) (hT : Tabs w) :
    Calls Tryz.prog 49 #[sv] w (RetW fun v w' => OwnAt w.heap.size 35 22 encOp w' v l ∧ Below w.heap.size w w') := by
  have hcl := cloneOp_any sv l w hl (by omega)
  have HJ := Lib.hid hj
  clear hj hl
  go_enter Tryz.func49, Tryz.ntmps49
  go_upto_region 2 with (first | (go_at_call 74; refine hcl.mono ?_; rintro e w1 ⟨v1, rfl, ho1, hb1⟩; obtain ⟨p, cap, rfl⟩ := ownsRow_len ho1) | (go_at_call 73; refine (deleteNone_any p cap l w1 (OwnAt.slice (k := 22) (enc := encOp) (fun _ => rfl) ho1) HJ.out (by omega) (hT.below hb1)).mono ?_; rintro e w2 ⟨rfl, hb2⟩))
  have hl2 := (OwnAt.slice (k := 22) (enc := encOp) (fun _ => rfl) ho1).below hb2
  have hB2 := belowTrans hb1 hb2
  clear hcl ho1 hb1 hb2
  have hso := sortStableOp_any p cap l w2 hl2 HJ.out.ord hn
  go_upto_region 3 with (go_at_call 76; refine hso.mono ?_; rintro e w3 ⟨rfl, hb3⟩)
  have hl3 := hl2.below hb3
  have hB3 := belowTrans hB2 hb3
  clear hso hl2 hB2 hb3
  have hco := compact_any p cap l w3 hl3 HJ.out.ord (by omega)
  go_upto_region 5 with (go_at_call 78; refine hco.mono ?_; rintro e w4 ⟨rfl, hb4⟩)
  have hl4 := hl3.below hb4
  have hB4 := belowTrans hB3 hb4
  clear hco hl3 hB3 hb4
  obtain ⟨S, hS⟩ : ∃ S, w4.heap.size = S := ⟨_, rfl⟩
  have HS := Lib.hid hS
  have hwS : w.heap.size ≤ S := by have := hB4.size; omega
  clear hS
  go_wp2_with fail
  go_loopw [4, 5] (fun o i wr => ∃ k : Nat, k ≤ l.length ∧ i = .int .i64 k ∧ OwnAt S 35 22 encOp wr o (l.take k) ∧ Below S w4 wr) (fun _ i _ => l.length - (intOf i).toNat)
  case atStart => exact ⟨0, Nat.zero_le _, rfl, OwnAt.nil, Below.refl _ _⟩
  case round =>
    obtain ⟨k, hk, rfl, ho, hb⟩ := hrel
    by_cases hlt : k < l.length
    · have hltz : (k : Int) < (l.length : Int) := by omega
      have hlr : SliceAt 22 encOp wr (.slice p l.length cap) l := hl4.keep (by have := hb.size; omega) fun b off n c e hlt => hb.block b (by rw [← HS.out]; exact hlt)
      obtain ⟨b, off, rfl⟩ : ∃ b off, p = some ⟨b, off, none⟩ := by
        rcases hlr with ⟨_, h⟩ | ⟨b0, off, _, h, _⟩
        · rw [h] at hlt; simp at hlt
        · cases h; exact ⟨_, _, rfl⟩
      obtain ⟨hcc, hbl, hoc⟩ := opCells hlr (k := k) (x := l[k]) (by simp)
      clear hcc
      have hto := HJ.out.ok l[k] (by simp)
      have hstep : l.take (k + 1) = l.take k ++ [l[k]] := List.take_succ_eq_append_getElem hlt
      have HST := Lib.hid hstep
      have htl : (l.take k).length ≤ 19 := by rw [List.length_take]; omega
      have hnx : ∀ h : k + 1 < l.length, ∃ q, l[k + 1]? = some q ∧ OpCells wr b (off + (k + 1) * 22) q ∧ TextO q ∧ l[k].id.c < q.id.c := fun h => ⟨l[k + 1], by simp, (opCells hlr (k := k + 1) (x := l[k + 1]) (by simp)).2.2, HJ.out.ok _ (by simp), List.pairwise_iff_getElem.1 HJ.out.ord k (k + 1) hlt h (by omega)⟩
      have HNX := Lib.hid hnx
      clear hstep hnx hlr
      generalize l[k] = x at hoc hto HST HNX
      generalize l.take k = out at ho HST htl
      obtain ⟨ii, ll, rr, t, hx, hg, hs⟩ := hto
      have hx8 : wr.cell? ⟨b, off + k * 22 + 8, none⟩ = some (.string t) := hoc 8 _ (by rw [hx]; rfl)
      have hS1w : S ≤ wr.heap.size := by have := hb.size; have := HS.out; omega
      have HX := Lib.hid hx
      clear hx
      have hg1 : 1 ≤ ii.k := by have := hg.id; simp [QId.rightB, numB] at this; omega
      have hg2 : ii.k + (runesB t).length < 18446744073709551616 := by have := hg.fits; omega
      have HG := Lib.hid hg
      clear hg
      go_wp2_with fail
      have hBa : Below S w4 (wr.alloc (.cells #[.string t] 9)) := hb.alloc hS1w _
      have hoa : OwnAt S 35 22 encOp (wr.alloc (.cells #[.string t] 9)) u4 out := World.ownsRow.alloc ho _
      have hta : (wr.alloc (.cells #[.string t] 9)).cell? ⟨wr.heap.size, 0, none⟩ = some (.string t) := by go_simp
      have htl' : wr.heap.size < (wr.alloc (.cells #[.string t] 9)).heap.size := by simp
      have hoca : OpCells (wr.alloc (.cells #[.string t] 9)) b (off + k * 22) x := hoc.below ((Below.refl _ _).alloc (Nat.le_refl _) _) hbl
      have hnxa : Hid (∀ h : k + 1 < l.length, ∃ q, l[k + 1]? = some q ∧ OpCells (wr.alloc (.cells #[.string t] 9)) b (off + (k + 1) * 22) q ∧ TextO q ∧ x.id.c < q.id.c) := Lib.hid fun h => by
        obtain ⟨q, h1, h2, h3, h4⟩ := HNX.out h
        exact ⟨q, h1, h2.below ((Below.refl _ _).alloc (Nat.le_refl _) _) hbl, h3, h4⟩
      obtain ⟨T, hTT⟩ : ∃ T, wr.heap.size = T := ⟨_, rfl⟩
      have hbla : b < (wr.alloc (.cells #[.string t] 9)).heap.size := by simp; omega
      obtain ⟨W, hW⟩ : ∃ W, wr.alloc (.cells #[.string t] 9) = W := ⟨_, rfl⟩
      rw [hW] at hBa hoa hoca hnxa hbla
      rw [hW, hTT] at hta htl'
      rw [hW, hTT]
      clear hW hTT ho hb hoc hx8 HNX hS1w
      have hSW : S ≤ W.heap.size := by have := hBa.size; have := HS.out; omega
      go_loopw [6, 7] (fun j s wx => j = .int .i64 ((k : Int) + 1) ∧ s = .slice (some ⟨T, 0, none⟩) 1 1 ∧ Below W.heap.size W wx) (fun _ _ _ => 0)
      case atStart => exact ⟨rfl, rfl, Below.refl _ _⟩
      case round =>
        obtain ⟨rfl, rfl, hbx⟩ := hrel
        have hocx := hoca.below hbx hbla
        have hox : OwnAt S 35 22 encOp wr u4 out := ownsRow_blk hoa fun b e => hbx.block b (ownsRow_lt hoa b e)
        have hBx : Below S w4 wr := hBa.trans (hbx.mono hSW)
        have htx := (hbx.cell (p := ⟨T, 0, none⟩) htl').trans hta
        have htlx := Nat.lt_of_lt_of_le htl' hbx.size
        have hblx := Nat.lt_of_lt_of_le hbla hbx.size
        have hSx : S ≤ wr.heap.size := Nat.le_trans hSW hbx.size
        have hk0 : (0 : Int) ≤ (k : Int) := by omega
        rcases Nat.lt_or_ge (k + 1) l.length with hnl | hnl
        · obtain ⟨q, _, hqc, ⟨jj, mm, ss, u, hq, _, _⟩, hcc⟩ := hnxa.out hnl
          have hqx := hqc.below hbx hbla
          have HQ := Lib.hid hq
          clear hqc hq
          have hfo : ∀ w, Tabs w → Calls Tryz.prog 66 #[opV x, opV q] w fun e w' => e = .returned (.bool false) ∧ Below w.heap.size w w' := fun w hT => by
            rw [HX.out, HQ.out]
            refine follows_no ii ll rr jj mm ss t u w (by omega) hg1 hg2 ?_ hT
            rw [HX.out, HQ.out] at hcc
            show ii.c ≠ jj.c
            have : ii.c < jj.c := hcc
            omega
          have hTx : ∀ s : BStep wr, Tabs s.val := fun s => ((hT.below hB4).below ⟨hBx.os, hBx.tape, hBx.output, by rw [HS.out]; exact hSx, fun b hb => hBx.block b (by rw [← HS.out]; exact hb)⟩).below s.h
          have l1 : ∀ w', (∃ s : BStep wr, w' = s.val) → (loadVar 35 ⟨b, off + k * 22, none⟩).run Tryz.prog w' = .ok (opV x) w' := by
            rintro _ ⟨s, rfl⟩
            exact load_op (hocx.below s.h hblx)
          have l2 : ∀ w', (∃ s : BStep wr, w' = s.val) → (loadVar 35 ⟨b, off + (k + 1) * 22, none⟩).run Tryz.prog w' = .ok (opV q) w' := by
            rintro _ ⟨s, rfl⟩
            exact load_op (hqx.below s.h hblx)
          have hnz : (k : Int) + 1 < (l.length : Int) := by omega
          go_wp2_with fail
          refine wp_region_b (by kernel_rfl) (by kernel_rfl) ?_
          repeat (first | go_big_quiet_skip | (go_big_quiet_want; first | ((first | refine quiet_load 35 _ _ rfl rfl l1 ?_ | refine quiet_load 35 _ _ rfl rfl l2 ?_); go_frame; go_big_quiet_on) | (go_big_quiet_op; first | go_big_quiet_on | go_big_quiet_call ((go_at_call 66; exact callsB (hfo _ (hTx _)))))))
          refine wpQuiet_nil ?_
          intro W' hC'
          have hBW' := BStep.of hC'
          clear l1 l2 hTx hfo hqx hcc
          have hBn := hBx.trans (hBW'.mono hSx)
          have hon : OwnAt S 35 22 encOp W' u4 out := ownsRow_blk hox fun b e => hBW'.block b (ownsRow_lt hox b e)
          have hocn := hocx.below hBW' hblx
          have htn := (hBW'.cell (p := ⟨T, 0, none⟩) htlx).trans htx
          have htln := Nat.lt_of_lt_of_le htlx hBW'.size
          have hSn : S ≤ W'.heap.size := Nat.le_trans hSx hBW'.size
          have hpc := pieces_any S u4 out ii ll rr t T W' hon HG.out hs (by omega) hSn htln htn
          rw [← HX.out] at hpc
          clear hC' hBW' hBx hox hocx htx htlx hblx hSx
          go_wp2_with (first | (refine wpList_load_eq (T := 35) (v := opV x) rfl rfl rfl (load_op hocn) ?_) | (go_at_call 80; refine hpc.mono ?_; rintro e w9 ⟨v9, rfl, ho9, hb9⟩))
          have hB9 := hBn.trans hb9
          go_roundw
          case rel => exact ⟨k + 1, by omega, by go_num, by rw [HST.out]; exact ho9, hB9⟩
          case measure => simp [intOf]; omega
        · have hnz : ¬ (k : Int) + 1 < (l.length : Int) := by omega
          have hnd : decide ((k : Int) + 1 < (l.length : Int)) = false := by simpa using hnz
          go_wp2_with fail
          refine wp_region_b (by kernel_rfl) (by kernel_rfl) ?_
          repeat (first | go_big_quiet_skip | (go_big_quiet_want; first | (fail; go_frame; go_big_quiet_on) | (go_big_quiet_op; first | go_big_quiet_on | go_big_quiet_call (fail))))
          refine wpQuiet_nil ?_
          intro W' hC'
          have hBW' := BStep.of hC'
          have hBn := hBx.trans (hBW'.mono hSx)
          have hon : OwnAt S 35 22 encOp W' u4 out := ownsRow_blk hox fun b e => hBW'.block b (ownsRow_lt hox b e)
          have hocn := hocx.below hBW' hblx
          have htn := (hBW'.cell (p := ⟨T, 0, none⟩) htlx).trans htx
          have htln := Nat.lt_of_lt_of_le htlx hBW'.size
          have hSn : S ≤ W'.heap.size := Nat.le_trans hSx hBW'.size
          have hpc := pieces_any S u4 out ii ll rr t T W' hon HG.out hs (by omega) hSn htln htn
          rw [← HX.out] at hpc
          clear hC' hBW' hBx hox hocx htx htlx hblx hSx
          go_wp2_with (first | (refine wpList_load_eq (T := 35) (v := opV x) rfl rfl rfl (load_op hocn) ?_) | (go_at_call 80; refine hpc.mono ?_; rintro e w9 ⟨v9, rfl, ho9, hb9⟩))
          have hB9 := hBn.trans hb9
          go_roundw
          case rel => exact ⟨k + 1, by omega, by go_num, by rw [HST.out]; exact ho9, hB9⟩
          case measure => simp [intOf]; omega
    · obtain rfl : k = l.length := by omega
      have hltz : ¬ (l.length : Int) < (l.length : Int) := by omega
      rw [List.take_length] at ho
      have hbn : Below w.heap.size w wr := hB4.trans (hb.mono hwS)
      go_wp2_with fail
      go_ret
      exact ⟨_, rfl, ownsRow_base ho hwS, hbn⟩
end Go.Proofs.YtaeebgljcdfolaaGreatDoor
