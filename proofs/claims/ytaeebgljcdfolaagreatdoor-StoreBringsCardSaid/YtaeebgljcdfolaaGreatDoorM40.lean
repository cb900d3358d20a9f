/- Walks: the law's small functions (quirelaw10.text, cuts0, sameAll; quirehelp.Clocks). -/
import Derived.Test.YtaeebgljcdfolaaGreatDoorM39
import Derived.Test.YtaeebgljcdfolaaGreatDoorM28
import Derived.Test.YtaeebgljcdfolaaGreatDoorM30
namespace Go.Proofs.YtaeebgljcdfolaaGreatDoor
open Go.RowKit Go.Lib

def encU16 (n : Int) : List Value := [.int .u16 n]
set_option maxRecDepth 100000 in
set_option maxHeartbeats 1000000 in
theorem text10_one (c : Int) (t : ByteArray) (w : World) : Calls Tryz.prog 5 #[.int .u64 c, .int .u64 1, .string t] w fun e w' => e = .returned (opV (kOp c t)) ∧ Below w.heap.size w w' := by
  go_enter Tryz.func5, Tryz.ntmps5
  go_upto_region 1 with fail
  obtain ⟨W, hW⟩ : ∃ W, w.alloc (.cells (encOp opZero).toArray 35) = W := ⟨_, rfl⟩
  have hB : Below w.heap.size w W := by rw [← hW]; exact (Below.refl _ _).alloc (Nat.le_refl _) _
  have hbx : OpBox W w.heap.size opZero := by rw [← hW]; exact OpBox.new _ _
  change Code.wp _ _ _ _ (w.alloc (.cells (encOp opZero).toArray 35))
  rw [hW]
  clear hW
  go_upto_region 2 with (refine wpList_store_eq (T := 35) (v := opV (kOp c t)) rfl rfl rfl rfl (OpBox.store (OpBox.new W opZero) (kOp c t)) ?_)
  try go_frame
  have hX := hbx.lt
  have hb1 : OpBox (putOp (W.alloc (.cells (encOp opZero).toArray 35)) W.heap.size (kOp c t)) W.heap.size (kOp c t) := (OpBox.new W opZero).put (kOp c t)
  have hBc : Below W.heap.size W (putOp (W.alloc (.cells (encOp opZero).toArray 35)) W.heap.size (kOp c t)) := below_putOp ((Below.refl _ _).alloc (Nat.le_refl _) _) (Nat.le_refl _) _
  have hB1 := belowTrans hB hBc
  have hz1 : OpBox (putOp (W.alloc (.cells (encOp opZero).toArray 35)) W.heap.size (kOp c t)) w.heap.size opZero := hbx.below hBc hX
  obtain ⟨X, hXX⟩ : ∃ X, W.heap.size = X := ⟨_, rfl⟩
  obtain ⟨W1, hW1⟩ : ∃ W1, putOp (W.alloc (.cells (encOp opZero).toArray 35)) W.heap.size (kOp c t) = W1 := ⟨_, rfl⟩
  rw [hW1] at hB1 hz1 hb1
  rw [hXX] at hb1 hX
  rw [hW1, hXX]
  clear hW1 hXX hBc hbx hB
  clear W
  have hres := Lib.hid (hz1.put (kOp c t)).load
  go_wp2_with (first | (refine wpList_load_eq (T := 35) (v := opV (kOp c t)) rfl rfl rfl hb1.load ?_) | (refine wpList_store_eq (T := 35) (v := opV (kOp c t)) rfl rfl rfl rfl (OpBox.store hz1 (kOp c t)) ?_))
  refine bodyPost_ret (v := opV (kOp c t)) ?_ rfl ⟨rfl, below_putOp hB1 (Nat.le_refl _) _⟩
  have h9 := hres.out
  simp [results, Tryz.results5, asAddr, Act.put, h9]
set_option maxRecDepth 100000 in
set_option maxHeartbeats 1000000 in
theorem text10_pc (c k : Int) (t : ByteArray) (w : World) (hk : 1 < k) (hk2 : k ≤ 1000) : Calls Tryz.prog 5 #[.int .u64 c, .int .u64 k, .string t] w fun e w' => e = .returned (opV (tOp ⟨c, k⟩ ⟨c, k - 1⟩ idZero t)) ∧ Below w.heap.size w w' := by
  have hkd : decide ((1 : Int) < k) = true := by simp; omega
  go_enter Tryz.func5, Tryz.ntmps5
  go_upto_region 1 with fail
  obtain ⟨W, hW⟩ : ∃ W, w.alloc (.cells (encOp opZero).toArray 35) = W := ⟨_, rfl⟩
  have hB : Below w.heap.size w W := by rw [← hW]; exact (Below.refl _ _).alloc (Nat.le_refl _) _
  have hbx : OpBox W w.heap.size opZero := by rw [← hW]; exact OpBox.new _ _
  change Code.wp _ _ _ _ (w.alloc (.cells (encOp opZero).toArray 35))
  rw [hW]
  clear hW
  go_upto_region 2 with (refine wpList_store_eq (T := 35) (v := opV (tOp ⟨c, k⟩ idZero idZero t)) rfl rfl rfl rfl (OpBox.store (OpBox.new W opZero) (tOp ⟨c, k⟩ idZero idZero t)) ?_)
  try go_frame
  have hX := hbx.lt
  have hb1 : OpBox (putOp (W.alloc (.cells (encOp opZero).toArray 35)) W.heap.size (tOp ⟨c, k⟩ idZero idZero t)) W.heap.size (tOp ⟨c, k⟩ idZero idZero t) := (OpBox.new W opZero).put (tOp ⟨c, k⟩ idZero idZero t)
  have hBc : Below W.heap.size W (putOp (W.alloc (.cells (encOp opZero).toArray 35)) W.heap.size (tOp ⟨c, k⟩ idZero idZero t)) := below_putOp ((Below.refl _ _).alloc (Nat.le_refl _) _) (Nat.le_refl _) _
  have hB1 := belowTrans hB hBc
  have hz1 : OpBox (putOp (W.alloc (.cells (encOp opZero).toArray 35)) W.heap.size (tOp ⟨c, k⟩ idZero idZero t)) w.heap.size opZero := hbx.below hBc hX
  obtain ⟨X, hXX⟩ : ∃ X, W.heap.size = X := ⟨_, rfl⟩
  obtain ⟨W1, hW1⟩ : ∃ W1, putOp (W.alloc (.cells (encOp opZero).toArray 35)) W.heap.size (tOp ⟨c, k⟩ idZero idZero t) = W1 := ⟨_, rfl⟩
  rw [hW1] at hB1 hz1 hb1
  rw [hXX] at hb1 hX
  rw [hW1, hXX]
  clear hW1 hXX hBc hbx hB
  clear W
  have f4 := hb1.f 4
  have f5 := hb1.f 5
  have q4 : W1.cell? ⟨X, 4, none⟩ = some (.int .u64 0) := hb1.cells 4 _ rfl
  have q5 : W1.cell? ⟨X, 5, none⟩ = some (.int .u64 0) := hb1.cells 5 _ rfl
  go_upto_region 4 with fail
  have hb2 : OpBox ((W1.setCell ⟨X, 4, none⟩ (.int .u64 c)).setCell ⟨X, 5, none⟩ (.int .u64 (k - 1))) X (tOp ⟨c, k⟩ ⟨c, k - 1⟩ idZero t) := hb1.setL ⟨c, k - 1⟩
  have hB2 := (hB1.setCell (p := ⟨X, 4, none⟩) (show w.heap.size ≤ X by omega) (.int .u64 c)).setCell (p := ⟨X, 5, none⟩) (show w.heap.size ≤ X by omega) (.int .u64 (k - 1))
  have hz2 : OpBox ((W1.setCell ⟨X, 4, none⟩ (.int .u64 c)).setCell ⟨X, 5, none⟩ (.int .u64 (k - 1))) w.heap.size opZero := ((Below.heap_setCell _ _ _ _ (by show ¬ w.heap.size = X; omega)).trans (Below.heap_setCell _ _ _ _ (by show ¬ w.heap.size = X; omega))).trans hz1
  generalize (W1.setCell ⟨X, 4, none⟩ (.int .u64 c)).setCell ⟨X, 5, none⟩ (.int .u64 (k - 1)) = W2 at hb2 hB2 hz2 ⊢
  clear hb1 hB1 hz1 f4 f5 q4 q5
  clear W1
  have hb1 := hb2
  have hz1 := hz2
  have hB1 := hB2
  have hres := Lib.hid (hz1.put (tOp ⟨c, k⟩ ⟨c, k - 1⟩ idZero t)).load
  go_wp2_with (first | (refine wpList_load_eq (T := 35) (v := opV (tOp ⟨c, k⟩ ⟨c, k - 1⟩ idZero t)) rfl rfl rfl hb1.load ?_) | (refine wpList_store_eq (T := 35) (v := opV (tOp ⟨c, k⟩ ⟨c, k - 1⟩ idZero t)) rfl rfl rfl rfl (OpBox.store hz1 (tOp ⟨c, k⟩ ⟨c, k - 1⟩ idZero t)) ?_))
  refine bodyPost_ret (v := opV (tOp ⟨c, k⟩ ⟨c, k - 1⟩ idZero t)) ?_ rfl ⟨rfl, below_putOp hB1 (Nat.le_refl _) _⟩
  have h9 := hres.out
  simp [results, Tryz.results5, asAddr, Act.put, h9]
set_option maxRecDepth 100000 in
set_option maxHeartbeats 1000000 in
theorem cuts0_any (sv : Value) (l : List Int) (i : Nat) (w : World) (hl : SliceP 1 encU16 w sv l) (h0 : ∀ x ∈ l, 0 ≤ x ∧ x < 65536) :
    Calls Tryz.prog 11 #[sv, .int .i64 i] w fun e w' => e = .returned (.int .u16 (l.getD i 0 / 7)) ∧ w = w' := by
  obtain ⟨p, cap, rfl, hlen, hc⟩ := hl
  rcases Nat.lt_or_ge i l.length with h | h
  · obtain ⟨b, off, rfl, hb, hcc⟩ := hc i l[i] (by simp)
    have hx := h0 l[i] (by simp)
    have x0 : w.cell? ⟨b, off + i, none⟩ = some (.int .u16 l[i]) := by have := hcc 0 _ rfl; rwa [Nat.mul_one, Nat.add_zero] at this
    have hiz : (i : Int) < (l.length : Int) := by omega
    have hg : l.getD i 0 = l[i] := by simp [List.getD, h]
    rw [hg]
    generalize l[i] = x at x0 hx
    have hq : 0 ≤ x / 7 ∧ x / 7 < 65536 := by omega
    clear hc hcc hg
    go_enter Tryz.func11, Tryz.ntmps11
    go_wp2
    go_ret
    exact ⟨ret_int (by show IntKind.u16.wrap (x.tdiv 7) = x / 7; rw [Int.tdiv_eq_ediv_of_nonneg hx.1]; generalize x / 7 = y at hq ⊢; simp [IntKind.wrap, IntKind.signed, IntKind.bits]; omega), rfl⟩
  · have hiz : ¬ (i : Int) < (l.length : Int) := by omega
    have hg : l.getD i 0 = 0 := by simp [List.getD, h]
    rw [hg]
    clear hg hc
    go_enter Tryz.func11, Tryz.ntmps11
    go_wp2
    go_ret
    exact ⟨rfl, rfl⟩
set_option maxRecDepth 100000 in
set_option maxHeartbeats 1000000 in
theorem clocks_self (s1 s2 : Value) (l : List QId) (w : World) (h1 : SliceAt 2 encIdv w s1 l) (h2 : SliceAt 2 encIdv w s2 l) (hn : l.length ≤ 1000) :
    Calls Tryz.prog 19 #[s1, s2] w fun e w' => e = .returned (.bool true) ∧ Below w.heap.size w w' := by
  obtain ⟨p1, cap1, rfl⟩ : ∃ p cap, s1 = .slice p l.length cap := by
    rcases h1 with ⟨e, h⟩ | ⟨b, off, c, e, _⟩
    · subst h; exact ⟨none, 0, e⟩
    · exact ⟨_, _, e⟩
  obtain ⟨p2, cap2, rfl⟩ : ∃ p cap, s2 = .slice p l.length cap := by
    rcases h2 with ⟨e, h⟩ | ⟨b, off, c, e, _⟩
    · subst h; exact ⟨none, 0, e⟩
    · exact ⟨_, _, e⟩
  go_enter Tryz.func19, Tryz.ntmps19
  go_wp2
  go_loopw [5] (fun i wr => ∃ k : Nat, k ≤ l.length ∧ i = .int .i64 k ∧ Below w.heap.size w wr) (fun i _ => l.length - (intOf i).toNat)
  case atStart => exact ⟨0, Nat.zero_le _, rfl, Below.refl _ _⟩
  case round =>
    obtain ⟨k, hk, rfl, hb⟩ := hrel
    by_cases hlt : k < l.length
    · have hltz : (k : Int) < (l.length : Int) := by omega
      have hlr := h1.below hb
      have hls := h2.below hb
      obtain ⟨b, off, rfl⟩ : ∃ b off, p1 = some ⟨b, off, none⟩ := by
        rcases hlr with ⟨_, h⟩ | ⟨b0, off, _, h, _⟩
        · rw [h] at hlt; simp at hlt
        · cases h; exact ⟨_, _, rfl⟩
      obtain ⟨b', off', rfl⟩ : ∃ b off, p2 = some ⟨b, off, none⟩ := by
        rcases hls with ⟨_, h⟩ | ⟨b0, off, _, h, _⟩
        · rw [h] at hlt; simp at hlt
        · cases h; exact ⟨_, _, rfl⟩
      obtain ⟨hcc, hbl, x0, x1⟩ := clkCells hlr (k := k) (x := l[k]) (by simp)
      clear hcc
      obtain ⟨hcc, hbl', y0, y1⟩ := clkCells hls (k := k) (x := l[k]) (by simp)
      clear hcc
      generalize l[k] = x at x0 x1 y0 y1
      go_wp2_with fail
      go_quiet (fail)
      go_wp2_with fail
      go_roundw
      case rel => exact ⟨k + 1, by omega, by go_num, ⟨hb.os, hb.tape, hb.output, hb.size, hb.block⟩⟩
      case measure => simp [intOf]; omega
    · obtain rfl : k = l.length := by omega
      have hltz : ¬ (l.length : Int) < (l.length : Int) := by omega
      go_wp2_with fail
      go_ret
      exact ⟨rfl, hb⟩
set_option maxRecDepth 100000 in
set_option maxHeartbeats 2000000 in
theorem sameAll_self (s1 s2 : Value) (l : List QOp) (w : World) (h1 : SliceAt 22 encOp w s1 l) (h2 : SliceAt 22 encOp w s2 l) (ht : ∀ o ∈ l, ∃ i a b t, o = tOp i a b t) (hn : l.length ≤ 1000) :
    Calls Tryz.prog 15 #[s1, s2] w fun e w' => e = .returned (.bool true) ∧ Below w.heap.size w w' := by
  obtain ⟨p1, cap1, rfl⟩ : ∃ p cap, s1 = .slice p l.length cap := by
    rcases h1 with ⟨e, h⟩ | ⟨b, off, c, e, _⟩
    · subst h; exact ⟨none, 0, e⟩
    · exact ⟨_, _, e⟩
  obtain ⟨p2, cap2, rfl⟩ : ∃ p cap, s2 = .slice p l.length cap := by
    rcases h2 with ⟨e, h⟩ | ⟨b, off, c, e, _⟩
    · subst h; exact ⟨none, 0, e⟩
    · exact ⟨_, _, e⟩
  have H1 := Lib.hid h1
  have H2 := Lib.hid h2
  have HT := Lib.hid ht
  clear h1 h2 ht
  go_enter Tryz.func15, Tryz.ntmps15
  go_wp2
  go_loopw [5] (fun i wr => ∃ k : Nat, k ≤ l.length ∧ i = .int .i64 k ∧ Below w.heap.size w wr) (fun i _ => l.length - (intOf i).toNat)
  case atStart => exact ⟨0, Nat.zero_le _, rfl, Below.refl _ _⟩
  case round =>
    obtain ⟨k, hk, rfl, hb⟩ := hrel
    by_cases hlt : k < l.length
    · have hltz : (k : Int) < (l.length : Int) := by omega
      have hlr := H1.out.below hb
      have hls := H2.out.below hb
      obtain ⟨b, off, rfl⟩ : ∃ b off, p1 = some ⟨b, off, none⟩ := by
        rcases hlr with ⟨_, h⟩ | ⟨b0, off, _, h, _⟩
        · rw [h] at hlt; simp at hlt
        · cases h; exact ⟨_, _, rfl⟩
      obtain ⟨b', off', rfl⟩ : ∃ b off, p2 = some ⟨b, off, none⟩ := by
        rcases hls with ⟨_, h⟩ | ⟨b0, off, _, h, _⟩
        · rw [h] at hlt; simp at hlt
        · cases h; exact ⟨_, _, rfl⟩
      obtain ⟨hcc, hbl, hox⟩ := opCells hlr (k := k) (x := l[k]) (by simp)
      clear hcc
      obtain ⟨hcc, hbl', hoy⟩ := opCells hls (k := k) (x := l[k]) (by simp)
      clear hcc hlr hls
      obtain ⟨i, a, c, t, ho⟩ := HT.out l[k] (by simp)
      rw [ho] at hox hoy
      clear ho
      have hsm := fun w => same8_t i a c t w
      generalize tOp i a c t = O at hox hoy hsm
      have l1 : ∀ w', (∃ s : BStep wr, w' = s.val) → (loadVar 35 ⟨b, off + k * 22, none⟩).run Tryz.prog w' = .ok (opV O) w' := by
        rintro _ ⟨s, rfl⟩
        exact load_op (hox.below s.h hbl)
      have l2 : ∀ w', (∃ s : BStep wr, w' = s.val) → (loadVar 35 ⟨b', off' + k * 22, none⟩).run Tryz.prog w' = .ok (opV O) w' := by
        rintro _ ⟨s, rfl⟩
        exact load_op (hoy.below s.h hbl')
      go_wp2_with fail
      refine wp_region_b (by kernel_rfl) (by kernel_rfl) ?_
      repeat (first | go_big_quiet_skip | (go_big_quiet_want; first | ((first | refine quiet_load 35 _ _ rfl rfl l1 ?_ | refine quiet_load 35 _ _ rfl rfl l2 ?_); go_frame; go_big_quiet_on) | (go_big_quiet_op; first | go_big_quiet_on | go_big_quiet_call ((go_at_call 43; exact callsB (hsm _))))))
      refine wpQuiet_nil ?_
      intro W' hC'
      have hBW' := BStep.of hC'
      clear l1 l2 hsm hox hoy
      go_wp2_with fail
      go_roundw
      case rel => exact ⟨k + 1, by omega, by go_num, belowTrans hb hBW'⟩
      case measure => simp [intOf]; omega
    · obtain rfl : k = l.length := by omega
      have hltz : ¬ (l.length : Int) < (l.length : Int) := by omega
      go_wp2_with fail
      go_ret
      exact ⟨rfl, hb⟩
end Go.Proofs.YtaeebgljcdfolaaGreatDoor
