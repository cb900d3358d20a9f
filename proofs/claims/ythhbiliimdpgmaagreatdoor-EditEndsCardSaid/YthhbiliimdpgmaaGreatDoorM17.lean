/- Walks: vector.by, Clean of clocks that are clean already. -/
import Derived.Test.YthhbiliimdpgmaaGreatDoorM11
import Derived.Test.YthhbiliimdpgmaaGreatDoorM06
import Derived.Test.YthhbiliimdpgmaaGreatDoorM08
import Derived.RegionTactic
import Derived.ChangeAlike
import Derived.Test.YthhbiliimdpgmaaGreatDoorM16
import Derived.Maps.RangeWalk
namespace Go.Proofs.YthhbiliimdpgmaaGreatDoor
open Go.RowKit Go.Lib

theorem infoClk : (Tryz.prog.info? 78).map (fun i => (i.zero, i.size, i.bytes)) = some (some (.agg #[.int .u64 idZero.c, .int .u64 idZero.k]), 2, 16) := by kernel_rfl
/-- clocks as Clean tells them. -/
structure CleanClk (l : List QId) : Prop where
  ok : ∀ x ∈ l, 1 ≤ x.c ∧ x.c ≤ 9007199254740991 ∧ 1 ≤ x.k ∧ x.k ≤ 9007199254740991
  ord : l.Pairwise fun x y => x.c < y.c
set_option maxHeartbeats 400000 in
theorem cleanKey_any (x : QId) (w : World) : Calls Tryz.prog 54 #[.agg #[.int .u64 x.c, .int .u64 x.k]] w fun e w' => e = .returned (.int .u64 x.c) ∧ Below w.heap.size w w' := by
  go_enter Tryz.func54, Tryz.ntmps54
  go_wp2
  go_ret
  exact ⟨rfl, by (repeat (first | exact Below.refl _ _ | assumption | refine Below.alloc ?_ (by simp <;> omega) _ | refine Below.drew ?_ | refine below_drewN ?_ _ | refine Below.setCell ?_ (by simp <;> omega) _ | refine belowTrans ?_ (by assumption)))⟩
set_option maxHeartbeats 1000000 in
theorem byCmp_any (kb : Nat) (x y : QId) (w : World) (hk : w.cell? ⟨kb, 0, none⟩ = some (.func (.func 54) #[] #[])) (hkb : kb < w.heap.size) :
    Calls Tryz.prog 102 #[.agg #[.int .u64 x.c, .int .u64 x.k], .agg #[.int .u64 y.c, .int .u64 y.k], .pointer (some ⟨kb, 0, none⟩)] w fun e w' => e = .returned (.int .i64 (cmpU x.c y.c)) ∧ Below w.heap.size w w' := by
  have hkx := cleanKey_any x
  have hky := cleanKey_any y
  have hcmp := cmpU_any x.c y.c
  go_enter Tryz.func102, Tryz.ntmps102
  go_upto_region 1 with fail
  have hB : Below w.heap.size w ((w.alloc (.cells #[.int .u64 x.c, .int .u64 x.k] 78)).alloc (.cells #[.int .u64 y.c, .int .u64 y.k] 78)) := ((Below.refl _ _).alloc (Nat.le_refl _) _).alloc (by simp) _
  have c0 : ((w.alloc (.cells #[.int .u64 x.c, .int .u64 x.k] 78)).alloc (.cells #[.int .u64 y.c, .int .u64 y.k] 78)).cell? ⟨w.heap.size, 0, none⟩ = some (.int .u64 x.c) := by go_simp
  have c1 : ((w.alloc (.cells #[.int .u64 x.c, .int .u64 x.k] 78)).alloc (.cells #[.int .u64 y.c, .int .u64 y.k] 78)).cell? ⟨w.heap.size, 1, none⟩ = some (.int .u64 x.k) := by go_simp
  have d0 : ((w.alloc (.cells #[.int .u64 x.c, .int .u64 x.k] 78)).alloc (.cells #[.int .u64 y.c, .int .u64 y.k] 78)).cell? ⟨w.heap.size + 1, 0, none⟩ = some (.int .u64 y.c) := by go_simp
  have d1 : ((w.alloc (.cells #[.int .u64 x.c, .int .u64 x.k] 78)).alloc (.cells #[.int .u64 y.c, .int .u64 y.k] 78)).cell? ⟨w.heap.size + 1, 1, none⟩ = some (.int .u64 y.k) := by go_simp
  have k0 : ((w.alloc (.cells #[.int .u64 x.c, .int .u64 x.k] 78)).alloc (.cells #[.int .u64 y.c, .int .u64 y.k] 78)).cell? ⟨kb, 0, none⟩ = some (.func (.func 54) #[] #[]) := (hB.cell (p := ⟨kb, 0, none⟩) hkb).trans hk
  have hs : ((w.alloc (.cells #[.int .u64 x.c, .int .u64 x.k] 78)).alloc (.cells #[.int .u64 y.c, .int .u64 y.k] 78)).heap.size = w.heap.size + 2 := by simp
  obtain ⟨W, hW⟩ : ∃ W, (w.alloc (.cells #[.int .u64 x.c, .int .u64 x.k] 78)).alloc (.cells #[.int .u64 y.c, .int .u64 y.k] 78) = W := ⟨_, rfl⟩
  rw [hW] at hB c0 c1 d0 d1 k0 hs ⊢
  clear hW
  have q0 : ∀ s : BStep W, s.val.cell? ⟨w.heap.size, 0, none⟩ = some (.int .u64 x.c) := BStep.cell (by show w.heap.size < _; omega) c0
  have q1 : ∀ s : BStep W, s.val.cell? ⟨w.heap.size, 1, none⟩ = some (.int .u64 x.k) := BStep.cell (by show w.heap.size < _; omega) c1
  have p0 : ∀ s : BStep W, s.val.cell? ⟨w.heap.size + 1, 0, none⟩ = some (.int .u64 y.c) := BStep.cell (by show w.heap.size + 1 < _; omega) d0
  have p1 : ∀ s : BStep W, s.val.cell? ⟨w.heap.size + 1, 1, none⟩ = some (.int .u64 y.k) := BStep.cell (by show w.heap.size + 1 < _; omega) d1
  have kk : ∀ s : BStep W, s.val.cell? ⟨kb, 0, none⟩ = some (.func (.func 54) #[] #[]) := BStep.cell (by show kb < _; omega) k0
  clear c0 c1 d0 d1 k0
  refine wp_region_b (by kernel_rfl) (by kernel_rfl) ?_
  repeat (first | go_big_quiet_skip | (go_big_quiet_want; first | (fail; go_frame; go_big_quiet_on) | (go_big_quiet_op; first | go_big_quiet_on | go_big_quiet_call ((first | (go_at_call_of 54 (Value.agg #[Value.int .u64 x.c, Value.int .u64 x.k]); exact callsB (hkx _)) | (go_at_call 54; exact callsB (hky _)) | (go_at_call 78; exact callsB ((hcmp _).mono fun _ _ ⟨h1, h2⟩ => ⟨h1, by subst h2; exact Below.refl _ _⟩)))))))
  refine wpQuiet_nil ?_
  intro W' hC'
  have hBW' := BStep.of hC'
  have hBn := belowTrans hB hBW'
  clear q0 q1 p0 p1 kk hC' hkx hky hcmp
  go_wp2_with fail
  go_ret
  exact ⟨rfl, hBn⟩
theorem clkCells {w : World} {b off n cap : Nat} {l : List QId} (h : SliceAt 2 encIdv w (.slice (some ⟨b, off, none⟩) n cap) l) {k : Nat} {x : QId} (hx : l[k]? = some x) :
    n = l.length ∧ b < w.heap.size ∧ w.cell? ⟨b, off + k * 2, none⟩ = some (.int .u64 x.c) ∧ w.cell? ⟨b, off + k * 2 + 1, none⟩ = some (.int .u64 x.k) := by
  rcases h with ⟨e, _⟩ | ⟨b', off', c', e, _, hb, hc⟩
  · cases e
  · cases e
    exact ⟨rfl, hb, hc k x hx 0 _ rfl, hc k x hx 1 _ rfl⟩
/-- nothing but new blocks. -/
def BelowR (w : World) (e : Ending) (w' : World) : Prop := e = .returned (.tuple #[]) ∧ Below w.heap.size w w'
set_option maxRecDepth 100000 in
set_option maxHeartbeats 4000000 in
theorem insClk_any (p : Option Addr) (cap kb : Nat) (l : List QId) (w : World) (hl : SliceAt 2 encIdv w (.slice p l.length cap) l) (ho : l.Pairwise fun x y => x.c < y.c) (hn : l.length ≤ 100000)
    (hk : w.cell? ⟨kb, 0, none⟩ = some (.func (.func 54) #[] #[])) (hkb : kb < w.heap.size) :
    Calls Tryz.prog 177 #[.slice p l.length cap, .int .i64 0, .int .i64 l.length, .func (.func 102) #[] #[.pointer (some ⟨kb, 0, none⟩)]] w (BelowR w) := by
  have Ho := Lib.hid ho
  clear ho
  go_enter Tryz.func177, Tryz.ntmps177
  go_wp2
  go_loopw [8] (fun i wr => ∃ k : Nat, 1 ≤ k ∧ k ≤ l.length + 1 ∧ i = .int .i64 k ∧ Below w.heap.size w wr) (fun i _ => l.length + 1 - (intOf i).toNat)
  case atStart => exact ⟨1, Nat.le_refl _, by omega, rfl, Below.refl _ _⟩
  case round =>
    obtain ⟨k, hk1, hk2, rfl, hb⟩ := hrel
    by_cases hlt : k < l.length
    · have hltz : (k : Int) < (l.length : Int) := by omega
      obtain ⟨b, off, rfl⟩ : ∃ b off, p = some ⟨b, off, none⟩ := by
        rcases hl with ⟨_, h⟩ | ⟨b0, off, _, h, _⟩
        · rw [h] at hlt; simp at hlt
        · cases h; exact ⟨_, _, rfl⟩
      obtain ⟨i, rfl⟩ : ∃ i, k = i + 1 := ⟨k - 1, by omega⟩
      go_upto_region 3 with fail
      go_wp2_with fail
      obtain ⟨wo, rfl⟩ : ∃ wo, wo = wr := ⟨_, rfl⟩
      go_loopw [9] (fun jv wx => jv = .int .i64 ((i + 1 : Nat) : Int) ∧ Below w.heap.size w wx) (fun _ _ => 0)
      case atStart => exact ⟨rfl, hb⟩
      case round =>
        obtain ⟨rfl, hbx⟩ := hrel
        have hlx := hl.below hbx
        obtain ⟨_, hbl, x0, x1⟩ := clkCells hlx (k := i + 1) (x := l[i + 1]) (by simp)
        obtain ⟨_, _, y0, y1⟩ := clkCells hlx (k := i) (x := l[i]'(by omega)) (by simp)
        have hxy : (l[i]'(by omega)).c < l[i + 1].c := List.pairwise_iff_getElem.1 Ho.out i (i + 1) (by omega) hlt (by omega)
        have hkx := (hbx.cell (p := ⟨kb, 0, none⟩) hkb).trans hk
        have hkl := Nat.lt_of_lt_of_le hkb hbx.size
        generalize l[i + 1] = x at x0 x1 hxy
        generalize l[i]'(by omega) = y at y0 y1 hxy
        have hz : decide (cmpU x.c y.c < 0) = false := by simp [cmpU_lt]; omega
        have q0 : ∀ s : BStep wr, s.val.cell? ⟨b, off + (i + 1) * 2, none⟩ = some (.int .u64 x.c) := BStep.cell hbl x0
        have q1 : ∀ s : BStep wr, s.val.cell? ⟨b, off + (i + 1) * 2 + 1, none⟩ = some (.int .u64 x.k) := BStep.cell hbl x1
        have p0 : ∀ s : BStep wr, s.val.cell? ⟨b, off + i * 2, none⟩ = some (.int .u64 y.c) := BStep.cell hbl y0
        have p1 : ∀ s : BStep wr, s.val.cell? ⟨b, off + i * 2 + 1, none⟩ = some (.int .u64 y.k) := BStep.cell hbl y1
        have kk : ∀ s : BStep wr, s.val.cell? ⟨kb, 0, none⟩ = some (.func (.func 54) #[] #[]) := BStep.cell hkl hkx
        have kl : ∀ s : BStep wr, kb < s.val.heap.size := fun s => Nat.lt_of_lt_of_le hkl s.h.size
        have d1 : decide ((0 : Int) < ((i + 1 : Nat) : Int)) = true := by simp
        have hib : i + 1 < l.length := hlt
        have hi0 : (0 : Int) ≤ (i : Int) := by omega
        clear x0 x1 y0 y1 hlx hkx
        generalize hcz : cmpU x.c y.c = z at hz
        have HCZ := Lib.hid hcz
        clear hcz
        have hcm := fun (s : BStep wr) => byCmp_any kb x y s.val (kk s) (kl s)
        rw [HCZ.out] at hcm
        clear kl
        go_wp2_with fail
        refine wp_region_b (by kernel_rfl) (by kernel_rfl) ?_
        repeat (first | go_big_quiet_skip | (go_big_quiet_want; first | (fail; go_frame; go_big_quiet_on) | (go_big_quiet_op; first | go_big_quiet_on | go_big_quiet_call ((go_at_call 102; exact callsB (hcm _))))))
        refine wpQuiet_nil ?_
        intro W' hC'
        have hBW' := BStep.of hC'
        have hb3 := hbx.trans (hBW'.mono hbx.size)
        clear q0 q1 p0 p1 kk hcm hC' hBW' hz d1
        go_wp2_with fail
        go_roundw
        case rel => exact ⟨i + 1 + 1, by omega, by omega, by go_num, hb3⟩
        case measure => simp [intOf]; omega
    · go_wp2_with fail
      go_end0
      exact ⟨rfl, hb⟩
set_option maxRecDepth 100000 in
set_option maxHeartbeats 4000000 in
theorem stableClk_any (p : Option Addr) (cap kb : Nat) (l : List QId) (w : World) (hl : SliceAt 2 encIdv w (.slice p l.length cap) l) (ho : l.Pairwise fun x y => x.c < y.c) (hn : l.length ≤ 19)
    (hk : w.cell? ⟨kb, 0, none⟩ = some (.func (.func 54) #[] #[])) (hkb : kb < w.heap.size) :
    Calls Tryz.prog 141 #[.slice p l.length cap, .int .i64 l.length, .func (.func 102) #[] #[.pointer (some ⟨kb, 0, none⟩)]] w (BelowR w) := by
  have hins := insClk_any p cap kb l w hl ho (by omega) hk hkb
  have hnz : (l.length : Int) < 20 := by omega
  clear ho hl hk
  go_enter Tryz.func141, Tryz.ntmps141
  go_wp2
  go_loopw [7, 8] (fun a b wr => a = .int .i64 0 ∧ b = .int .i64 20 ∧ wr = w) (fun _ _ _ => 0)
  case atStart => exact ⟨rfl, rfl, rfl⟩
  case round =>
    obtain ⟨rfl, rfl, rfl⟩ := hrel
    go_wp2_with (go_at_call 177; refine hins.mono ?_; rintro e w1 ⟨rfl, hb1⟩)
    clear hins
    go_loopw [6] (fun a wx => a = .int .i64 20 ∧ wx = w1) (fun _ _ => 0)
    case atStart => exact ⟨rfl, rfl⟩
    case round =>
      obtain ⟨rfl, rfl⟩ := hrel
      go_wp2_with fail
      go_end0
      exact ⟨rfl, hb1⟩
set_option maxHeartbeats 1000000 in
theorem sortStableClk_any (p : Option Addr) (cap kb : Nat) (l : List QId) (w : World) (hl : SliceAt 2 encIdv w (.slice p l.length cap) l) (ho : l.Pairwise fun x y => x.c < y.c) (hn : l.length ≤ 19)
    (hk : w.cell? ⟨kb, 0, none⟩ = some (.func (.func 54) #[] #[])) (hkb : kb < w.heap.size) :
    Calls Tryz.prog 101 #[.slice p l.length cap, .func (.func 102) #[] #[.pointer (some ⟨kb, 0, none⟩)]] w (BelowR w) := by
  have hst := stableClk_any p cap kb l w hl ho hn hk hkb
  clear ho hl hk
  go_enter Tryz.func101, Tryz.ntmps101
  go_wp2_with (go_at_call 141; refine hst.mono ?_; rintro e w1 ⟨rfl, hb1⟩)
  go_end0
  exact ⟨rfl, hb1⟩
theorem cloneClk_any (sv : Value) (l : List QId) (w : World) (hl : SliceAt 2 encIdv w sv l) (hn : l.length ≤ 100000) :
    Calls Tryz.prog 100 #[sv] w (RetW fun v w' => OwnAt w.heap.size 78 2 encIdv w' v l ∧ Below w.heap.size w w') := by
  obtain ⟨i0, hi, hz0, hz1, hz2⟩ := info_parts infoClk
  rcases hl with ⟨rfl, rfl⟩ | ⟨b, off, cap, rfl, hln, hb, hc⟩
  · refine (AnyE.slices_Clone_nil Tryz.cloneClk 0 0 w).mono ?_
    rintro e w' ⟨rfl, rfl⟩
    exact ⟨_, rfl, OwnAt.nil, Below.refl _ _⟩
  · refine (AnyE.slices_Clone Tryz.cloneClk i0 (.agg #[.int .u64 idZero.c, .int .u64 idZero.k]) 2 16 hi hz0 hz1 hz2 rfl (by decide) (fun w => by kernel_rfl) b off l.length cap (l.flatMap encIdv) w (flat_length (enc := encIdv) (k := 2) (fun _ => rfl) l) (by unfold maxLen; omega) (by omega) ?_ ?_).mono ?_
    · intro t u ht
      have htl : t < l.length * 2 := by
        have := (List.getElem?_eq_some_iff.1 ht).1
        rwa [flat_length (enc := encIdv) (k := 2) (fun _ => rfl)] at this
      have h1 := flat_get (enc := encIdv) (k := 2) (fun _ => rfl) l (t / 2) (t % 2) l[t / 2] (by simp [show t / 2 < l.length by omega]) (Nat.mod_lt _ (by omega))
      rw [show t / 2 * 2 + t % 2 = t by omega, ht] at h1
      have h2 := hc (t / 2) l[t / 2] (by simp [show t / 2 < l.length by omega]) (t % 2) u h1.symm
      rwa [show off + t / 2 * 2 + t % 2 = off + t by omega] at h2
    · intro u hu
      obtain ⟨x, _, hx⟩ := List.mem_flatMap.1 hu
      simp [encIdv] at hx
      rcases hx with rfl | rfl <;> rfl
    · rintro e w' ⟨v, rfl, ho, _, hb⟩
      exact ⟨v, rfl, ho, hb⟩
end Go.Proofs.YthhbiliimdpgmaaGreatDoor
/- Walks: vector.by, Clean, At, Ranges of clocks that are clean already. -/
namespace Go.Proofs.YthhbiliimdpgmaaGreatDoor
open Go.RowKit Go.Lib

set_option maxHeartbeats 1000000 in
theorem byClk_any (sv : Value) (l : List QId) (w : World) (hl : SliceAt 2 encIdv w sv l) (ho : l.Pairwise fun x y => x.c < y.c) (hn : l.length ≤ 19) :
    Calls Tryz.prog 53 #[sv, .func (.func 54) #[] #[]] w (RetW fun v w' => OwnAt w.heap.size 78 2 encIdv w' v l ∧ Below w.heap.size w w') := by
  have Ho := Lib.hid ho
  clear ho
  go_enter Tryz.func53, Tryz.ntmps53
  go_upto_region 1 with fail
  have hB : Below w.heap.size w (w.alloc (.cells #[.func (.func 54) #[] #[]] 123)) := (Below.refl _ _).alloc (Nat.le_refl _) _
  have k0 : (w.alloc (.cells #[.func (.func 54) #[] #[]] 123)).cell? ⟨w.heap.size, 0, none⟩ = some (.func (.func 54) #[] #[]) := by go_simp
  have hs : (w.alloc (.cells #[.func (.func 54) #[] #[]] 123)).heap.size = w.heap.size + 1 := by simp
  obtain ⟨W, hW⟩ : ∃ W, w.alloc (.cells #[.func (.func 54) #[] #[]] 123) = W := ⟨_, rfl⟩
  rw [hW] at hB k0 hs ⊢
  clear hW
  have hcl := cloneClk_any sv l W (hl.below hB) (by omega)
  go_upto_region 2 with (go_at_call 100; refine hcl.mono ?_; rintro e w1 ⟨v, rfl, ho1, hb1⟩; obtain ⟨p, cap, rfl⟩ := ownsRow_len ho1)
  have k1 := (hb1.cell (p := ⟨w.heap.size, 0, none⟩) (by show w.heap.size < _; omega)).trans k0
  have hb1s := hb1.size
  have hkl : w.heap.size < w1.heap.size := by omega
  have hso := sortStableClk_any p cap w.heap.size l w1 (OwnAt.slice (k := 2) (enc := encIdv) (fun _ => rfl) ho1) Ho.out hn k1 hkl
  clear hcl k0 k1
  go_wp2_with (go_at_call 101; refine hso.mono ?_; rintro e w2 ⟨rfl, hb2⟩)
  have hb3 := belowTrans (belowTrans hB hb1) hb2
  have ho3 : OwnAt w.heap.size 78 2 encIdv w2 (.slice p l.length cap) l := ownsRow_base (ownsRow_blk ho1 fun b e => hb2.block b (ownsRow_lt ho1 b e)) (by omega)
  clear hso
  go_ret
  exact ⟨_, rfl, ho3, hb3⟩
set_option maxRecDepth 100000 in
set_option maxHeartbeats 4000000 in
theorem vclean_any (sv : Value) (l : List QId) (w : World) (hl : SliceAt 2 encIdv w sv l) (hc : CleanClk l) (hn : l.length ≤ 19) :
    Calls Tryz.prog 27 #[sv] w (RetW fun v w' => OwnAt w.heap.size 78 2 encIdv w' v l ∧ Below w.heap.size w w') := by
  obtain ⟨i0, hi, hz0, hz1, hz2⟩ := info_parts infoClk
  have hby := byClk_any sv l w hl hc.ord hn
  have HC := Lib.hid hc
  clear hc hl
  go_enter Tryz.func27, Tryz.ntmps27
  go_upto_region 3 with (go_at_call 53; refine hby.mono ?_; rintro e w1 ⟨v1, rfl, ho1, hb1⟩; obtain ⟨p, cap, rfl⟩ := ownsRow_len ho1)
  have hl1 : SliceAt 2 encIdv w1 (.slice p l.length cap) l := OwnAt.slice (k := 2) (enc := encIdv) (fun _ => rfl) ho1
  clear hby ho1
  obtain ⟨S1, hS1⟩ : ∃ S1, w1.heap.size = S1 := ⟨_, rfl⟩
  have HS1 := Lib.hid hS1
  have hwS : w.heap.size ≤ S1 := by have := hb1.size; omega
  clear hS1
  go_loopw [3, 10] (fun o i wr => ∃ k : Nat, k ≤ l.length ∧ i = .int .i64 k ∧ OwnAt S1 78 2 encIdv wr o (l.take k) ∧ Below S1 w1 wr) (fun _ i _ => l.length - (intOf i).toNat)
  case atStart => exact ⟨0, Nat.zero_le _, rfl, OwnAt.nil, Below.refl _ _⟩
  case round =>
    obtain ⟨k, hk, rfl, ho, hb⟩ := hrel
    by_cases hlt : k < l.length
    · have hltz : (k : Int) < (l.length : Int) := by omega
      have hlr := hl1.keep (by have := hb.size; omega) fun b off n c e hlt => hb.block b (by rw [← HS1.out]; exact hlt)
      obtain ⟨b, off, rfl⟩ : ∃ b off, p = some ⟨b, off, none⟩ := by
        rcases hlr with ⟨_, h⟩ | ⟨b0, off, _, h, _⟩
        · rw [h] at hlt; simp at hlt
        · cases h; exact ⟨_, _, rfl⟩
      obtain ⟨_, hbl, x0, x1⟩ := clkCells hlr (k := k) (x := l[k]) (by simp)
      obtain ⟨hx1, hx2, hx3, hx4⟩ := HC.out.ok l[k] (by simp)
      have hstep : l.take (k + 1) = l.take k ++ [l[k]] := List.take_succ_eq_append_getElem hlt
      have HST := Lib.hid hstep
      have htl : (l.take k).length = k := by rw [List.length_take]; omega
      have hprev : ∀ i, i < k → ∀ y, (l.take k)[i]? = some y → y.c < l[k].c := fun i hik y hy => by
        rw [List.getElem?_take_of_lt hik] at hy
        obtain ⟨h1, rfl⟩ := List.getElem?_eq_some_iff.1 hy
        exact List.pairwise_iff_getElem.1 HC.out.ord i k h1 hlt hik
      clear hstep
      generalize l[k] = x at x0 x1 hx1 hx2 hx3 hx4 HST hprev
      obtain ⟨out, hout⟩ : ∃ out, l.take k = out := ⟨_, rfl⟩
      rw [hout] at ho htl hprev
      have HOUT := Lib.hid hout
      have HPR := Lib.hid hprev
      have HTL := Lib.hid htl
      clear hout hprev htl
      obtain ⟨po, co, rfl⟩ := ownsRow_len ho
      have d1 : decide (x.c < 1) = false := by simp; omega
      have d2 : decide (9007199254740991 < x.c) = false := by simp; omega
      have d3 : decide (x.k < 1) = false := by simp; omega
      have e1 : min x.k 9007199254740991 = x.k := by omega
      have hS1w : S1 ≤ wr.heap.size := by have := hb.size; have := HS1.out; omega
      rw [HTL.out] at ho ⊢
      rcases Nat.eq_zero_or_pos k with hk0 | hkp
      · have hk1 : (k : Int) < 1 := by omega
        have hk9 : (0 : Int) ≤ (k : Int) := by omega
        have d4 : decide ((1 : Int) ≤ (k : Int)) = false := by simp; omega
        have d5 : decide ((0 : Int) ≤ (k : Int) - 1) = false := by simp; omega
        clear hk0
        go_upto_region 8 with fail
        have hbx : Below wr.heap.size wr (wr.alloc (.cells #[.int .u64 x.c, .int .u64 x.k] 78)) := (Below.refl _ _).alloc (Nat.le_refl _) _
        have q0 : ∀ s : BStep (wr.alloc (.cells #[.int .u64 x.c, .int .u64 x.k] 78)), s.val.cell? ⟨wr.heap.size, 0, none⟩ = some (.int .u64 x.c) := BStep.cell (by simp) (by go_simp)
        refine wp_region_b (by kernel_rfl) (by kernel_rfl) ?_
        repeat (first | go_big_quiet_skip | (go_big_quiet_want; first | (fail; go_frame; go_big_quiet_on) | (go_big_quiet_op; first | go_big_quiet_on | go_big_quiet_call (fail))))
        refine wpQuiet_nil ?_
        intro W' hC'
        have hBW' := BStep.of hC'
        have hX : (wr.alloc (.cells #[.int .u64 x.c, .int .u64 x.k] 78)).heap.size = wr.heap.size + 1 := by simp
        have hb9 : Below wr.heap.size wr W' := hbx.trans (hBW'.mono hbx.size)
        have z0 : W'.cell? ⟨wr.heap.size, 0, none⟩ = some (.int .u64 x.c) := (hBW'.cell (p := ⟨wr.heap.size, 0, none⟩) (by show wr.heap.size < _; omega)).trans (by go_simp)
        have z1 : W'.cell? ⟨wr.heap.size, 1, none⟩ = some (.int .u64 x.k) := (hBW'.cell (p := ⟨wr.heap.size, 1, none⟩) (by show wr.heap.size < _; omega)).trans (by go_simp)
        have ho9 : OwnAt S1 78 2 encIdv W' (Value.slice po k co) out := ownsRow_blk ho fun b e => hb9.block b (ownsRow_lt ho b e)
        have hb10 : Below S1 w1 W' := hb.trans (hb9.mono hS1w)
        have hw9 : S1 ≤ W'.heap.size := Nat.le_trans hS1w hb9.size
        have hu : ∀ b, (Value.slice po k co).ownBlock = some b → S1 ≤ b := fun b e => (World.ownsRow.lt ho b e).1
        have hol : out.length ≤ 19 := by rw [HTL.out]; omega
        clear q0 hC' hBW' hbx hX hb9
        go_wp2_with (at_builtin; refine wpList_append_own_at _ rfl _ _ 50 rfl S1 78 i0 (.agg #[.int .u64 idZero.c, .int .u64 idZero.k]) 2 16 Tryz.underlying50 hi hz0 hz1 hz2 rfl (by decide) _ _ _ rfl (show World.ownsRow _ S1 78 2 (Value.slice po k co) out.length (out.flatMap encIdv) from World.ownsRow.alloc ho9 _) ⟨W'.heap.size, 0, none⟩ 1 1 (encIdv x) rfl rfl ?g1 ?g2 ?g3 ?g4 ?g5 ?_)
        case g1 => exact fun _ _ hu => hu
        case g2 => intro u hu; simp [encIdv] at hu; rcases hu with rfl | rfl <;> rfl
        case g3 => unfold maxLen; omega
        case g4 => omega
        case g5 => first | omega | (simp; omega)
        intro v' w3 hown' hgrow _ _
        have hB4 : Below S1 w1 w3 := (hb10.alloc hw9 _).grown hgrow (by simp; omega) (fun b e => hu b e)
        have ho5 : OwnAt S1 78 2 encIdv w3 v' (out ++ [x]) := by
          unfold OwnAt
          rw [List.length_append, List.flatMap_append]
          simpa using hown'
        clear hown' hgrow ho9 hb10 z0 z1 ho hb
        go_wp2_with fail
        go_roundw
        case rel => exact ⟨k + 1, by omega, by go_num, by rw [HST.out, HOUT.out]; exact ho5, hB4⟩
        case measure => simp [intOf]; omega
      · obtain ⟨i, rfl⟩ : ∃ i, k = i + 1 := ⟨k - 1, by omega⟩
        obtain ⟨y, hy⟩ : ∃ y, out[i]? = some y := ⟨out[i]'(by rw [HTL.out]; omega), by simp⟩
        have hyx := HPR.out i (by omega) y hy
        obtain ⟨g, rfl⟩ : ∃ g, po = some ⟨g, 0, none⟩ := by
          rcases ho.2 with ⟨e, _⟩ | ⟨g, cap, cur, e, _⟩
          · have e2 := Value.slice.inj e
            omega
          · exact ⟨g, (Value.slice.inj e).1⟩
        have hgl : g < wr.heap.size := ownsRow_lt ho g rfl
        obtain ⟨hcc, _, y0, _⟩ := clkCells (OwnAt.slice (k := 2) (enc := encIdv) (fun _ => rfl) ho) hy
        clear hcc
        rw [Nat.zero_add] at y0
        have hne : (y.c == x.c) = false := by simp; omega
        have hib : (i : Int) < ((i + 1 : Nat) : Int) := by omega
        go_upto_region 8 with fail
        have y1 : (wr.alloc (.cells #[.int .u64 x.c, .int .u64 x.k] 78)).cell? ⟨g, i * 2, none⟩ = some (.int .u64 y.c) := (((Below.refl _ _).alloc (Nat.le_refl _) _ : Below wr.heap.size wr _).cell (p := ⟨g, i * 2, none⟩) hgl).trans y0
        have r1 : ∀ s : BStep (wr.alloc (.cells #[.int .u64 x.c, .int .u64 x.k] 78)), s.val.cell? ⟨g, i * 2, none⟩ = some (.int .u64 y.c) := BStep.cell (by show g < _; simp; omega) y1
        have hi0 : (0 : Int) ≤ (i : Int) := by omega
        have hbx : Below wr.heap.size wr (wr.alloc (.cells #[.int .u64 x.c, .int .u64 x.k] 78)) := (Below.refl _ _).alloc (Nat.le_refl _) _
        have q0 : ∀ s : BStep (wr.alloc (.cells #[.int .u64 x.c, .int .u64 x.k] 78)), s.val.cell? ⟨wr.heap.size, 0, none⟩ = some (.int .u64 x.c) := BStep.cell (by simp) (by go_simp)
        refine wp_region_b (by kernel_rfl) (by kernel_rfl) ?_
        repeat (first | go_big_quiet_skip | (go_big_quiet_want; first | (fail; go_frame; go_big_quiet_on) | (go_big_quiet_op; first | go_big_quiet_on | go_big_quiet_call (fail))))
        refine wpQuiet_nil ?_
        intro W' hC'
        have hBW' := BStep.of hC'
        have hX : (wr.alloc (.cells #[.int .u64 x.c, .int .u64 x.k] 78)).heap.size = wr.heap.size + 1 := by simp
        have hb9 : Below wr.heap.size wr W' := hbx.trans (hBW'.mono hbx.size)
        have z0 : W'.cell? ⟨wr.heap.size, 0, none⟩ = some (.int .u64 x.c) := (hBW'.cell (p := ⟨wr.heap.size, 0, none⟩) (by show wr.heap.size < _; omega)).trans (by go_simp)
        have z1 : W'.cell? ⟨wr.heap.size, 1, none⟩ = some (.int .u64 x.k) := (hBW'.cell (p := ⟨wr.heap.size, 1, none⟩) (by show wr.heap.size < _; omega)).trans (by go_simp)
        have ho9 : OwnAt S1 78 2 encIdv W' (Value.slice (some ⟨g, 0, none⟩) (i + 1) co) out := ownsRow_blk ho fun b e => hb9.block b (ownsRow_lt ho b e)
        have hb10 : Below S1 w1 W' := hb.trans (hb9.mono hS1w)
        have hw9 : S1 ≤ W'.heap.size := Nat.le_trans hS1w hb9.size
        have hu : ∀ b, (Value.slice (some ⟨g, 0, none⟩) (i + 1) co).ownBlock = some b → S1 ≤ b := fun b e => (World.ownsRow.lt ho b e).1
        have hol : out.length ≤ 19 := by rw [HTL.out]; omega
        clear q0 hC' hBW' hbx hX hb9
        go_wp2_with (at_builtin; refine wpList_append_own_at _ rfl _ _ 50 rfl S1 78 i0 (.agg #[.int .u64 idZero.c, .int .u64 idZero.k]) 2 16 Tryz.underlying50 hi hz0 hz1 hz2 rfl (by decide) _ _ _ rfl (show World.ownsRow _ S1 78 2 (Value.slice (some ⟨g, 0, none⟩) (i + 1) co) out.length (out.flatMap encIdv) from World.ownsRow.alloc ho9 _) ⟨W'.heap.size, 0, none⟩ 1 1 (encIdv x) rfl rfl ?h1 ?h2 ?h3 ?h4 ?h5 ?_)
        case h1 => exact fun _ _ hu => hu
        case h2 => intro u hu; simp [encIdv] at hu; rcases hu with rfl | rfl <;> rfl
        case h3 => unfold maxLen; omega
        case h4 => omega
        case h5 => first | omega | (simp; omega)
        intro v' w3 hown' hgrow _ _
        have hB4 : Below S1 w1 w3 := (hb10.alloc hw9 _).grown hgrow (by simp; omega) (fun b e => hu b e)
        have ho5 : OwnAt S1 78 2 encIdv w3 v' (out ++ [x]) := by
          unfold OwnAt
          rw [List.length_append, List.flatMap_append]
          simpa using hown'
        clear hown' hgrow ho9 hb10 z0 z1 ho hb
        go_wp2_with fail
        go_roundw
        case rel => exact ⟨i + 1 + 1, by omega, by go_num, by rw [HST.out, HOUT.out]; exact ho5, hB4⟩
        case measure => simp [intOf]; omega
    · obtain rfl : k = l.length := by omega
      have hltz : ¬ (l.length : Int) < (l.length : Int) := by omega
      rw [List.take_length] at ho
      have hbn : Below w.heap.size w wr := hb1.trans (hb.mono hwS)
      go_wp2_with fail
      go_ret
      exact ⟨_, rfl, ownsRow_base ho hwS, hbn⟩
end Go.Proofs.YthhbiliimdpgmaaGreatDoor
/- A map of numbers to numbers, as the kit's laws of ranging have it. -/
namespace Go.Proofs.YthhbiliimdpgmaaGreatDoor
open Go.RowKit Go.Maps Go.Shelf

theorem undC : Tryz.prog.underlying 26 = some (.int .u64) := by kernel_rfl
def u64C (k : Int) : Prop := 0 ≤ k ∧ k < 18446744073709551616
theorem u64C_wf {k : Int} (h : u64C k) : (Lit.int .u64 k).wf = true := WalkArith.wf_u64 (by unfold u64C at h; omega)
def clkL (kl : List QId) : List (Lit × DataW Unit) := kl.map fun p => (Lit.int .u64 p.c, DataW.lit (.int .u64 p.k))
def clkD (kl : List QId) : DataW Unit := .map ((clkL kl).foldr DataW.insert [])
theorem mapK_ownsC {w : World} {r : Nat} {kl : List QId} (h : MapK u64V w r (kl.map fun p => (p.c, .int .u64 p.k))) (hsz : ∀ p ∈ kl, u64C p.c ∧ u64C p.k) (hlen : kl.length ≤ maxLen) :
    w.ownsMap Tryz.prog 26 (plainElem Tryz.prog 26) r kl.length (clkD kl) := by
  obtain ⟨es, clock, hb, hl, hs⟩ := h
  rw [List.map_map] at hl
  have hlen' : es.toList.length = kl.length := by
    have := congrArg List.length hl
    simpa using this
  have hk1 : ∀ (x : MapEntry) (p : QId), (x.key, x.val) = (u64V p.c, Value.int .u64 p.k) → u64C p.c ∧ u64C p.k → WideElems.rd Tryz.prog 26 (plainElem (H := Unit) Tryz.prog 26) x = some (.int .u64 p.c, .lit (.int .u64 p.k)) := by
    intro x p hx hs
    have h1 : x.key = u64V p.c := congrArg Prod.fst hx
    have h2 : x.val = .int .u64 p.k := congrArg Prod.snd hx
    unfold WideElems.rd
    have : keyOf Tryz.prog 26 x.key = some (.int .u64 p.c) := by
      rw [h1]
      exact keyOf_int_mk undC (u64C_wf hs.1)
    rw [this, h2, plainElem_int undC (u64C_wf hs.2)]
    rfl
  have hall : ∀ (l : List MapEntry) (kl : List QId), l.map (fun e => (e.key, e.val)) = kl.map (fun p => (u64V p.c, Value.int .u64 p.k)) → (∀ p ∈ kl, u64C p.c ∧ u64C p.k) →
      clkL kl = l.map (WideElems.rg Tryz.prog 26 (plainElem (H := Unit) Tryz.prog 26)) ∧ ∀ x ∈ l, ∃ y, WideElems.rd Tryz.prog 26 (plainElem (H := Unit) Tryz.prog 26) x = some y := by
    intro l
    induction l with
    | nil => intro ks h _; cases ks with
      | nil => exact ⟨rfl, fun x hx => by cases hx⟩
      | cons => simp at h
    | cons x l ih =>
      intro ks h hz
      cases ks with
      | nil => simp at h
      | cons k ks =>
        rw [List.map_cons, List.map_cons, List.cons.injEq] at h
        obtain ⟨h2, h4⟩ := ih ks h.2 fun k hk => hz k (by simp [hk])
        have hx := hk1 x k h.1 (hz k (by simp))
        refine ⟨?_, fun y hy => ?_⟩
        · unfold clkL at h2 ⊢
          rw [List.map_cons, List.map_cons, ← h2]
          have h3 : WideElems.rg Tryz.prog 26 (plainElem (H := Unit) Tryz.prog 26) x = (Lit.int .u64 k.c, DataW.lit (.int .u64 k.k)) := by
            rw [WideElems.rg, hx]
            rfl
          rw [h3]
        · rcases List.mem_cons.1 hy with rfl | hy
          · exact ⟨_, hx⟩
          · exact h4 y hy
  obtain ⟨a1, a2⟩ := hall es.toList kl hl hsz
  refine ⟨es, clock, hb, ⟨?_, hs, ?_⟩, ?_, ?_⟩
  · have : es.size = kl.length := by simpa using hlen'
    omega
  · exact a2
  · have : es.size = kl.length := by simpa using hlen'
    omega
  · unfold clkD
    rw [a1]
end Go.Proofs.YthhbiliimdpgmaaGreatDoor
