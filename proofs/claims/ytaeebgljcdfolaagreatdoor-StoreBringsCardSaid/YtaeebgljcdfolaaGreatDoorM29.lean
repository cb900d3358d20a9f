/- Walks: vector.by, Clean, At, Ranges of clocks that are clean already. -/
import Derived.Test.YtaeebgljcdfolaaGreatDoorM28
namespace Go.Proofs.YtaeebgljcdfolaaGreatDoor
open Go.RowKit Go.Lib

set_option maxHeartbeats 1000000 in
theorem byClk_any (sv : Value) (l : List QId) (w : World) (hl : SliceAt 2 encIdv w sv l) (ho : l.Pairwise fun x y => x.c < y.c) (hn : l.length ≤ 19) :
    Calls Tryz.prog 101 #[sv, .func (.func 102) #[] #[]] w (RetW fun v w' => OwnAt w.heap.size 53 2 encIdv w' v l ∧ Below w.heap.size w w') := by
  have Ho := Lib.hid ho
  clear ho
  go_enter Tryz.func101, Tryz.ntmps101
  go_upto_region 1 with fail
  have hB : Below w.heap.size w (w.alloc (.cells #[.func (.func 102) #[] #[]] 130)) := (Below.refl _ _).alloc (Nat.le_refl _) _
  have k0 : (w.alloc (.cells #[.func (.func 102) #[] #[]] 130)).cell? ⟨w.heap.size, 0, none⟩ = some (.func (.func 102) #[] #[]) := by go_simp
  have hs : (w.alloc (.cells #[.func (.func 102) #[] #[]] 130)).heap.size = w.heap.size + 1 := by simp
  obtain ⟨W, hW⟩ : ∃ W, w.alloc (.cells #[.func (.func 102) #[] #[]] 130) = W := ⟨_, rfl⟩
  rw [hW] at hB k0 hs ⊢
  clear hW
  have hcl := cloneClk_any sv l W (hl.below hB) (by omega)
  go_upto_region 2 with (go_at_call 120; refine hcl.mono ?_; rintro e w1 ⟨v, rfl, ho1, hb1⟩; obtain ⟨p, cap, rfl⟩ := ownsRow_len ho1)
  have k1 := (hb1.cell (p := ⟨w.heap.size, 0, none⟩) (by show w.heap.size < _; omega)).trans k0
  have hb1s := hb1.size
  have hkl : w.heap.size < w1.heap.size := by omega
  have hso := sortStableClk_any p cap w.heap.size l w1 (OwnAt.slice (k := 2) (enc := encIdv) (fun _ => rfl) ho1) Ho.out hn k1 hkl
  clear hcl k0 k1
  go_wp2_with (go_at_call 121; refine hso.mono ?_; rintro e w2 ⟨rfl, hb2⟩)
  have hb3 := belowTrans (belowTrans hB hb1) hb2
  have ho3 : OwnAt w.heap.size 53 2 encIdv w2 (.slice p l.length cap) l := ownsRow_base (ownsRow_blk ho1 fun b e => hb2.block b (ownsRow_lt ho1 b e)) (by omega)
  clear hso
  go_ret
  exact ⟨_, rfl, ho3, hb3⟩
set_option maxRecDepth 100000 in
set_option maxHeartbeats 4000000 in
theorem vclean_any (sv : Value) (l : List QId) (w : World) (hl : SliceAt 2 encIdv w sv l) (hc : CleanClk l) (hn : l.length ≤ 19) :
    Calls Tryz.prog 67 #[sv] w (RetW fun v w' => OwnAt w.heap.size 53 2 encIdv w' v l ∧ Below w.heap.size w w') := by
  obtain ⟨i0, hi, hz0, hz1, hz2⟩ := info_parts infoClk
  have hby := byClk_any sv l w hl hc.ord hn
  have HC := Lib.hid hc
  clear hc hl
  go_enter Tryz.func67, Tryz.ntmps67
  go_upto_region 3 with (go_at_call 101; refine hby.mono ?_; rintro e w1 ⟨v1, rfl, ho1, hb1⟩; obtain ⟨p, cap, rfl⟩ := ownsRow_len ho1)
  have hl1 : SliceAt 2 encIdv w1 (.slice p l.length cap) l := OwnAt.slice (k := 2) (enc := encIdv) (fun _ => rfl) ho1
  clear hby ho1
  obtain ⟨S1, hS1⟩ : ∃ S1, w1.heap.size = S1 := ⟨_, rfl⟩
  have HS1 := Lib.hid hS1
  have hwS : w.heap.size ≤ S1 := by have := hb1.size; omega
  clear hS1
  go_loopw [3, 10] (fun o i wr => ∃ k : Nat, k ≤ l.length ∧ i = .int .i64 k ∧ OwnAt S1 53 2 encIdv wr o (l.take k) ∧ Below S1 w1 wr) (fun _ i _ => l.length - (intOf i).toNat)
  case atStart => exact ⟨0, Nat.zero_le _, rfl, OwnAt.nil, Below.refl _ _⟩
  case round =>
    obtain ⟨k, hk, rfl, ho, hb⟩ := hrel
    by_cases hlt : k < l.length
    · have hltz : (k : Int) < (l.length : Int) := by omega
      have hlr := hl1.keep (by have := hb.size; omega) fun b off n c e hlt => hb.block b (by rw [← HS1.out]; exact hlt)
      obtain ⟨b, off, rfl⟩ : ∃ b off, p = some ⟨b, off, none⟩ := by
        rcases hlr with ⟨_, h⟩ | ⟨b0, off, _, h, _⟩
        · rw [h] at hlt; simp at hlt
        · cases h; exact ⟨_, _, rfl⟩
      obtain ⟨_, hbl, x0, x1⟩ := clkCells hlr (k := k) (x := l[k]) (by simp)
      obtain ⟨hx1, hx2, hx3, hx4⟩ := HC.out.ok l[k] (by simp)
      have hstep : l.take (k + 1) = l.take k ++ [l[k]] := List.take_succ_eq_append_getElem hlt
      have HST := Lib.hid hstep
      have htl : (l.take k).length = k := by rw [List.length_take]; omega
      have hprev : ∀ i, i < k → ∀ y, (l.take k)[i]? = some y → y.c < l[k].c := fun i hik y hy => by
        rw [List.getElem?_take_of_lt hik] at hy
        obtain ⟨h1, rfl⟩ := List.getElem?_eq_some_iff.1 hy
        exact List.pairwise_iff_getElem.1 HC.out.ord i k h1 hlt hik
      clear hstep
      generalize l[k] = x at x0 x1 hx1 hx2 hx3 hx4 HST hprev
      obtain ⟨out, hout⟩ : ∃ out, l.take k = out := ⟨_, rfl⟩
      rw [hout] at ho htl hprev
      have HOUT := Lib.hid hout
      have HPR := Lib.hid hprev
      have HTL := Lib.hid htl
      clear hout hprev htl
      obtain ⟨po, co, rfl⟩ := ownsRow_len ho
      have d1 : decide (x.c < 1) = false := by simp; omega
      have d2 : decide (9007199254740991 < x.c) = false := by simp; omega
      have d3 : decide (x.k < 1) = false := by simp; omega
      have e1 : min x.k 9007199254740991 = x.k := by omega
      have hS1w : S1 ≤ wr.heap.size := by have := hb.size; have := HS1.out; omega
      rw [HTL.out] at ho ⊢
      rcases Nat.eq_zero_or_pos k with hk0 | hkp
      · have hk1 : (k : Int) < 1 := by omega
        have hk9 : (0 : Int) ≤ (k : Int) := by omega
        have d4 : decide ((1 : Int) ≤ (k : Int)) = false := by simp; omega
        have d5 : decide ((0 : Int) ≤ (k : Int) - 1) = false := by simp; omega
        clear hk0
        go_upto_region 8 with fail
        have hbx : Below wr.heap.size wr (wr.alloc (.cells #[.int .u64 x.c, .int .u64 x.k] 53)) := (Below.refl _ _).alloc (Nat.le_refl _) _
        have q0 : ∀ s : BStep (wr.alloc (.cells #[.int .u64 x.c, .int .u64 x.k] 53)), s.val.cell? ⟨wr.heap.size, 0, none⟩ = some (.int .u64 x.c) := BStep.cell (by simp) (by go_simp)
        refine wp_region_b (by kernel_rfl) (by kernel_rfl) ?_
        repeat (first | go_big_quiet_skip | (go_big_quiet_want; first | (fail; go_frame; go_big_quiet_on) | (go_big_quiet_op; first | go_big_quiet_on | go_big_quiet_call (fail))))
        refine wpQuiet_nil ?_
        intro W' hC'
        have hBW' := BStep.of hC'
        have hX : (wr.alloc (.cells #[.int .u64 x.c, .int .u64 x.k] 53)).heap.size = wr.heap.size + 1 := by simp
        have hb9 : Below wr.heap.size wr W' := hbx.trans (hBW'.mono hbx.size)
        have z0 : W'.cell? ⟨wr.heap.size, 0, none⟩ = some (.int .u64 x.c) := (hBW'.cell (p := ⟨wr.heap.size, 0, none⟩) (by show wr.heap.size < _; omega)).trans (by go_simp)
        have z1 : W'.cell? ⟨wr.heap.size, 1, none⟩ = some (.int .u64 x.k) := (hBW'.cell (p := ⟨wr.heap.size, 1, none⟩) (by show wr.heap.size < _; omega)).trans (by go_simp)
        have ho9 : OwnAt S1 53 2 encIdv W' (Value.slice po k co) out := ownsRow_blk ho fun b e => hb9.block b (ownsRow_lt ho b e)
        have hb10 : Below S1 w1 W' := hb.trans (hb9.mono hS1w)
        have hw9 : S1 ≤ W'.heap.size := Nat.le_trans hS1w hb9.size
        have hu : ∀ b, (Value.slice po k co).ownBlock = some b → S1 ≤ b := fun b e => (World.ownsRow.lt ho b e).1
        have hol : out.length ≤ 19 := by rw [HTL.out]; omega
        clear q0 hC' hBW' hbx hX hb9
        go_wp2_with (at_builtin; refine wpList_append_own_at _ rfl _ _ 54 rfl S1 53 i0 (.agg #[.int .u64 idZero.c, .int .u64 idZero.k]) 2 16 Tryz.underlying54 hi hz0 hz1 hz2 rfl (by decide) _ _ _ rfl (show World.ownsRow _ S1 53 2 (Value.slice po k co) out.length (out.flatMap encIdv) from World.ownsRow.alloc ho9 _) ⟨W'.heap.size, 0, none⟩ 1 1 (encIdv x) rfl rfl ?g1 ?g2 ?g3 ?g4 ?g5 ?_)
        case g1 => exact fun _ _ hu => hu
        case g2 => intro u hu; simp [encIdv] at hu; rcases hu with rfl | rfl <;> rfl
        case g3 => unfold maxLen; omega
        case g4 => omega
        case g5 => first | omega | (simp; omega)
        intro v' w3 hown' hgrow _ _
        have hB4 : Below S1 w1 w3 := (hb10.alloc hw9 _).grown hgrow (by simp; omega) (fun b e => hu b e)
        have ho5 : OwnAt S1 53 2 encIdv w3 v' (out ++ [x]) := by
          unfold OwnAt
          rw [List.length_append, List.flatMap_append]
          simpa using hown'
        clear hown' hgrow ho9 hb10 z0 z1 ho hb
        go_wp2_with fail
        go_roundw
        case rel => exact ⟨k + 1, by omega, by go_num, by rw [HST.out, HOUT.out]; exact ho5, hB4⟩
        case measure => simp [intOf]; omega
      · obtain ⟨i, rfl⟩ : ∃ i, k = i + 1 := ⟨k - 1, by omega⟩
        obtain ⟨y, hy⟩ : ∃ y, out[i]? = some y := ⟨out[i]'(by rw [HTL.out]; omega), by simp⟩
        have hyx := HPR.out i (by omega) y hy
        obtain ⟨g, rfl⟩ : ∃ g, po = some ⟨g, 0, none⟩ := by
          rcases ho.2 with ⟨e, _⟩ | ⟨g, cap, cur, e, _⟩
          · have e2 := Value.slice.inj e
            omega
          · exact ⟨g, (Value.slice.inj e).1⟩
        have hgl : g < wr.heap.size := ownsRow_lt ho g rfl
        obtain ⟨hcc, _, y0, _⟩ := clkCells (OwnAt.slice (k := 2) (enc := encIdv) (fun _ => rfl) ho) hy
        clear hcc
        rw [Nat.zero_add] at y0
        have hne : (y.c == x.c) = false := by simp; omega
        have hib : (i : Int) < ((i + 1 : Nat) : Int) := by omega
        go_upto_region 8 with fail
        have y1 : (wr.alloc (.cells #[.int .u64 x.c, .int .u64 x.k] 53)).cell? ⟨g, i * 2, none⟩ = some (.int .u64 y.c) := (((Below.refl _ _).alloc (Nat.le_refl _) _ : Below wr.heap.size wr _).cell (p := ⟨g, i * 2, none⟩) hgl).trans y0
        have r1 : ∀ s : BStep (wr.alloc (.cells #[.int .u64 x.c, .int .u64 x.k] 53)), s.val.cell? ⟨g, i * 2, none⟩ = some (.int .u64 y.c) := BStep.cell (by show g < _; simp; omega) y1
        have hi0 : (0 : Int) ≤ (i : Int) := by omega
        have hbx : Below wr.heap.size wr (wr.alloc (.cells #[.int .u64 x.c, .int .u64 x.k] 53)) := (Below.refl _ _).alloc (Nat.le_refl _) _
        have q0 : ∀ s : BStep (wr.alloc (.cells #[.int .u64 x.c, .int .u64 x.k] 53)), s.val.cell? ⟨wr.heap.size, 0, none⟩ = some (.int .u64 x.c) := BStep.cell (by simp) (by go_simp)
        refine wp_region_b (by kernel_rfl) (by kernel_rfl) ?_
        repeat (first | go_big_quiet_skip | (go_big_quiet_want; first | (fail; go_frame; go_big_quiet_on) | (go_big_quiet_op; first | go_big_quiet_on | go_big_quiet_call (fail))))
        refine wpQuiet_nil ?_
        intro W' hC'
        have hBW' := BStep.of hC'
        have hX : (wr.alloc (.cells #[.int .u64 x.c, .int .u64 x.k] 53)).heap.size = wr.heap.size + 1 := by simp
        have hb9 : Below wr.heap.size wr W' := hbx.trans (hBW'.mono hbx.size)
        have z0 : W'.cell? ⟨wr.heap.size, 0, none⟩ = some (.int .u64 x.c) := (hBW'.cell (p := ⟨wr.heap.size, 0, none⟩) (by show wr.heap.size < _; omega)).trans (by go_simp)
        have z1 : W'.cell? ⟨wr.heap.size, 1, none⟩ = some (.int .u64 x.k) := (hBW'.cell (p := ⟨wr.heap.size, 1, none⟩) (by show wr.heap.size < _; omega)).trans (by go_simp)
        have ho9 : OwnAt S1 53 2 encIdv W' (Value.slice (some ⟨g, 0, none⟩) (i + 1) co) out := ownsRow_blk ho fun b e => hb9.block b (ownsRow_lt ho b e)
        have hb10 : Below S1 w1 W' := hb.trans (hb9.mono hS1w)
        have hw9 : S1 ≤ W'.heap.size := Nat.le_trans hS1w hb9.size
        have hu : ∀ b, (Value.slice (some ⟨g, 0, none⟩) (i + 1) co).ownBlock = some b → S1 ≤ b := fun b e => (World.ownsRow.lt ho b e).1
        have hol : out.length ≤ 19 := by rw [HTL.out]; omega
        clear q0 hC' hBW' hbx hX hb9
        go_wp2_with (at_builtin; refine wpList_append_own_at _ rfl _ _ 54 rfl S1 53 i0 (.agg #[.int .u64 idZero.c, .int .u64 idZero.k]) 2 16 Tryz.underlying54 hi hz0 hz1 hz2 rfl (by decide) _ _ _ rfl (show World.ownsRow _ S1 53 2 (Value.slice (some ⟨g, 0, none⟩) (i + 1) co) out.length (out.flatMap encIdv) from World.ownsRow.alloc ho9 _) ⟨W'.heap.size, 0, none⟩ 1 1 (encIdv x) rfl rfl ?h1 ?h2 ?h3 ?h4 ?h5 ?_)
        case h1 => exact fun _ _ hu => hu
        case h2 => intro u hu; simp [encIdv] at hu; rcases hu with rfl | rfl <;> rfl
        case h3 => unfold maxLen; omega
        case h4 => omega
        case h5 => first | omega | (simp; omega)
        intro v' w3 hown' hgrow _ _
        have hB4 : Below S1 w1 w3 := (hb10.alloc hw9 _).grown hgrow (by simp; omega) (fun b e => hu b e)
        have ho5 : OwnAt S1 53 2 encIdv w3 v' (out ++ [x]) := by
          unfold OwnAt
          rw [List.length_append, List.flatMap_append]
          simpa using hown'
        clear hown' hgrow ho9 hb10 z0 z1 ho hb
        go_wp2_with fail
        go_roundw
        case rel => exact ⟨i + 1 + 1, by omega, by go_num, by rw [HST.out, HOUT.out]; exact ho5, hB4⟩
        case measure => simp [intOf]; omega
    · obtain rfl : k = l.length := by omega
      have hltz : ¬ (l.length : Int) < (l.length : Int) := by omega
      rw [List.take_length] at ho
      have hbn : Below w.heap.size w wr := hb1.trans (hb.mono hwS)
      go_wp2_with fail
      go_ret
      exact ⟨_, rfl, ownsRow_base ho hwS, hbn⟩
end Go.Proofs.YtaeebgljcdfolaaGreatDoor
/- Walks: vector.At, Ranges of clocks that are clean already. -/
namespace Go.Proofs.YtaeebgljcdfolaaGreatDoor
open Go.RowKit Go.Lib

/-- a client's clock. -/
def atClk (l : List QId) (c : Int) : Int := match l.find? fun x => decide (x.c = c) with
  | some x => x.k
  | none => 0
theorem atClk_some {l : List QId} {c : Int} {k : Nat} {x : QId} (hx : l[k]? = some x) (hc : x.c = c) (hno : ∀ j, j < k → ∀ y, l[j]? = some y → y.c ≠ c) : atClk l c = x.k := by
  unfold atClk
  have : l.find? (fun x => decide (x.c = c)) = some x := by
    rw [List.find?_eq_some_iff_getElem]
    obtain ⟨h1, h2⟩ := List.getElem?_eq_some_iff.1 hx
    refine ⟨by simpa using hc, k, h1, h2, fun j hj => ?_⟩
    have := hno j hj (l[j]'(by omega)) (by simp)
    simpa using this
  rw [this]
theorem atClk_none {l : List QId} {c : Int} (hno : ∀ j, j < l.length → ∀ y, l[j]? = some y → y.c ≠ c) : atClk l c = 0 := by
  unfold atClk
  have : l.find? (fun x => decide (x.c = c)) = none := by
    rw [List.find?_eq_none]
    intro x hx
    obtain ⟨j, hj⟩ := List.mem_iff_getElem?.1 hx
    have := hno j (List.getElem?_eq_some_iff.1 hj).1 x hj
    simpa using this
  rw [this]
set_option maxRecDepth 100000 in
set_option maxHeartbeats 4000000 in
theorem vat_any (sv : Value) (l : List QId) (c : Int) (w : World) (hl : SliceAt 2 encIdv w sv l) (hc : CleanClk l) (hn : l.length ≤ 19) :
    Calls Tryz.prog 46 #[sv, .int .u64 c] w fun e w' => e = .returned (.int .u64 (atClk l c)) ∧ Below w.heap.size w w' := by
  have hcl := vclean_any sv l w hl hc hn
  have hY := fun k x => @atClk_some l c k x
  have hN := @atClk_none l c
  have HY := Lib.hid hY
  have HN := Lib.hid hN
  clear hY hN
  generalize atClk l c = A at HY HN ⊢
  clear hl hc
  go_enter Tryz.func46, Tryz.ntmps46
  go_upto_region 2 with (go_at_call 67; refine hcl.mono ?_; rintro e w1 ⟨v1, rfl, ho1, hb1⟩; obtain ⟨p, cap, rfl⟩ := ownsRow_len ho1)
  have hl1 : SliceAt 2 encIdv w1 (.slice p l.length cap) l := OwnAt.slice (k := 2) (enc := encIdv) (fun _ => rfl) ho1
  clear hcl ho1
  go_loopw [10] (fun i wr => ∃ k : Nat, k ≤ l.length ∧ i = .int .i64 k ∧ (∀ j, j < k → ∀ y, l[j]? = some y → y.c ≠ c) ∧ Below w1.heap.size w1 wr) (fun i _ => l.length - (intOf i).toNat)
  case atStart => exact ⟨0, Nat.zero_le _, rfl, fun j hj => absurd hj (Nat.not_lt_zero _), Below.refl _ _⟩
  case round =>
    obtain ⟨k, hk, rfl, hno, hb⟩ := hrel
    have HNO := Lib.hid hno
    clear hno
    by_cases hlt : k < l.length
    · have hltz : (k : Int) < (l.length : Int) := by omega
      have hlr := hl1.below hb
      obtain ⟨b, off, rfl⟩ : ∃ b off, p = some ⟨b, off, none⟩ := by
        rcases hlr with ⟨_, h⟩ | ⟨b0, off, _, h, _⟩
        · rw [h] at hlt; simp at hlt
        · cases h; exact ⟨_, _, rfl⟩
      obtain ⟨hcc, _, x0, x1⟩ := clkCells hlr (k := k) (x := l[k]) (by simp)
      clear hcc
      have hxk : l[k]? = some l[k] := by simp
      generalize l[k] = x at x0 x1 hxk
      have HXK := Lib.hid hxk
      clear hxk hlr
      by_cases hxc : x.c = c
      · have e1 : (x.c == c) = true := by simpa using hxc
        have hA := Lib.hid (HY.out k x HXK.out hxc HNO.out)
        have hbn : Below w.heap.size w (wr.alloc (.cells #[.int .u64 x.c, .int .u64 x.k] 53)) := (belowTrans hb1 hb).alloc (by have := hb1.size; have := hb.size; omega) _
        clear hxc
        go_wp2_with fail
        go_ret
        exact ⟨(congrArg (fun z => Ending.returned (.int .u64 z)) hA.out).symm, hbn⟩
      · have e1 : (x.c == c) = false := by simpa using hxc
        have hbn : Below w1.heap.size w1 (wr.alloc (.cells #[.int .u64 x.c, .int .u64 x.k] 53)) := hb.alloc (by have := hb.size; omega) _
        have HXC := Lib.hid hxc
        clear hxc
        go_wp2_with fail
        go_roundw
        case rel =>
          refine ⟨k + 1, by omega, by go_num, fun j hj y hy => ?_, hbn⟩
          by_cases hjk : j = k
          · subst hjk
            rw [HXK.out] at hy
            cases hy
            exact HXC.out
          · exact HNO.out j (by omega) y hy
        case measure => simp [intOf]; omega
    · obtain rfl : k = l.length := by omega
      have hltz : ¬ (l.length : Int) < (l.length : Int) := by omega
      have hA := Lib.hid (HN.out HNO.out)
      have hbn := belowTrans hb1 hb
      go_wp2_with fail
      go_ret
      exact ⟨(congrArg (fun z => Ending.returned (.int .u64 z)) hA.out).symm, hbn⟩
def clkRng (x : QId) : QRng := ⟨x.c, 1, x.k + 1⟩
set_option maxRecDepth 100000 in
set_option maxHeartbeats 4000000 in
theorem vranges_any (sv : Value) (l : List QId) (w : World) (hl : SliceAt 2 encIdv w sv l) (hc : CleanClk l) (hn : l.length ≤ 19) :
    Calls Tryz.prog 42 #[sv] w (RetW fun v w' => OwnAt w.heap.size 72 3 encRng w' v (l.map clkRng) ∧ Below w.heap.size w w') := by
  obtain ⟨i0, hi, hz0, hz1, hz2⟩ := info_parts infoRng
  have hcl := vclean_any sv l w hl hc hn
  have HC := Lib.hid hc
  clear hl hc
  go_enter Tryz.func42, Tryz.ntmps42
  go_upto_region 3 with (go_at_call 67; refine hcl.mono ?_; rintro e w1 ⟨v1, rfl, ho1, hb1⟩; obtain ⟨p, cap, rfl⟩ := ownsRow_len ho1)
  have hl1 : SliceAt 2 encIdv w1 (.slice p l.length cap) l := OwnAt.slice (k := 2) (enc := encIdv) (fun _ => rfl) ho1
  clear hcl ho1
  obtain ⟨S1, hS1⟩ : ∃ S1, w1.heap.size = S1 := ⟨_, rfl⟩
  have HS1 := Lib.hid hS1
  have hwS : w.heap.size ≤ S1 := by have := hb1.size; omega
  clear hS1
  go_loopw [3, 9] (fun o i wr => ∃ k : Nat, k ≤ l.length ∧ i = .int .i64 k ∧ OwnAt S1 72 3 encRng wr o ((l.take k).map clkRng) ∧ Below S1 w1 wr) (fun _ i _ => l.length - (intOf i).toNat)
  case atStart => exact ⟨0, Nat.zero_le _, rfl, OwnAt.nil, Below.refl _ _⟩
  case round =>
    obtain ⟨k, hk, rfl, ho, hb⟩ := hrel
    by_cases hlt : k < l.length
    · have hltz : (k : Int) < (l.length : Int) := by omega
      have hlr := hl1.keep (by have := hb.size; omega) fun b off n c e hlt => hb.block b (by rw [← HS1.out]; exact hlt)
      obtain ⟨b, off, rfl⟩ : ∃ b off, p = some ⟨b, off, none⟩ := by
        rcases hlr with ⟨_, h⟩ | ⟨b0, off, _, h, _⟩
        · rw [h] at hlt; simp at hlt
        · cases h; exact ⟨_, _, rfl⟩
      obtain ⟨hcc, _, x0, x1⟩ := clkCells hlr (k := k) (x := l[k]) (by simp)
      clear hcc
      obtain ⟨hx1, hx2, hx3, hx4⟩ := HC.out.ok l[k] (by simp)
      have hstep : (l.take (k + 1)).map clkRng = (l.take k).map clkRng ++ [clkRng l[k]] := by
        rw [List.take_succ_eq_append_getElem hlt, List.map_append]; rfl
      have HST := Lib.hid hstep
      have htl : ((l.take k).map clkRng).length ≤ 19 := by rw [List.length_map, List.length_take]; omega
      clear hstep hlr
      generalize l[k] = x at x0 x1 hx1 hx2 hx3 hx4 HST
      generalize (l.take k).map clkRng = out at ho HST htl
      have hS1w : S1 ≤ wr.heap.size := by have := hb.size; have := HS1.out; omega
      have hu : ∀ b, u3.ownBlock = some b → S1 ≤ b := fun b e => (World.ownsRow.lt ho b e).1
      have hbc : Below S1 w1 (wr.alloc (.cells #[.int .u64 x.c, .int .u64 x.k] 53)) := hb.alloc hS1w _
      have hoc : OwnAt S1 72 3 encRng (wr.alloc (.cells #[.int .u64 x.c, .int .u64 x.k] 53)) u3 out := World.ownsRow.alloc ho _
      go_upto_region 5 with fail
      have z0 : (wr.alloc (.cells #[.int .u64 x.c, .int .u64 x.k] 53)).cell? ⟨wr.heap.size, 0, none⟩ = some (.int .u64 x.c) := by go_simp
      have z1 : (wr.alloc (.cells #[.int .u64 x.c, .int .u64 x.k] 53)).cell? ⟨wr.heap.size, 1, none⟩ = some (.int .u64 x.k) := by go_simp
      have hS2w : S1 ≤ (wr.alloc (.cells #[.int .u64 x.c, .int .u64 x.k] 53)).heap.size := by simp; omega
      obtain ⟨X, hX⟩ : ∃ X, wr.heap.size = X := ⟨_, rfl⟩
      obtain ⟨W, hW⟩ : ∃ W, wr.alloc (.cells #[.int .u64 x.c, .int .u64 x.k] 53) = W := ⟨_, rfl⟩
      rw [hW] at hbc hoc z0 z1 hS2w
      rw [hX] at z0 z1
      rw [hW, hX]
      clear hW hX hS1w ho hb x0 x1
      go_wp2_with (at_builtin; refine wpList_append_own_at _ rfl _ _ 65 rfl S1 72 i0 (.agg #[.int .u64 0, .int .u64 0, .int .u64 0]) 3 24 Tryz.underlying65 hi hz0 hz1 hz2 rfl (by decide) _ _ _ rfl (show World.ownsRow _ S1 72 3 u3 out.length (out.flatMap encRng) from World.ownsRow.alloc hoc _) ⟨W.heap.size, 0, none⟩ 1 1 (encRng (clkRng x)) rfl rfl ?f1 ?f2 ?f3 ?f4 ?f5 ?_)
      case f1 => exact rngCells W _ (clkRng x) rfl
      case f2 => exact encRng_one (clkRng x)
      case f3 => unfold maxLen; omega
      case f4 => omega
      case f5 => first | omega | (simp; omega)
      intro v' w3 hown' hgrow _ _
      have hB4 : Below S1 w1 w3 := (hbc.alloc hS2w _).grown hgrow (by simp; omega) (fun b e => hu b e)
      have ho5 : OwnAt S1 72 3 encRng w3 v' (out ++ [clkRng x]) := by
        unfold OwnAt
        rw [List.length_append, List.flatMap_append]
        simpa using hown'
      clear hown' hgrow hoc hbc z0 z1 hS2w
      go_wp2_with fail
      go_roundw
      case rel => exact ⟨k + 1, by omega, by go_num, by rw [HST.out]; exact ho5, hB4⟩
      case measure => simp [intOf]; omega
    · obtain rfl : k = l.length := by omega
      have hltz : ¬ (l.length : Int) < (l.length : Int) := by omega
      rw [List.take_length] at ho
      have hbn : Below w.heap.size w wr := hb1.trans (hb.mono hwS)
      go_wp2_with fail
      go_ret
      exact ⟨_, rfl, ownsRow_base ho hwS, hbn⟩
end Go.Proofs.YtaeebgljcdfolaaGreatDoor
