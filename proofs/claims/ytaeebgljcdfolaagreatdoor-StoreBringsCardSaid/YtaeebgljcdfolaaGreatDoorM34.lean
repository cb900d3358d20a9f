/- Walk: store.Wait of a piece. -/
import Derived.Test.YtaeebgljcdfolaaGreatDoorM22
import Derived.Test.YtaeebgljcdfolaaGreatDoorM33
namespace Go.Proofs.YtaeebgljcdfolaaGreatDoor
open Go.RowKit Go.Lib

/-- what Wait leaves. -/
def WaitR (F : Nat → Prop) (sb : Nat) (K : List (Int × ByteArray)) (Q : List QOp) (H : List QRng) (t : ByteArray) (r : QRng) (w : World) (e : Ending) (w' : World) : Prop :=
  e = .returned (.tuple #[]) ∧ ∃ xs H', CleanL xs ∧ (∀ i, hasRngs xs i = (hasRngs [r] i && !hasRngs H i)) ∧ CleanL H' ∧ (∀ i, hasRngs H' i = (hasRngs H i || hasRngs [r] i)) ∧
    StoreIn w' (fun b => F b ∨ w.heap.size ≤ b) sb K (Q ++ xs.map (pcR t)) H' ∧ Mods F w w'
theorem rng_slice {w : World} {b : Nat} {r : QRng} (h : RngBox w b r) : SliceAt 3 encRng w (.slice (some ⟨b, 0, none⟩) 1 1) [r] := by
  refine .inr ⟨b, 0, 1, rfl, by simp, h.lt, fun j x hj i y hi => ?_⟩
  obtain ⟨rfl, rfl⟩ : j = 0 ∧ r = x := by
    rcases j with _ | j
    · exact ⟨rfl, by simpa using hj⟩
    · simp at hj
  simp only [Nat.zero_add, Nat.zero_mul]
  rw [World.cell?, show w.heap[b]? = _ from h]
  simpa using hi
set_option maxRecDepth 100000 in
set_option maxHeartbeats 8000000 in
theorem wait_any (F : Nat → Prop) (sb : Nat) (K : List (Int × ByteArray)) (Q : List QOp) (H : List QRng) (c : Int) (t : ByteArray) (f e : Nat) (w : World) (h : StoreIn w F sb K Q H) (hK : KSmall K) (hT : Tabs w)
    (hc : numB c = true) (hf : f < e) (he : e ≤ (runesB t).length) (hl : (runesB t).length ≤ 4096) (hkn0 : 0 ≤ kcount K c) (hkn1 : kcount K c ≤ 4096) (hH : H.length ≤ 900) (hQ : Q.length ≤ 100000) (hFT : TabFree F) :
    Calls Tryz.prog 10 #[.pointer (some ⟨sb, 0, none⟩), opV (pc c t f e)] w (WaitR F sb K Q H t (waitRng (kcount K c) c (1 + f) (1 + e)) w) := by
  have hgood := pc_good c t f e hc hf he hl
  have hu : (cutB t f e).size ≤ 1000000000000 := by
    have := runes_size (runesB_cut t f e).2
    have := cutB_len t f e he
    omega
  have hulen := cutB_len t f e he
  have hcheck := fun w hT => opsCheck_t ⟨c, 1 + f⟩ (pcL c f) idZero (cutB t f e) w hgood hu hT
  have hrange := fun w hT => opsRange_any (tOp ⟨c, 1 + f⟩ (pcL c f) idZero (cutB t f e)) w (by show (cutB t f e).size < _; omega) (by show (0 : Int) ≤ 1 + f; omega) (by rw [tOp_len, hulen]; show (1 : Int) + f + _ < _; omega) hT
  rw [tOp_rng, pc_rng c t f e (by omega) he] at hrange
  dsimp only at hrange
  have hkn := fun w h hT => known_any F sb K Q H c w h hK hT
  have hcut : ∀ (xa xb : Int) (w : World), Tabs w → 1 + (f : Int) ≤ xa → xa < xb → xb ≤ 1 + e → Calls Tryz.prog 35 #[opV (tOp ⟨c, 1 + f⟩ (pcL c f) idZero (cutB t f e)), .int .i64 (xa - (1 + f)), .int .i64 (xb - (1 + f))] w fun x w' => x = .returned (.tuple #[opV (pcR t ⟨c, xa, xb⟩), .bool true]) ∧ Below w.heap.size w w' := by
    intro xa xb w hT h1 h2 h3
    obtain ⟨a, rfl⟩ : ∃ a : Nat, xa = 1 + (f : Int) + (a : Int) := ⟨(xa - (1 + f)).toNat, by omega⟩
    obtain ⟨b, rfl⟩ : ∃ b : Nat, xb = 1 + (f : Int) + (b : Int) := ⟨(xb - (1 + f)).toNat, by omega⟩
    have h4 := opsCut_t ⟨c, 1 + f⟩ (pcL c f) idZero (cutB t f e) a b w hu (by omega) (by omega) (by show (0 : Int) ≤ 1 + f; omega) (by show (1 : Int) + f + a < _; omega) hT
    rw [pc_cut c t f e a b (by omega)] at h4
    rw [pcR_eq, show 1 + (f : Int) + (a : Int) - (1 + f) = a by omega, show 1 + (f : Int) + (b : Int) - (1 + f) = b by omega]
    exact h4
  rw [pc_eq]
  obtain ⟨u, hu'⟩ : ∃ u, cutB t f e = u := ⟨_, rfl⟩
  rw [hu'] at hcheck hrange hcut ⊢
  obtain ⟨I, hI⟩ : ∃ I : Int, 1 + (f : Int) = I := ⟨_, rfl⟩
  obtain ⟨J, hJ⟩ : ∃ J : Int, 1 + (e : Int) = J := ⟨_, rfl⟩
  rw [hI] at hcheck hrange hcut ⊢
  rw [hJ] at hrange hcut ⊢
  have hI1 : 1 ≤ I := by omega
  have hIJ : I < J := by omega
  have hJ1 : J ≤ 4097 := by omega
  clear hu' hI hJ hgood hu hulen hf he hl
  generalize pcL c f = lf at hcheck hrange hcut ⊢
  generalize kcount K c = n at hkn hkn0 hkn1 ⊢
  have hcn : 1 ≤ c ∧ c ≤ 9007199254740991 := by simpa [numB] using hc
  clear hc
  clear f e
  have hlow := h.low
  obtain ⟨ix, hix, hz0, hz1, hz2⟩ := info_parts infoOp
  change Calls Tryz.prog 10 #[.pointer (some ⟨sb, 0, none⟩), .agg #[.int .u64 (⟨c, I⟩ : QId).c, .int .u64 (⟨c, I⟩ : QId).k, .int .i64 1, .int .u64 0, .int .u64 lf.c, .int .u64 lf.k, .int .u64 idZero.c, .int .u64 idZero.k, .string u, .int .i64 0, .int .i64 0, .float .f64 0, .string ⟨#[]⟩, .string ⟨#[]⟩, .int .u64 0, .int .u64 0, .int .u64 0, .int .u64 0, .bool false, .int .u64 0, .int .u64 0, .bool false]] w _
  obtain ⟨O, hO⟩ : ∃ O, tOp ⟨c, I⟩ lf idZero u = O := ⟨_, rfl⟩
  rw [hO] at hcheck hrange hcut
  have HO := Lib.hid hO
  go_enter Tryz.func10, Tryz.ntmps10
  go_upto_region 1 with fail
  obtain ⟨W, hW⟩ : ∃ W, w.alloc (.cells (encOp (tOp ⟨c, I⟩ lf idZero u)).toArray 35) = W := ⟨_, rfl⟩
  have hB : Below w.heap.size w W := by rw [← hW]; exact (Below.refl _ _).alloc (Nat.le_refl _) _
  have hbx : OpBox W w.heap.size (tOp ⟨c, I⟩ lf idZero u) := by rw [← hW]; exact OpBox.new _ _
  change Code.wp _ _ _ _ (w.alloc (.cells (encOp (tOp ⟨c, I⟩ lf idZero u)).toArray 35))
  rw [hW]
  clear hW
  rw [hO] at hbx
  clear hO
  have hbl := hbx.lt
  go_upto_region 2 with (first | (refine wpList_load_eq (T := 35) (v := opV O) rfl rfl rfl hbx.load ?_) | (go_at_call 31; refine (hcheck _ (hT.below hB)).mono ?_; rintro e w1 ⟨rfl, hb1⟩))
  have hbx1 := hbx.below hb1 hbl
  have hB1 := belowTrans hB hb1
  clear hbx hb1 hbl hB hcheck
  clear W
  have hx1 := hbx1.lt
  go_upto_region 3 with (first | (refine wpList_load_eq (T := 35) (v := opV O) rfl rfl rfl hbx1.load ?_) | (go_at_call 32; refine (hrange _ (hT.below hB1)).mono ?_; rintro e w2 ⟨rfl, hb2⟩))
  have hbx2 := hbx1.below hb2 hx1
  have hB2 := belowTrans hB1 hb2
  have hx2 := hbx2.lt
  have hrb2 : RngBox (w2.alloc (.cells #[.int .u64 c, .int .u64 I, .int .u64 J] 72)) w2.heap.size ⟨c, I, J⟩ := RngBox.new w2 ⟨c, I, J⟩
  have hB3 : Below w.heap.size w (w2.alloc (.cells #[.int .u64 c, .int .u64 I, .int .u64 J] 72)) := hB2.alloc hB2.size _
  have hbx3 : OpBox (w2.alloc (.cells #[.int .u64 c, .int .u64 I, .int .u64 J] 72)) w.heap.size O := (Below.heap_alloc w2 _ _ hx2).trans hbx2
  obtain ⟨R, hR⟩ : ∃ R, w2.heap.size = R := ⟨_, rfl⟩
  have hwR : w.heap.size < R := by omega
  obtain ⟨w3, hw3⟩ : ∃ w3, w2.alloc (.cells #[.int .u64 c, .int .u64 I, .int .u64 J] 72) = w3 := ⟨_, rfl⟩
  rw [hw3, hR] at hrb2
  rw [hw3] at hB3 hbx3
  rw [hw3, hR]
  clear hw3 hR hbx1 hB1 hx1 hbx2 hB2 hx2 hb2 hrange
  clear w1 w2
  obtain ⟨r0, r1, r2⟩ := hrb2.cells
  dsimp only at r0 r1 r2
  have hR3 := hrb2.lt
  go_upto_region 4 with (go_at_call 33; refine (hkn _ (h.below hB3) (hT.below hB3)).mono ?_; rintro e w4 ⟨rfl, hb4⟩)
  have hB4 := belowTrans hB3 hb4
  have hbx4 := hbx3.below hb4 hbx3.lt
  have hrb4 := hrb2.below hb4 hR3
  clear r0 r1 r2 hR3 hB3 hbx3 hrb2 hb4 hkn
  clear w3
  obtain ⟨r0, r1, r2⟩ := hrb4.cells
  dsimp only at r0 r1 r2
  have hR4 := hrb4.lt
  have rf := hrb4.f 1
  go_upto_if 22 with fail
  go_cut [28] (fun _ wx => RngBox wx R (waitRng n c I J) ∧ OpBox wx w.heap.size O ∧ Below w.heap.size w wx)
  case first =>
    by_cases hIn : I ≤ n
    · have e1 : waitRng n c I J = ⟨c, min (n + 1) J, J⟩ := by unfold waitRng; rw [if_pos hIn]
      have E1 := Lib.hid e1
      have hq := hrb4.setA (min (n + 1) J)
      clear e1
      go_wp2_with fail
      go_meet
      exact ⟨by rw [E1.out]; exact hq, (Below.heap_setCell _ _ _ _ (by show w.heap.size ≠ R; omega)).trans hbx4, hB4.setCell (p := ⟨R, 1, none⟩) (by show w.heap.size ≤ R; omega) _⟩
    · have e1 : waitRng n c I J = ⟨c, I, J⟩ := by unfold waitRng; rw [if_neg hIn]
      have E1 := Lib.hid e1
      clear e1
      go_wp2_with fail
      go_meet
      exact ⟨by rw [E1.out]; exact hrb4, hbx4, hB4⟩
  case rest =>
    clear hB4 hbx4 hrb4 r0 r1 r2 hR4 rf
    clear w4
    obtain ⟨hrb4, hbx4, hB4⟩ := hcut
    go_upto_region 6 with fail
    obtain ⟨w4, rfl⟩ : ∃ w4, w4 = wc := ⟨_, rfl⟩
    generalize hrr : waitRng n c I J = r at hrb4 ⊢
    have Hr := Lib.hid hrr
    clear hrr
    obtain ⟨L, hS0, hF⟩ := hlow
    have hS := hS0.below hB4
    have HF := Lib.hid hF
    clear hF
    obtain ⟨m, row, wv, hv⟩ := L
    obtain ⟨ph, ch, rfl⟩ := ownsRow_len hS.held
    have hst := hS.st
    dsimp only at hst
    have hsb4 : sb < w4.heap.size := (Array.getElem?_eq_some_iff.1 hst).1
    obtain ⟨r0, r1, r2⟩ := hrb4.cells
    have hR4 := hrb4.lt
    have q0 : ∀ s : MStep (fun _ => False) w4, s.val.cell? ⟨R, 0, none⟩ = some (.int .u64 r.c) := MStep.cell hR4 id r0
    have q1 : ∀ s : MStep (fun _ => False) w4, s.val.cell? ⟨R, 1, none⟩ = some (.int .u64 r.a) := MStep.cell hR4 id r1
    have q2 : ∀ s : MStep (fun _ => False) w4, s.val.cell? ⟨R, 2, none⟩ = some (.int .u64 r.b) := MStep.cell hR4 id r2
    have s2 : ∀ s : MStep (fun _ => False) w4, s.val.cell? ⟨sb, 2, none⟩ = some (.slice ph H.length ch) := MStep.cell hsb4 id (by simp [World.cell?, hst])
    refine wp_region_flow3 9 [0, 2, 3, 4, 5, 8] [1, 6, 7] (fun w' => ∃ s : MStep (fun _ => False) w4, w' = s.val) (by kernel_rfl) (by kernel_rfl) (fun _ _ d _ _ h => by cases d <;> exact h) (MStep.to (Mods.refl _ _).drew) ?_
    simp only [List.map_cons, List.map_nil, List.getElem?_cons_succ, List.getElem?_cons_zero, Option.getD_some]
    repeat (first | go_big_quiet_skip | (go_big_quiet_want; first | (fail; go_frame; go_big_quiet_on) | (go_big_quiet_op; go_big_quiet_on)))
    refine wpQuiet_nil ?_
    refine wpSeqF_step rfl ?_; simp only [List.getElem_toArray, List.getElem_cons_succ, List.getElem_cons_zero]
    go_wp2_with fail
    have hB5 : Below w4.heap.size w4 ((w4.alloc (.cells #[.int .u64 r.c, .int .u64 r.a, .int .u64 r.b] 72)).drew) := ((Below.refl _ _).alloc (Nat.le_refl _) _).drew
    refine ⟨MStep.to (Mods.of_below hB5), ?_⟩
    have hone : SliceAt 3 encRng ((w4.alloc (.cells #[.int .u64 r.c, .int .u64 r.a, .int .u64 r.b] 72)).drew) (.slice (some ⟨w4.heap.size, 0, none⟩) 1 1) [r] := rng_one w4 r
    have hheld : SliceAt 3 encRng ((w4.alloc (.cells #[.int .u64 r.c, .int .u64 r.a, .int .u64 r.b] 72)).drew) (.slice ph H.length ch) H := (OwnAt.slice (k := 3) (enc := encRng) (fun _ => rfl) hS.held).below hB5
    have hmin := minus_any _ _ [r] H _ hone hheld (by simp) (by omega) rfl rfl
    refine wpSeqF_step rfl ?_; simp only [List.getElem_toArray, List.getElem_cons_succ, List.getElem_cons_zero]
    go_wp2_with fail
    refine hmin.mono ?_
    rintro e w6 ⟨xv, rfl, xs, hxc, hxh, hxo, hb6⟩
    obtain ⟨px, cx, rfl⟩ := (OwnAt.slice (k := 3) (enc := encRng) (fun _ => rfl) hxo).len
    have hB6 := belowTrans hB5 hb6
    go_wp2_with fail
    refine ⟨MStep.to (Mods.of_below hB6), ?_⟩
    refine wpSeqF_step rfl ?_; simp only [List.getElem_toArray, List.getElem_cons_succ, List.getElem_cons_zero]
    go_wp2_with fail
    refine ⟨MStep.to (Mods.of_below hB6), ?_⟩
    refine wpSeqF_nil ?_
    have hxs := OwnAt.slice (k := 3) (enc := encRng) (fun _ => rfl) hxo
    have hpx : ∀ b off, px = some ⟨b, off, none⟩ → w.heap.size ≤ b := fun b off e => by
      have h1 := (World.ownsRow.lt hxo b (by rw [e]; rcases hxo.2 with ⟨e2, _⟩ | ⟨g, cap, cur, e2, _⟩ <;> rw [e] at e2 <;> cases e2; rfl)).1
      have h2 := hB5.size
      have h3 := hB4.size
      omega
    have hS6 := hS.below hB6
    have hB7 := belowTrans hB4 hB6
    have hbx6 := hbx4.below hB6 hbx4.lt
    have hrb6 := hrb4.below hB6 hR4
    have hw46 := hB6.size
    have hw04 := hB4.size
    clear hmin hone hheld hxo hb6 hB5 hS hB4 hbx4 hrb4 q0 q1 q2 s2 r0 r1 r2 hR4 hst hsb4 hB6
    have hwit := clean_within hxc (r := r) fun i hi => by rw [hxh i, Bool.and_eq_true] at hi; exact hi.1
    have hxw : ∀ x ∈ xs, x.c = c ∧ I ≤ x.a ∧ x.a < x.b ∧ x.b ≤ J := by
      intro x hx
      obtain ⟨e1, e2, e3, e4⟩ := hwit x hx
      rw [← Hr.out] at e1 e2 e4
      unfold waitRng at e1 e2 e4
      dsimp only at e1 e2 e4
      split at e2 <;> omega
    have hxl : xs.length ≤ 4097 := by
      have := clean_len xs c I J hxc hxw
      omega
    have Hxc := Lib.hid hxc
    have Hxh := Lib.hid hxh
    have Hxw := Lib.hid hxw
    clear hwit hxc hxh hxw
    obtain ⟨S2, hS2⟩ : ∃ S2, w6.heap.size = S2 := ⟨_, rfl⟩
    have HS2 := Lib.hid hS2
    have hwS : w.heap.size ≤ S2 := by omega
    have hRS : R < S2 := by have := hrb6.lt; omega
    have hoS : w.heap.size < S2 := by have := hbx6.lt; omega
    clear hS2
    go_wp2_with fail
    go_loopw [37] (fun i wr => ∃ k : Nat, k ≤ xs.length ∧ i = .int .i64 k ∧ StoreIn wr (fun b => (F b ∧ b < w.heap.size) ∨ S2 ≤ b) sb K (Q ++ (xs.take k).map (pcR t)) H ∧ Mods (fun b => F b ∧ b < w.heap.size) w6 wr) (fun i _ => xs.length - (intOf i).toNat)
    case atStart => exact ⟨0, Nat.zero_le _, rfl, ⟨_, by rw [List.take_zero, List.map_nil, List.append_nil]; exact hS6, fun b hb => .inl (HF.out b hb)⟩, Mods.refl _ _⟩
    case round =>
      obtain ⟨k, hk, rfl, hSi, hm⟩ := hrel
      clear hS6 hS0 HF
      have hnG : ∀ b, w.heap.size ≤ b → ¬ (F b ∧ b < w.heap.size) := fun b hb h => by omega
      have hms := hm.size
      rw [HS2.out] at hms
      have hbxr : OpBox wr w.heap.size O := (hm.block _ (by rw [HS2.out]; exact hoS) (hnG _ (Nat.le_refl _))).trans hbx6
      have hrbr : RngBox wr R r := (hm.block _ (by rw [HS2.out]; exact hRS) (hnG _ (by omega))).trans hrb6
      have HnG := Lib.hid hnG
      clear hnG
      by_cases hlt : k < xs.length
      · have hltz : (k : Int) < (xs.length : Int) := by omega
        have hxsr : SliceAt 3 encRng wr (.slice px xs.length cx) xs := hxs.keep hm.size fun b off n c e hl => hm.block b hl (HnG.out b (by cases e; exact hpx _ _ rfl))
        obtain ⟨b0, off, rfl⟩ : ∃ b0 off, px = some ⟨b0, off, none⟩ := by
          rcases hxs with ⟨_, h⟩ | ⟨b0, off, _, h, _⟩
          · rw [h] at hlt; simp at hlt
          · cases h; exact ⟨_, _, rfl⟩
        obtain ⟨_, hb0, c0, c1, c2⟩ := hxsr.cells3 (k := k) (x := xs[k]) (by simp)
        obtain ⟨hxk1, hxk2, hxk3, hxk4⟩ := Hxw.out xs[k] (by simp)
        have hstep : (xs.take (k + 1)).map (pcR t) = (xs.take k).map (pcR t) ++ [pcR t xs[k]] := by
          rw [List.take_succ_eq_append_getElem hlt, List.map_append]; rfl
        have hQl : (Q ++ (xs.take k).map (pcR t)).length ≤ 104096 := by
          rw [List.length_append, List.length_map, List.length_take]; omega
        obtain ⟨Qk, hQk⟩ : ∃ Qk, Q ++ (xs.take k).map (pcR t) = Qk := ⟨_, rfl⟩
        have hQ1 : Q ++ (xs.take (k + 1)).map (pcR t) = Qk ++ [pcR t xs[k]] := by rw [hstep, ← List.append_assoc, hQk]
        rw [hQk] at hSi hQl
        have HQ1 := Lib.hid hQ1
        clear hstep hQk hQ1 hxsr
        generalize xs[k] = x at c0 c1 c2 hxk1 hxk2 hxk3 hxk4 HQ1
        obtain ⟨xc, xa, xb⟩ := x
        dsimp only at c0 c1 c2 hxk1 hxk2 hxk3 hxk4
        subst hxk1
        go_upto_region 9 with fail
        have hS7 : StoreIn (wr.alloc (.cells #[.int .u64 xc, .int .u64 xa, .int .u64 xb] 72)) (fun b => (F b ∧ b < w.heap.size) ∨ S2 ≤ b) sb K Qk H := hSi.below ((Below.refl _ _).alloc (Nat.le_refl _) _)
        have hm7 : Mods (fun b => F b ∧ b < w.heap.size) w6 (wr.alloc (.cells #[.int .u64 xc, .int .u64 xa, .int .u64 xb] 72)) := hm.alloc _
        have hbx7 : OpBox (wr.alloc (.cells #[.int .u64 xc, .int .u64 xa, .int .u64 xb] 72)) w.heap.size O := (Below.heap_alloc wr _ _ hbxr.lt).trans hbxr
        have hxb7 : RngBox (wr.alloc (.cells #[.int .u64 xc, .int .u64 xa, .int .u64 xb] 72)) wr.heap.size ⟨xc, xa, xb⟩ := RngBox.new wr ⟨xc, xa, xb⟩
        obtain ⟨X, hX⟩ : ∃ X, wr.heap.size = X := ⟨_, rfl⟩
        obtain ⟨w7, hw7⟩ : ∃ w7, wr.alloc (.cells #[.int .u64 xc, .int .u64 xa, .int .u64 xb] 72) = w7 := ⟨_, rfl⟩
        rw [hw7, hX] at hxb7
        rw [hw7] at hS7 hm7 hbx7
        rw [hw7, hX]
        clear hw7 hX hSi hm hbxr hrbr hms c0 c1 c2 hb0
        clear wr
        have o1 : w7.cell? ⟨w.heap.size, 1, none⟩ = some (.int .u64 I) := hbx7.cells 1 _ (by rw [← HO.out]; rfl)
        obtain ⟨x0, x1, x2⟩ := hxb7.cells
        dsimp only at x0 x1 x2
        have hT7 : Tabs w7 := hT.mods ((Mods.of_below hB7).trans hm7) ⟨fun h => hFT.1 h.1, fun h => hFT.2 h.1⟩
        go_upto_region 10 with (first | (refine wpList_load_eq (T := 35) (v := opV O) rfl rfl rfl hbx7.load ?_) | (go_at_call 35; refine (hcut xa xb _ hT7 hxk2 hxk3 hxk4).mono ?_; rintro e w8 ⟨rfl, hb8⟩) | (refine wpList_store_eq (T := 35) (v := opV (pcR t ⟨xc, xa, xb⟩)) rfl rfl rfl rfl (OpBox.store (OpBox.new w8 opZero) _) ?_))
        generalize hP : pcR t ⟨xc, xa, xb⟩ = P at HQ1 ⊢
        clear hP
        have hB8 : Below w7.heap.size w7 (putOp (w8.alloc (.cells (encOp opZero).toArray 35)) w8.heap.size P) := below_putOp (hb8.alloc hb8.size _) hb8.size _
        have hS9 := hS7.below hB8
        have hm9 : Mods (fun b => F b ∧ b < w.heap.size) w6 (putOp (w8.alloc (.cells (encOp opZero).toArray 35)) w8.heap.size P) := hm7.trans (Mods.of_below hB8)
        have hpb9 : OpBox (putOp (w8.alloc (.cells (encOp opZero).toArray 35)) w8.heap.size P) w8.heap.size P := (OpBox.new w8 opZero).put P
        obtain ⟨Y, hY⟩ : ∃ Y, w8.heap.size = Y := ⟨_, rfl⟩
        obtain ⟨w9, hw9⟩ : ∃ w9, putOp (w8.alloc (.cells (encOp opZero).toArray 35)) w8.heap.size P = w9 := ⟨_, rfl⟩
        rw [hw9] at hS9 hm9
        rw [hw9, hY] at hpb9
        have hYw : w7.heap.size ≤ Y := by rw [← hY]; exact hb8.size
        rw [hw9, hY]
        obtain ⟨L7, hL7, hF7⟩ := hS7
        have hwvY : ∀ b, L7.wv.ownBlock = some b → b < Y := fun b e => by have := hL7.foot_lt b (.inr (.inr (.inr (.inl e)))); omega
        have hL9 : StoreAt w9 sb L7 K Qk H := hL7.below (by rw [← hw9]; exact hB8)
        clear hw9 hY hB8 hL7 hm7 hbx7 hxb7 hT7 hb8 o1 x0 x1 x2 hS9 hYw
        have HF7 := Lib.hid hF7
        clear hF7
        clear w8 w7
        obtain ⟨m9, row9, wv9, hv9⟩ := L7
        obtain ⟨pw, cw, rfl⟩ := ownsRow_len hL9.waits
        have hst9 := hL9.st
        dsimp only at hst9 hwvY
        have hsb9 : sb < w9.heap.size := (Array.getElem?_eq_some_iff.1 hst9).1
        have hwsb : (Value.slice pw Qk.length cw).ownBlock ≠ some sb := fun e => by
          obtain ⟨cur, hcur⟩ := ownsRow_obj hL9.waits e
          exact cells_ne hcur hst9 (by decide) rfl
        have hpY := hpb9.lt
        have s1 : ∀ s : MStep (fun b => (Value.slice pw Qk.length cw).ownBlock = some b) w9, s.val.cell? ⟨sb, 1, none⟩ = some (.slice pw Qk.length cw) := MStep.cell hsb9 hwsb (by simp [World.cell?, hst9])
        have l1 : ∀ w', (∃ s : MStep (fun b => (Value.slice pw Qk.length cw).ownBlock = some b) w9, w' = s.val) → (loadVar 35 ⟨Y, 0, none⟩).run Tryz.prog w' = .ok (opV P) w' := by
          rintro _ ⟨s, rfl⟩
          exact OpBox.load ((s.h.block _ hpY (fun e => Nat.lt_irrefl _ (hwvY Y e))).trans hpb9)
        go_upto_region 11 with fail
        refine wp_region_flow3 8 [0, 1, 2, 3, 4, 5] [6, 7, 8, 9, 10] (fun w' => ∃ s : MStep (fun b => (Value.slice pw Qk.length cw).ownBlock = some b) w9, w' = s.val) (by kernel_rfl) (by kernel_rfl) (fun _ _ d _ _ h => by cases d <;> exact h) (MStep.to (Mods.refl _ _).drew) ?_
        simp only [List.map_cons, List.map_nil, List.getElem?_cons_succ, List.getElem?_cons_zero, Option.getD_some]
        repeat (first | go_big_quiet_skip | (go_big_quiet_want; first | (refine quiet_load 35 _ _ rfl rfl l1 ?_; go_frame; go_big_quiet_on) | (go_big_quiet_op; go_big_quiet_on)))
        refine wpQuiet_nil ?_
        refine wpSeqF_step rfl ?_; simp only [List.getElem_toArray, List.getElem_cons_succ, List.getElem_cons_zero]
        go_wp2_with (refine wpList_sliceOp P rfl _ rfl rfl ?_)
        refine ⟨MStep.to (((Mods.refl _ w9).alloc (.cells (encOp P).toArray 35)).drew), ?_⟩
        refine wpSeqF_step rfl ?_; simp only [List.getElem_toArray, List.getElem_cons_succ, List.getElem_cons_zero]
        refine wpList_append_own_at _ rfl _ _ 25 (by rfl) 0 35 ix (opV opZero) 22 200 Tryz.underlying25 hix hz0 hz1 hz2 (by rfl) (by decide) _ _ _ (by rfl) (show World.ownsRow ((w9.alloc _).drew) 0 35 22 (Value.slice pw Qk.length cw) Qk.length (Qk.flatMap encOp) from World.ownsRow.alloc hL9.waits _) ⟨w9.heap.size, 0, none⟩ 1 1 (encOp P) (by rfl) (by rfl) ?tc1 ?tc2 ?tc3 ?tc4 (Nat.zero_le _) ?_
        case tc1 => exact fun j x hu => by rw [Addr.add_lit]; exact (show OpBox ((w9.alloc (.cells (encOp P).toArray 35)).drew) w9.heap.size P from OpBox.new w9 P).cells j x hu
        case tc2 => intro x hx; simp [encOp] at hx; rcases hx with h | h | h | h | h | h | h | h | h | h | h | h | h | h | h | h | h | h | h | h | h | h <;> (subst h; rfl)
        case tc3 => unfold maxLen; omega
        case tc4 => omega
        intro v' w10 hown10 hgrow10 hnil10 hblk10
        go_frame
        have hm10 : Mods (fun b => (Value.slice pw Qk.length cw).ownBlock = some b) w9 w10 := ((Mods.refl _ w9).alloc _).drew.grown hgrow10 (fun b hb => .inl hb)
        refine ⟨fun _ => MStep.to hm10, ?_⟩
        obtain ⟨g', cap', rfl⟩ := ownsRow_succ hown10
        have hst10 : w10.heap[sb]? = some (.cells #[.map (some m9), .slice pw Qk.length cw, hv9] 67 (0, 0)) := (hm10.block _ hsb9 hwsb).trans hst9
        have sc : w10.cell? ⟨sb, 1, none⟩ = some (.slice pw Qk.length cw) := by simp [World.cell?, hst10]
        have sf : w10.frozen? ⟨sb, 1, none⟩ = false := by simp [World.frozen?, hst10]
        refine wpSeqF_step rfl ?_; simp only [List.getElem_toArray, List.getElem_cons_succ, List.getElem_cons_zero]
        go_wp2_with fail
        refine wpSeqF_step rfl ?_; simp only [List.getElem_toArray, List.getElem_cons_succ, List.getElem_cons_zero]
        go_wp2_with fail
        refine wpSeqF_step rfl ?_; simp only [List.getElem_toArray, List.getElem_cons_succ, List.getElem_cons_zero]
        go_wp2_with fail
        refine wpSeqF_nil ?_
        have hne : ∀ b, b ≠ sb → (w10.setCell ⟨sb, 1, none⟩ (.slice (some ⟨g', 0, none⟩) (Qk.length + 1) cap')).heap[b]? = w10.heap[b]? := fun b hb => Below.heap_setCell _ _ _ _ hb
        have hSn := hL9.waitsTo (w' := w10.setCell ⟨sb, 1, none⟩ (.slice (some ⟨g', 0, none⟩) (Qk.length + 1) cap')) (v := .slice (some ⟨g', 0, none⟩) (Qk.length + 1) cap') (Q' := Qk ++ [P])
          (by show (w10.setCell _ _).heap[sb]? = _; simp [World.setCell, Array.getElem?_modify, hst10])
          (fun b hb h1 h2 => (hne b h1).trans (hm10.block b hb h2))
          (by
            have h1 : OwnAt 0 35 22 encOp w10 (.slice (some ⟨g', 0, none⟩) (Qk.length + 1) cap') (Qk ++ [P]) := by
              unfold OwnAt
              rw [List.length_append, List.flatMap_append]
              simpa using hown10
            refine ownsRow_blk h1 fun b e => hne b ?_
            obtain ⟨cur, hcur⟩ := ownsRow_obj h1 e
            exact cells_ne hcur hst10 (by decide))
          (by
            rcases hblk10 with h1 | h1
            · exact .inl h1
            · exact .inr fun b e => by rw [h1] at e; cases e; simp)
        have hFn : ∀ b, SFoot sb { m := m9, row := row9, wv := .slice (some ⟨g', 0, none⟩) (Qk.length + 1) cap', hv := hv9 } K b → (F b ∧ b < w.heap.size) ∨ S2 ≤ b := fun b hb => by
          rcases SFoot.waitsTo (L := { m := m9, row := row9, wv := .slice pw Qk.length cw, hv := hv9 }) hb with h1 | h1
          · exact HF7.out b h1
          · rcases hblk10 with h2 | h2
            · exact HF7.out b (.inr (.inr (.inr (.inl (h2.symm.trans h1)))))
            · rw [h2] at h1
              cases h1
              right
              have h3 := hm9.size
              rw [HS2.out] at h3
              show S2 ≤ (w9.alloc _).heap.size
              rw [World.size_alloc]; omega
        have hmn : Mods (fun b => F b ∧ b < w.heap.size) w6 (w10.setCell ⟨sb, 1, none⟩ (.slice (some ⟨g', 0, none⟩) (Qk.length + 1) cap')) := by
          refine ⟨hm10.os.trans hm9.os, hm10.tape.trans hm9.tape, hm10.output.trans hm9.output, ?_, fun b hb hg => ?_⟩
          · have := hm9.size
            have := hm10.size
            simp; omega
          · have hnot : ∀ b', SFoot sb { m := m9, row := row9, wv := .slice pw Qk.length cw, hv := hv9 } K b' → b' ≠ b := fun b' h1 e => by
              subst e
              rcases HF7.out b' h1 with h2 | h2
              · exact hg h2
              · rw [HS2.out] at hb; omega
            have h9 := hm9.size
            exact ((hne b (fun e => hnot sb (.inl rfl) e.symm)).trans (hm10.block b (by omega) (fun e => hnot b (.inr (.inr (.inr (.inl e)))) rfl))).trans (hm9.block b hb hg)
        obtain ⟨w11, hw11⟩ : ∃ w11, w10.setCell ⟨sb, 1, none⟩ (.slice (some ⟨g', 0, none⟩) (Qk.length + 1) cap') = w11 := ⟨_, rfl⟩
        rw [hw11] at hSn hmn ⊢
        clear hw11 hne hst10 sc sf hnil10 hblk10 hown10 hgrow10 hm10 hL9 hst9 hsb9 hwsb hpY s1 l1 hpb9 hm9 hwvY
        clear w10
        go_wp2_with fail
        go_roundw
        case rel => exact ⟨k + 1, by omega, by go_num, by rw [HQ1.out]; exact ⟨_, hSn, hFn⟩, hmn⟩
        case measure => simp [intOf]; omega
      · obtain rfl : k = xs.length := by omega
        have hltz : ¬ (xs.length : Int) < (xs.length : Int) := by omega
        rw [List.take_length] at hSi
        have Hlow := Lib.hid hm.size
        obtain ⟨L9, hL9, hF9⟩ := hSi
        have HF9 := Lib.hid hF9
        clear hF9
        obtain ⟨m9, row9, wv9, hv9⟩ := L9
        obtain ⟨ph9, ch9, rfl⟩ := ownsRow_len hL9.held
        have hst9 := hL9.st
        dsimp only at hst9
        have hsb9 : sb < wr.heap.size := (Array.getElem?_eq_some_iff.1 hst9).1
        obtain ⟨r0, r1, r2⟩ := hrbr.cells
        have hR9 := hrbr.lt
        have q0 : ∀ s : MStep (fun _ => False) wr, s.val.cell? ⟨R, 0, none⟩ = some (.int .u64 r.c) := MStep.cell hR9 id r0
        have q1 : ∀ s : MStep (fun _ => False) wr, s.val.cell? ⟨R, 1, none⟩ = some (.int .u64 r.a) := MStep.cell hR9 id r1
        have q2 : ∀ s : MStep (fun _ => False) wr, s.val.cell? ⟨R, 2, none⟩ = some (.int .u64 r.b) := MStep.cell hR9 id r2
        have s2 : ∀ s : MStep (fun _ => False) wr, s.val.cell? ⟨sb, 2, none⟩ = some (.slice ph9 H.length ch9) := MStep.cell hsb9 id (by simp [World.cell?, hst9])
        go_upto_region 13 with fail
        refine wp_region_flow3 8 [0, 1, 2, 3, 4, 5] [6, 7, 8, 9, 10] (fun w' => ∃ s : MStep (fun _ => False) wr, w' = s.val) (by kernel_rfl) (by kernel_rfl) (fun _ _ d _ _ h => by cases d <;> exact h) (MStep.to (Mods.refl _ _).drew) ?_
        simp only [List.map_cons, List.map_nil, List.getElem?_cons_succ, List.getElem?_cons_zero, Option.getD_some]
        repeat (first | go_big_quiet_skip | (go_big_quiet_want; first | (fail; go_frame; go_big_quiet_on) | (go_big_quiet_op; go_big_quiet_on)))
        refine wpQuiet_nil ?_
        have hB5 : Below wr.heap.size wr ((wr.alloc (.cells #[.int .u64 r.c, .int .u64 r.a, .int .u64 r.b] 72)).drew) := ((Below.refl _ _).alloc (Nat.le_refl _) _).drew
        have hone : SliceAt 3 encRng ((wr.alloc (.cells #[.int .u64 r.c, .int .u64 r.a, .int .u64 r.b] 72)).drew) (.slice (some ⟨wr.heap.size, 0, none⟩) 1 1) [r] := rng_one wr r
        have hheld : SliceAt 3 encRng ((wr.alloc (.cells #[.int .u64 r.c, .int .u64 r.a, .int .u64 r.b] 72)).drew) (.slice ph9 H.length ch9) H := (OwnAt.slice (k := 3) (enc := encRng) (fun _ => rfl) hL9.held).below hB5
        have hjoin := join_any _ _ H [r] _ hheld hone (by omega) (by simp) rfl rfl
        refine wpSeqF_step rfl ?_; simp only [List.getElem_toArray, List.getElem_cons_succ, List.getElem_cons_zero]
        go_wp2_with fail
        refine ⟨MStep.to (Mods.of_below hB5), ?_⟩
        refine wpSeqF_step rfl ?_; simp only [List.getElem_toArray, List.getElem_cons_succ, List.getElem_cons_zero]
        go_wp2_with fail
        refine hjoin.mono ?_
        rintro e w10 ⟨nv, rfl, H', hHc, hHh, hHo, hb10⟩
        obtain ⟨pn, cn, rfl⟩ := (OwnAt.slice (k := 3) (enc := encRng) (fun _ => rfl) hHo).len
        have hB10 := belowTrans hB5 hb10
        go_wp2_with fail
        refine ⟨MStep.to (Mods.of_below hB10), ?_⟩
        have hst10 : w10.heap[sb]? = some (.cells #[.map (some m9), wv9, .slice ph9 H.length ch9] 67 (0, 0)) := (hB10.block _ hsb9).trans hst9
        have sc : w10.cell? ⟨sb, 2, none⟩ = some (.slice ph9 H.length ch9) := by simp [World.cell?, hst10]
        have sf : w10.frozen? ⟨sb, 2, none⟩ = false := by simp [World.frozen?, hst10]
        refine wpSeqF_step rfl ?_; simp only [List.getElem_toArray, List.getElem_cons_succ, List.getElem_cons_zero]
        go_wp2_with fail
        refine wpSeqF_step rfl ?_; simp only [List.getElem_toArray, List.getElem_cons_succ, List.getElem_cons_zero]
        go_wp2_with fail
        refine wpSeqF_step rfl ?_; simp only [List.getElem_toArray, List.getElem_cons_succ, List.getElem_cons_zero]
        go_wp2_with fail
        refine wpSeqF_nil ?_
        have hne : ∀ b, b ≠ sb → (w10.setCell ⟨sb, 2, none⟩ (.slice pn H'.length cn)).heap[b]? = w10.heap[b]? := fun b hb => Below.heap_setCell _ _ _ _ hb
        have hH0 : OwnAt 0 72 3 encRng w10 (.slice pn H'.length cn) H' := ownsRow_base hHo (Nat.zero_le _)
        have hSn := hL9.heldTo (w' := w10.setCell ⟨sb, 2, none⟩ (.slice pn H'.length cn)) (v := .slice pn H'.length cn) (H' := H')
          (by show (w10.setCell _ _).heap[sb]? = _; simp [World.setCell, Array.getElem?_modify, hst10])
          (fun b hb h1 => (hne b h1).trans (hB10.block b hb))
          (ownsRow_blk hH0 fun b e => hne b (by
            obtain ⟨cur, hcur⟩ := ownsRow_obj hH0 e
            exact cells_ne hcur hst10 (by decide)))
        have hwr : w.heap.size ≤ wr.heap.size := by have := Hlow.out; rw [HS2.out] at this; omega
        have hFn : ∀ b, SFoot sb { m := m9, row := row9, wv := wv9, hv := .slice pn H'.length cn } K b → F b ∨ w.heap.size ≤ b := fun b hb => by
          rcases SFoot.heldTo (L := { m := m9, row := row9, wv := wv9, hv := .slice ph9 H.length ch9 }) hb with h1 | h1
          · rcases HF9.out b h1 with h2 | h2
            · exact .inl h2.1
            · exact .inr (by omega)
          · right
            have h3 := (World.ownsRow.lt hHo b h1).1
            have h4 : wr.heap.size ≤ ((wr.alloc (.cells #[.int .u64 r.c, .int .u64 r.a, .int .u64 r.b] 72)).drew).heap.size := hB5.size
            omega
        have hmn : Mods F w (w10.setCell ⟨sb, 2, none⟩ (.slice pn H'.length cn)) := by
          have h0 := (Mods.of_below (S := fun b => F b ∧ b < w.heap.size) hB7).trans hm
          refine ⟨hB10.os.trans h0.os, hB10.tape.trans h0.tape, hB10.output.trans h0.output, ?_, fun b hb hg => ?_⟩
          · have := hB10.size
            simp; omega
          · have h2 : b ≠ sb := fun e => by
              subst e
              rcases HF9.out b (.inl rfl) with h2 | h2
              · exact hg h2.1
              · omega
            exact ((hne b h2).trans (hB10.block b (by omega))).trans (h0.block b hb fun h => hg h.1)
        go_end0
        rw [Hr.out]
        exact ⟨rfl, xs, H', Hxc.out, Hxh.out, hHc, hHh, ⟨_, hSn, hFn⟩, hmn⟩
end Go.Proofs.YtaeebgljcdfolaaGreatDoor
