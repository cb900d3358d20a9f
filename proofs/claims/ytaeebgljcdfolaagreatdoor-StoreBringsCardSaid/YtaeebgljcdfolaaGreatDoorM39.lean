/- Walks: the document's answer's join of texts of different clients (quireref8.Fits, Join). -/
import Derived.Test.YtaeebgljcdfolaaGreatDoorM25
import Derived.Test.YtaeebgljcdfolaaGreatDoorM30
import Derived.Test.YtaeebgljcdfolaaGreatDoorM24
import Derived.Test.YtaeebgljcdfolaaGreatDoorM33
import Derived.Deep.MidRow
namespace Go.Proofs.YtaeebgljcdfolaaGreatDoor
open Go.RowKit Go.Lib

set_option maxRecDepth 100000 in
set_option maxHeartbeats 1000000 in
theorem fits8_no (c d : Int) (t u : ByteArray) (h : c < d) (w : World) : Calls Tryz.prog 51 #[opV (kOp c t), opV (kOp d u)] w fun e w' => e = .returned (.bool false) ∧ Below w.heap.size w w' := by
  have h1 : ¬ c = d := by omega
  change Calls Tryz.prog 51 #[.agg #[.int .u64 (⟨c, 1⟩ : QId).c, .int .u64 (⟨c, 1⟩ : QId).k, .int .i64 1, .int .u64 0, .int .u64 idZero.c, .int .u64 idZero.k, .int .u64 idZero.c, .int .u64 idZero.k, .string t, .int .i64 0, .int .i64 0, .float .f64 0, .string ⟨#[]⟩, .string ⟨#[]⟩, .int .u64 0, .int .u64 0, .int .u64 0, .int .u64 0, .bool false, .int .u64 0, .int .u64 0, .bool false], .agg #[.int .u64 (⟨d, 1⟩ : QId).c, .int .u64 (⟨d, 1⟩ : QId).k, .int .i64 1, .int .u64 0, .int .u64 idZero.c, .int .u64 idZero.k, .int .u64 idZero.c, .int .u64 idZero.k, .string u, .int .i64 0, .int .i64 0, .float .f64 0, .string ⟨#[]⟩, .string ⟨#[]⟩, .int .u64 0, .int .u64 0, .int .u64 0, .int .u64 0, .bool false, .int .u64 0, .int .u64 0, .bool false]] w _
  go_enter Tryz.func51, Tryz.ntmps51
  go_wp2
  go_ret
  exact ⟨rfl, by (repeat (first | exact Below.refl _ _ | assumption | refine Below.alloc ?_ (by simp <;> omega) _ | refine Below.drew ?_ | refine below_drewN ?_ _ | refine Below.setCell ?_ (by simp <;> omega) _ | refine belowTrans ?_ (by assumption)))⟩
/-- the last op of a row is written. -/
theorem OwnAt.setLast {S g cap n : Nat} {w : World} {out : List QOp} {z o : QOp} (h : OwnAt S 35 22 encOp w (.slice (some ⟨g, 0, none⟩) n cap) (out ++ [z])) :
    (storeVar 35 ⟨g, out.length * 22, none⟩ (opV o)).run Tryz.prog w = .ok () (w.setCells g (out.length * 22) (encOp o)) ∧
    OwnAt S 35 22 encOp (w.setCells g (out.length * 22) (encOp o)) (.slice (some ⟨g, 0, none⟩) n cap) (out ++ [o]) ∧ Below S w (w.setCells g (out.length * 22) (encOp o)) := by
  have hsl := OwnAt.slice (k := 22) (enc := encOp) (fun _ => rfl) h
  obtain ⟨h1, ⟨hv, h0⟩ | ⟨g', cap', cur, hv, hb, hg, hn, hc, hs, ht⟩⟩ := h
  · cases hv
  cases hv
  have hcell : ∀ p, p < (out.length + 1) * 22 → (w.cell? ⟨g, p, none⟩).isSome = true ∧ w.frozen? ⟨g, p, none⟩ = false := fun p hp => by
    have hlt : p < cur.size := by
      rw [hs]
      have : (out ++ [z]).length ≤ cap := hn
      rw [List.length_append, List.length_singleton] at this
      have := Nat.mul_le_mul_right 22 this
      omega
    refine ⟨?_, by simp [World.frozen?, hg]⟩
    simp only [World.cell?, hg, Option.isSome_none, Bool.false_eq_true, if_false]
    rw [Array.getElem?_eq_getElem hlt]
    rfl
  have hst := run_storeVar_mid (P := Tryz.prog) w g (out.length * 22) 35 (encOp o).toArray (fun j hj => hcell _ (by have : j < 22 := hj; omega)) (by kernel_rfl) (by simp [encOp, Value.oneCell'])
  obtain ⟨r1, r2, r3, r4, r5⟩ := setCells_rest g (encOp o) (out.length * 22) w
  obtain ⟨cur2, hc2, hs2⟩ := setCells_row g (encOp o) (out.length * 22) w cur hg
  refine ⟨hst, ?_, ⟨r3, r4, r5, by rw [r2]; exact Nat.le_refl _, fun k hk => r1 k (by omega)⟩⟩
  have hl : (out ++ [z]).length = (out ++ [o]).length := by simp
  rw [hl]
  refine OwnAt.of_cells (l := out ++ [o]) (k := 22) (enc := encOp) (fun _ => rfl) hb hc2 (by rw [← hl]; exact hn) hc (by rw [hs2]; exact hs) fun j x hj i y hi => ?_
  have hi22 : i < 22 := (List.getElem?_eq_some_iff.1 hi).1
  rcases Nat.lt_or_ge j out.length with hlt | hge
  · rw [World.cell?_setCells_out g _ _ _ _ (fun _ _ => .inl (by show j * 22 + i < out.length * 22; omega))]
    rcases hsl with ⟨e, _⟩ | ⟨b', off', c', e, _, _, hcc⟩
    · cases e
    · cases e
      have := hcc j x (by rw [List.getElem?_append_left hlt] at hj ⊢; exact hj) i y hi
      rwa [Nat.zero_add] at this
  · have hjl : j = out.length := by
      have := (List.getElem?_eq_some_iff.1 hj).1
      simp at this
      omega
    subst hjl
    obtain rfl : o = x := by simpa using hj
    have h2 := World.cell?_setCells_in g (encOp o) (out.length * 22) w (fun p hp => (hcell _ (by have : p < 22 := hp; omega)).1) i (by exact hi22)
    rw [h2, List.getElem?_eq_getElem (show i < (encOp o).length from hi22)] at *
    exact hi
theorem OpCells.belowS {S : Nat} {w w' : World} {b off : Nat} {o : QOp} (h : OpCells w b off o) (hb : Below S w w') (hl : b < S) : OpCells w' b off o := fun i y hy => (hb.cell (p := ⟨b, off + i, none⟩) hl).trans (h i y hy)
/-- whole texts of different clients. -/
structure JoinK (l : List QOp) : Prop where
  ok : ∀ o ∈ l, ∃ c t, o = kOp c t ∧ 1 ≤ c ∧ c ≤ 1000 ∧ okT t = true ∧ t.size ≤ 1000
  ord : l.Pairwise fun x y => x.id.c < y.id.c
set_option maxRecDepth 100000 in
set_option maxHeartbeats 8000000 in
theorem join8_any (sv : Value) (l : List QOp) (w : World) (hl : SliceAt 22 encOp w sv l) (hj : JoinK l) (hn : l.length ≤ 19) :
    Calls Tryz.prog 17 #[sv] w (RetW fun v w' => OwnAt w.heap.size 35 22 encOp w' v l ∧ Below w.heap.size w w') := by
  obtain ⟨ix, hix, hz0, hz1, hz2⟩ := info_parts infoOp
  have HJ := Lib.hid hj
  have HL := Lib.hid hl
  obtain ⟨p, cap, rfl⟩ : ∃ p cap, sv = .slice p l.length cap := by
    rcases hl with ⟨e, h⟩ | ⟨b, off, c, e, _⟩
    · subst h; exact ⟨none, 0, e⟩
    · exact ⟨_, _, e⟩
  obtain ⟨S, hS⟩ : ∃ S, w.heap.size = S := ⟨_, rfl⟩
  have HS := Lib.hid hS
  rw [hS]
  clear hj hl hS
  go_enter Tryz.func17, Tryz.ntmps17
  go_wp2_with fail
  go_loopw [3, 4] (fun o i wr => ∃ k : Nat, k ≤ l.length ∧ i = .int .i64 k ∧ OwnAt S 35 22 encOp wr o (l.take k) ∧ Below S w wr) (fun _ i _ => l.length - (intOf i).toNat)
  case atStart => exact ⟨0, Nat.zero_le _, rfl, OwnAt.nil, Below.refl _ _⟩
  case round =>
    obtain ⟨k, hk, rfl, ho, hb⟩ := hrel
    by_cases hlt : k < l.length
    · have hltz : (k : Int) < (l.length : Int) := by omega
      have hlr : SliceAt 22 encOp wr (.slice p l.length cap) l := HL.out.keep (by have := hb.size; have := HS.out; omega) fun b off n c e hlt => hb.block b (by rw [← HS.out]; exact hlt)
      obtain ⟨b, off, rfl⟩ : ∃ b off, p = some ⟨b, off, none⟩ := by
        rcases hlr with ⟨_, h⟩ | ⟨b0, off, _, h, _⟩
        · rw [h] at hlt; simp at hlt
        · cases h; exact ⟨_, _, rfl⟩
      obtain ⟨hcc, hbl, hoc⟩ := opCells hlr (k := k) (x := l[k]) (by simp)
      clear hcc
      obtain ⟨c, t, hx, hc1, hc2, hot, hts⟩ := HJ.out.ok l[k] (by simp)
      have hstep : l.take (k + 1) = l.take k ++ [l[k]] := List.take_succ_eq_append_getElem hlt
      have hprev : ∀ j (y : QOp), (l.take k)[j]? = some y → y.id.c < c := fun j y hy => by
        have h1 : j < k := by have := (List.getElem?_eq_some_iff.1 hy).1; rw [List.length_take] at this; omega
        rw [List.getElem?_take_of_lt h1] at hy
        obtain ⟨h2, h3⟩ := List.getElem?_eq_some_iff.1 hy
        have := List.pairwise_iff_getElem.1 HJ.out.ord j k h2 hlt h1
        rw [h3, hx] at this
        exact this
      obtain ⟨hcc, hbS, hoc0⟩ := opCells HL.out (k := k) (x := l[k]) (by simp)
      rw [HS.out] at hbS
      clear hcc
      rw [hx] at hoc hstep hoc0
      have HOC := Lib.hid hoc0
      clear hoc0
      have HST := Lib.hid hstep
      have HPV := Lib.hid hprev
      have htl : (l.take k).length = k := by rw [List.length_take]; omega
      have hk19 : k ≤ 19 := by omega
      have hch := fun w => check8_k c t w hc1 hc2 hts
      rw [if_pos hot] at hch
      clear hx hstep hprev hlr hot
      generalize l.take k = out at ho HST HPV htl
      have hSw : S ≤ wr.heap.size := by have := hb.size; have := HS.out; omega
      have hload := load_op hoc
      go_upto_region 7 with (first | (refine wpList_load_eq (T := 35) (v := opV (kOp c t)) rfl rfl rfl hload ?_) | (go_at_call 6; refine (hch _).mono ?_; rintro e w1 ⟨rfl, hb1⟩))
      have hB1 := hb.trans (hb1.mono hSw)
      have ho1 : OwnAt S 35 22 encOp w1 u3 out := ownsRow_blk ho fun b e => hb1.block b (ownsRow_lt ho b e)
      have hoc1 := hoc.below hb1 hbl
      have hbl1 := Nat.lt_of_lt_of_le hbl hb1.size
      have hSw1 : S ≤ w1.heap.size := Nat.le_trans hSw hb1.size
      clear hload hch hb1 hoc hbl ho hb hSw
      obtain ⟨p3, cap3, rfl⟩ := ownsRow_len ho1
      rw [htl] at ho1 ⊢
      go_loopw [5] (fun a wx => ∃ j : Nat, j ≤ k ∧ a = .int .i64 j ∧ Below w1.heap.size w1 wx) (fun a _ => k - (intOf a).toNat)
      case atStart => exact ⟨0, Nat.zero_le _, rfl, Below.refl _ _⟩
      case round =>
        obtain ⟨j, hjk, rfl, hbx⟩ := hrel
        have hbxz : S ≤ wr.heap.size := Nat.le_trans hSw1 hbx.size
        have hox : OwnAt S 35 22 encOp wr (.slice p3 k cap3) out := ownsRow_blk ho1 fun b e => hbx.block b (ownsRow_lt ho1 b e)
        have hocx := hoc1.below hbx hbl1
        have hblx := Nat.lt_of_lt_of_le hbl1 hbx.size
        by_cases hjl : j < k
        · have hjz : (j : Int) < (k : Int) := by omega
          obtain ⟨g, rfl⟩ : ∃ g, p3 = some ⟨g, 0, none⟩ := by
            rcases hox.2 with ⟨e, _⟩ | ⟨g, cap, cur, e, _⟩
            · have e2 := Value.slice.inj e; omega
            · exact ⟨g, (Value.slice.inj e).1⟩
          obtain ⟨y, hy⟩ : ∃ y, out[j]? = some y := ⟨out[j]'(by omega), by simp [show j < out.length by omega]⟩
          obtain ⟨hcc, hgl, hoy⟩ := opCells (OwnAt.slice (k := 22) (enc := encOp) (fun _ => rfl) hox) hy
          clear hcc
          have hyc := HPV.out j y hy
          have hls := fun w => less6_any y.id ⟨c, 1⟩ w
          rw [show y.id.lessB ⟨c, 1⟩ = true by simp [QId.lessB, hyc]] at hls
          have p0 : ∀ s : BStep wr, s.val.cell? ⟨g, j * 22, none⟩ = some (.int .u64 y.id.c) := BStep.cell hgl (by have := hoy 0 _ rfl; rwa [Nat.zero_add, Nat.add_zero] at this)
          have p1 : ∀ s : BStep wr, s.val.cell? ⟨g, j * 22 + 1, none⟩ = some (.int .u64 y.id.k) := BStep.cell hgl (by have := hoy 1 _ rfl; rwa [Nat.zero_add] at this)
          have x0 : ∀ s : BStep wr, s.val.cell? ⟨b, off + k * 22, none⟩ = some (.int .u64 c) := BStep.cell hblx (by have := hocx 0 _ rfl; rwa [Nat.add_zero] at this)
          have x1 : ∀ s : BStep wr, s.val.cell? ⟨b, off + k * 22 + 1, none⟩ = some (.int .u64 1) := BStep.cell hblx (hocx 1 _ rfl)
          clear hoy hocx hy hyc
          go_wp2_with fail
          refine wp_region_b (by kernel_rfl) (by kernel_rfl) ?_
          repeat (first | go_big_quiet_skip | (go_big_quiet_want; first | (fail; go_frame; go_big_quiet_on) | (go_big_quiet_op; first | go_big_quiet_on | go_big_quiet_call ((go_at_call 50; exact callsB (hls _))))))
          refine wpQuiet_nil ?_
          intro W' hC'
          have hBW' := BStep.of hC'
          go_wp2_with fail
          go_roundw
          case rel => exact ⟨j + 1, by omega, by go_num, belowTrans hbx hBW'⟩
          case measure => simp [intOf]; omega
        · obtain rfl : j = k := by omega
          have hjz : ¬ (j : Int) < (j : Int) := by omega
          have hjd : decide ((j : Int) < (j : Int)) = false := by simp
          go_wp2_with fail
          refine wp_region_b (by kernel_rfl) (by kernel_rfl) ?_
          repeat (first | go_big_quiet_skip | (go_big_quiet_want; first | (fail; go_frame; go_big_quiet_on) | (go_big_quiet_op; first | go_big_quiet_on | go_big_quiet_call (fail))))
          refine wpQuiet_nil ?_
          intro W' hC'
          have hBW' := BStep.of hC'
          have hB2 := hB1.trans ((belowTrans hbx hBW').mono hSw1)
          have hbw2 := hBW'
          have ho2 : OwnAt S 35 22 encOp W' (.slice p3 j cap3) out := ownsRow_blk hox fun b e => hBW'.block b (ownsRow_lt hox b e)
          have hoc2 := hocx.below hBW' hblx
          have hbl2 := Nat.lt_of_lt_of_le hblx hBW'.size
          have hS2 : S ≤ W'.heap.size := Nat.le_trans hbxz hBW'.size
          clear hC' hBW' hbw2 hox hocx hblx hbx hbxz ho1 hoc1 hbl1 hSw1 hB1
          obtain ⟨W2, hW2⟩ : ∃ W2, W' = W2 := ⟨_, rfl⟩
          rw [hW2] at hB2 ho2 hoc2 hbl2 hS2 ⊢
          clear hW2
          go_wp2_with fail
          refine wp_region_b (by kernel_rfl) (by kernel_rfl) ?_
          repeat (first | go_big_quiet_skip | (go_big_quiet_want; first | (fail; go_frame; go_big_quiet_on) | (go_big_quiet_op; first | go_big_quiet_on | go_big_quiet_call (fail))))
          refine wpQuiet_nil ?_
          intro W' hC'
          have hBW' := BStep.of hC'
          have hB3 := hB2.trans (hBW'.mono hS2)
          have ho3 : OwnAt S 35 22 encOp W' (.slice p3 j cap3) out := ownsRow_blk ho2 fun b e => hBW'.block b (ownsRow_lt ho2 b e)
          have hoc3 := hoc2.below hBW' hbl2
          have hbl3 := Nat.lt_of_lt_of_le hbl2 hBW'.size
          clear hC' hBW' hB2 ho2 hoc2 hbl2 hS2
          clear W2
          go_upto_region 11 with (first | fail | (refine wpList_sliceOp opZero rfl _ rfl rfl ?_) | (at_builtin; refine wpList_append_own_at _ rfl _ _ 25 rfl S 35 ix (opV opZero) 22 200 Tryz.underlying25 hix hz0 hz1 hz2 rfl (by decide) _ _ _ rfl (show World.ownsRow (W'.alloc _) S 35 22 (.slice p3 j cap3) out.length (out.flatMap encOp) from World.ownsRow.alloc ho3 _) ⟨W'.heap.size, 0, none⟩ 1 1 (encOp opZero) rfl rfl ?za1 ?za2 ?za3 ?za4 ?za5 ?_))
          case za1 => exact fun k u hu => by rw [Addr.add_lit]; exact (OpBox.new W' opZero).cells k u hu
          case za2 => intro u hu; simp [encOp] at hu; rcases hu with h | h | h | h | h | h | h | h | h | h | h | h | h | h | h | h | h | h | h | h | h | h <;> (subst h; rfl)
          case za3 => unfold maxLen; omega
          case za4 => have := hB3.size; have := HS.out; first | omega | (simp; omega)
          case za5 => have := hB3.size; have := HS.out; first | omega | (simp; omega)
          intro v' w4 hown' hgrow _ hblk
          have hB4 : Below S w w4 := (hB3.alloc (by have := hB3.size; have := HS.out; omega) _).grown hgrow (by have := hB3.size; have := HS.out; simp; omega) (fun b e => (World.ownsRow.lt ho3 b e).1)
          have ho4 : OwnAt S 35 22 encOp w4 v' (out ++ [opZero]) := by
            unfold OwnAt
            rw [List.length_append, List.flatMap_append]
            first | (simpa using hown') | (simpa [htl] using hown')
          clear hown' hgrow hblk
          obtain ⟨g4, cap4, rfl⟩ : ∃ g cap, v' = .slice (some ⟨g, 0, none⟩) (j + 1) cap := by
            rcases ho4.2 with ⟨_, e⟩ | ⟨g, cap, cur, e, _⟩
            · simp at e
            · rw [List.length_append, List.length_singleton, htl] at e; exact ⟨g, cap, e⟩
          have hl4 := load_op (HOC.out.belowS hB4 hbS)
          obtain ⟨hst4, ho5, hb5⟩ := OwnAt.setLast (o := kOp c t) ho4
          rw [htl] at hst4 ho5 hb5
          have ej : ((j : Int) + 1) - 1 = j := by omega
          have ej2 : ¬ (j : Int) < (j : Int) := by omega
          have hb6 := hB4.trans hb5
          generalize w4.setCells g4 (j * 22) (encOp (kOp c t)) = w5 at hst4 ho5 hb6
          clear hb5
          have HB5 := Lib.hid hb6
          have HO5 := Lib.hid ho5
          clear ho4 hB3 ho3 hoc3 hbl3 ho5 hb6
          go_wp2_with fail
          go_loopw [6] (fun z wx => z = .int .i64 j ∧ wx = w4) (fun _ _ => 0)
          case atStart => exact ⟨rfl, rfl⟩
          case round =>
            obtain ⟨rfl, rfl⟩ := hrel
            have ej3 : decide ((j : Int) < (j : Int)) = false := by simp
            go_upto_region 15 with fail
            clear ej ej2 ej3
            have ej5 : (j : Int) < (j : Int) + 1 := by omega
            have ej6 : (j : Int) < ((j + 1 : Nat) : Int) := by omega
            go_wp2_with (first | (refine wpList_load_eq (T := 35) (v := opV (kOp c t)) rfl rfl rfl hl4 ?_) | (refine wpList_store_eq (T := 35) (v := opV (kOp c t)) rfl rfl rfl rfl hst4 ?_))
            exact ⟨⟨j + 1, by omega, by go_num, by rw [HST.out]; exact HO5.out, HB5.out⟩, by simp [intOf]; omega⟩
    · obtain rfl : k = l.length := by omega
      have hltz : ¬ (l.length : Int) < (l.length : Int) := by omega
      rw [List.take_length] at ho
      obtain ⟨p3, cap3, rfl⟩ := ownsRow_len ho
      obtain ⟨S3, hS3⟩ : ∃ S3, wr.heap.size = S3 := ⟨_, rfl⟩
      have HS3 := Lib.hid hS3
      have hSS : S ≤ S3 := by have := hb.size; have := HS.out; omega
      have HO := Lib.hid ho
      have HB := Lib.hid hb
      clear ho hb hS3
      obtain ⟨w3, hw3⟩ : ∃ w3, wr = w3 := ⟨_, rfl⟩
      rw [hw3] at HS3 HO HB ⊢
      clear hw3 hltz
      go_wp2_with fail
      go_loopw [7, 8] (fun o i wx => ∃ k : Nat, k ≤ l.length ∧ i = .int .i64 k ∧ OwnAt S3 35 22 encOp wx o (l.take k) ∧ Below S3 w3 wx) (fun _ i _ => l.length - (intOf i).toNat)
      case atStart => exact ⟨0, Nat.zero_le _, rfl, OwnAt.nil, Below.refl _ _⟩
      case round =>
        obtain ⟨k, hk, rfl, ho, hb⟩ := hrel
        by_cases hlt : k < l.length
        · obtain ⟨g3, rfl⟩ : ∃ g, p3 = some ⟨g, 0, none⟩ := by
            rcases HO.out.2 with ⟨e, _⟩ | ⟨g, cap, cur, e, _⟩
            · have e2 := Value.slice.inj e; omega
            · exact ⟨g, (Value.slice.inj e).1⟩
          obtain ⟨hcc, hg3, hoc⟩ := opCells (OwnAt.slice (k := 22) (enc := encOp) (fun _ => rfl) HO.out) (k := k) (x := l[k]) (by simp)
          clear hcc
          rw [HS3.out] at hg3
          obtain ⟨c, t, hx, hc1, hc2, hot, hts⟩ := HJ.out.ok l[k] (by simp)
          have hstep : l.take (k + 1) = l.take k ++ [l[k]] := List.take_succ_eq_append_getElem hlt
          have hprv : ∀ m (h : m + 1 = k), ∃ d u, (l.take k)[m]? = some (kOp d u) ∧ d < c := fun m h => by
            subst h
            obtain ⟨d, u, hd, _⟩ := HJ.out.ok l[m] (by simp)
            refine ⟨d, u, by rw [List.getElem?_take_of_lt (by omega), ← hd]; simp, ?_⟩
            have := List.pairwise_iff_getElem.1 HJ.out.ord m (m + 1) (by omega) hlt (by omega)
            rw [hx, hd] at this
            exact this
          rw [hx, Nat.zero_add] at hoc
          rw [hx] at hstep
          have HOC := Lib.hid hoc
          have HST := Lib.hid hstep
          have HPR := Lib.hid hprv
          have htl : (l.take k).length = k := by rw [List.length_take]; omega
          have hk19 : k ≤ 19 := by omega
          clear hx hstep hprv hoc hot
          generalize l.take k = out at ho HST HPR htl
          have hltz : (k : Int) < (l.length : Int) := by omega
          obtain ⟨p7, cap7, rfl⟩ := ownsRow_len ho
          rw [htl] at ho ⊢
          rcases Nat.eq_zero_or_pos k with hk0 | hk0
          · have hk1 : ¬ 0 < k := by omega
            have hk2 : decide ((0 : Int) < (k : Int)) = false := by simp; omega
            clear hk0
            go_wp2_with fail
            refine wp_region_b (by kernel_rfl) (by kernel_rfl) ?_
            repeat (first | go_big_quiet_skip | (go_big_quiet_want; first | (fail; go_frame; go_big_quiet_on) | (go_big_quiet_op; first | go_big_quiet_on | go_big_quiet_call (fail))))
            refine wpQuiet_nil ?_
            intro W' hC'
            have hBW' := BStep.of hC'
            have hB5 := hb.trans (hBW'.mono (by have := hb.size; have := HS3.out; omega))
            have ho5 : OwnAt S3 35 22 encOp W' (.slice p7 k cap7) out := ownsRow_blk ho fun b e => hBW'.block b (ownsRow_lt ho b e)
            have hl5 := load_op (HOC.out.belowS hB5 hg3)
            have hst9 := HST.out
            first | clear l1 l2 hft hod hk3 hk4 | skip
            clear hC' hBW' hb ho HST
            generalize kOp c t = O at hl5 hst9
            have HST := Lib.hid hst9
            have HL5 := Lib.hid hl5
            clear hst9 hl5
            go_upto_region 19 with (first | (refine wpList_load_eq (T := 35) (v := opV O) rfl rfl rfl HL5.out ?_) | (refine wpList_sliceOp O rfl _ rfl rfl ?_) | (at_builtin; refine wpList_append_own_at _ rfl _ _ 25 rfl S3 35 ix (opV opZero) 22 200 Tryz.underlying25 hix hz0 hz1 hz2 rfl (by decide) _ _ _ rfl (show World.ownsRow (W'.alloc _) S3 35 22 (.slice p7 k cap7) out.length (out.flatMap encOp) from World.ownsRow.alloc ho5 _) ⟨W'.heap.size, 0, none⟩ 1 1 (encOp O) rfl rfl ?fa1 ?fa2 ?fa3 ?fa4 ?fa5 ?_))
            case fa1 => exact fun k u hu => by rw [Addr.add_lit]; exact (OpBox.new W' O).cells k u hu
            case fa2 => intro u hu; simp [encOp] at hu; rcases hu with h | h | h | h | h | h | h | h | h | h | h | h | h | h | h | h | h | h | h | h | h | h <;> (subst h; rfl)
            case fa3 => unfold maxLen; omega
            case fa4 => have := hB5.size; have := HS3.out; first | omega | (simp; omega)
            case fa5 => have := hB5.size; have := HS3.out; first | omega | (simp; omega)
            intro v' w6 hown' hgrow _ hblk
            have hB6 : Below S3 w3 w6 := (hB5.alloc (by have := hB5.size; have := HS3.out; omega) _).grown hgrow (by have := hB5.size; have := HS3.out; simp; omega) (fun b e => (World.ownsRow.lt ho5 b e).1)
            have ho6 : OwnAt S3 35 22 encOp w6 v' (out ++ [O]) := by
              unfold OwnAt
              rw [List.length_append, List.flatMap_append]
              first | (simpa using hown') | (simpa [htl] using hown')
            clear hown' hgrow hblk
            go_wp2_with fail
            exact ⟨⟨k + 1, by omega, by go_num, by rw [HST.out]; exact ho6, hB6⟩, by simp [intOf]; omega⟩
          · obtain ⟨m, hm⟩ : ∃ m, k = m + 1 := ⟨k - 1, by omega⟩
            obtain ⟨d, u, hdu, hdc⟩ := HPR.out m hm.symm
            obtain ⟨g7, rfl⟩ : ∃ g, p7 = some ⟨g, 0, none⟩ := by
              rcases ho.2 with ⟨e, _⟩ | ⟨g, cap, cur, e, _⟩
              · have e2 := Value.slice.inj e; omega
              · exact ⟨g, (Value.slice.inj e).1⟩
            obtain ⟨hcc, hg7, hod⟩ := opCells (OwnAt.slice (k := 22) (enc := encOp) (fun _ => rfl) ho) hdu
            clear hcc
            rw [Nat.zero_add] at hod
            have hft := fun w => fits8_no d c u t hdc w
            have l1 : ∀ w', (∃ s : BStep wr, w' = s.val) → (loadVar 35 ⟨g7, m * 22, none⟩).run Tryz.prog w' = .ok (opV (kOp d u)) w' := by
              rintro _ ⟨s, rfl⟩
              exact load_op (hod.below s.h hg7)
            have l2 : ∀ w', (∃ s : BStep wr, w' = s.val) → (loadVar 35 ⟨g3, k * 22, none⟩).run Tryz.prog w' = .ok (opV (kOp c t)) w' := by
              rintro _ ⟨s, rfl⟩
              exact load_op (HOC.out.belowS (hb.trans (s.h.mono (by have := hb.size; have := HS3.out; omega))) hg3)
            have hk2 : decide ((0 : Int) < (k : Int)) = true := by simp; omega
            have hk3 : (k : Int) - 1 = (m : Int) := by omega
            have hk4 : (m : Int) < (k : Int) := by omega
            clear hm
            go_wp2_with fail
            refine wp_region_b (by kernel_rfl) (by kernel_rfl) ?_
            repeat (first | go_big_quiet_skip | (go_big_quiet_want; first | ((first | refine quiet_load 35 _ _ rfl rfl l1 ?_ | refine quiet_load 35 _ _ rfl rfl l2 ?_); go_frame; go_big_quiet_on) | (go_big_quiet_op; first | go_big_quiet_on | go_big_quiet_call ((go_at_call 51; exact callsB (hft _))))))
            refine wpQuiet_nil ?_
            intro W' hC'
            have hBW' := BStep.of hC'
            have hB5 := hb.trans (hBW'.mono (by have := hb.size; have := HS3.out; omega))
            have ho5 : OwnAt S3 35 22 encOp W' (.slice (some ⟨g7, 0, none⟩) k cap7) out := ownsRow_blk ho fun b e => hBW'.block b (ownsRow_lt ho b e)
            have hl5 := load_op (HOC.out.belowS hB5 hg3)
            have hst9 := HST.out
            first | clear l1 l2 hft hod hk3 hk4 | skip
            clear hC' hBW' hb ho HST
            generalize kOp c t = O at hl5 hst9
            have HST := Lib.hid hst9
            have HL5 := Lib.hid hl5
            clear hst9 hl5
            go_upto_region 19 with (first | (refine wpList_load_eq (T := 35) (v := opV O) rfl rfl rfl HL5.out ?_) | (refine wpList_sliceOp O rfl _ rfl rfl ?_) | (at_builtin; refine wpList_append_own_at _ rfl _ _ 25 rfl S3 35 ix (opV opZero) 22 200 Tryz.underlying25 hix hz0 hz1 hz2 rfl (by decide) _ _ _ rfl (show World.ownsRow (W'.alloc _) S3 35 22 (.slice (some ⟨g7, 0, none⟩) k cap7) out.length (out.flatMap encOp) from World.ownsRow.alloc ho5 _) ⟨W'.heap.size, 0, none⟩ 1 1 (encOp O) rfl rfl ?fb1 ?fb2 ?fb3 ?fb4 ?fb5 ?_))
            case fb1 => exact fun k u hu => by rw [Addr.add_lit]; exact (OpBox.new W' O).cells k u hu
            case fb2 => intro u hu; simp [encOp] at hu; rcases hu with h | h | h | h | h | h | h | h | h | h | h | h | h | h | h | h | h | h | h | h | h | h <;> (subst h; rfl)
            case fb3 => unfold maxLen; omega
            case fb4 => have := hB5.size; have := HS3.out; first | omega | (simp; omega)
            case fb5 => have := hB5.size; have := HS3.out; first | omega | (simp; omega)
            intro v' w6 hown' hgrow _ hblk
            have hB6 : Below S3 w3 w6 := (hB5.alloc (by have := hB5.size; have := HS3.out; omega) _).grown hgrow (by have := hB5.size; have := HS3.out; simp; omega) (fun b e => (World.ownsRow.lt ho5 b e).1)
            have ho6 : OwnAt S3 35 22 encOp w6 v' (out ++ [O]) := by
              unfold OwnAt
              rw [List.length_append, List.flatMap_append]
              first | (simpa using hown') | (simpa [htl] using hown')
            clear hown' hgrow hblk
            go_wp2_with fail
            exact ⟨⟨k + 1, by omega, by go_num, by rw [HST.out]; exact ho6, hB6⟩, by simp [intOf]; omega⟩
        · obtain rfl : k = l.length := by omega
          rw [List.take_length] at ho
          obtain ⟨p7, cap7, rfl⟩ := ownsRow_len ho
          obtain ⟨S5, hS5⟩ : ∃ S5, wr.heap.size = S5 := ⟨_, rfl⟩
          have HS5 := Lib.hid hS5
          have hS35 : S3 ≤ S5 := by have := hb.size; have := HS3.out; omega
          have HO5 := Lib.hid ho
          have HB5 := Lib.hid (HB.out.trans (hb.mono hSS))
          clear ho hb hS5
          obtain ⟨w5, hw5⟩ : ∃ w5, wr = w5 := ⟨_, rfl⟩
          rw [hw5] at HS5 HO5 HB5 ⊢
          have hltz : ¬ (l.length : Int) < (l.length : Int) := by omega
          clear hw5
          go_wp2_with fail
          go_loopw [10, 11] (fun o i wx => ∃ k : Nat, k ≤ l.length ∧ i = .int .i64 k ∧ OwnAt S5 35 22 encOp wx o (l.take k) ∧ Below S5 w5 wx) (fun _ i _ => l.length - (intOf i).toNat)
          case atStart => exact ⟨0, Nat.zero_le _, rfl, OwnAt.nil, Below.refl _ _⟩
          case round =>
            obtain ⟨k, hk, rfl, ho, hb⟩ := hrel
            by_cases hlt : k < l.length
            · have hlk : (k : Int) < (l.length : Int) := by omega
              obtain ⟨g7, rfl⟩ : ∃ g, p7 = some ⟨g, 0, none⟩ := by
                rcases HO5.out.2 with ⟨e, _⟩ | ⟨g, cap, cur, e, _⟩
                · have e2 := Value.slice.inj e; omega
                · exact ⟨g, (Value.slice.inj e).1⟩
              obtain ⟨hcc, hg7, hoc⟩ := opCells (OwnAt.slice (k := 22) (enc := encOp) (fun _ => rfl) HO5.out) (k := k) (x := l[k]) (by simp)
              clear hcc
              rw [HS5.out] at hg7
              obtain ⟨c, t, hx, hc1, hc2, hot, hts⟩ := HJ.out.ok l[k] (by simp)
              have hstep : l.take (k + 1) = l.take k ++ [l[k]] := List.take_succ_eq_append_getElem hlt
              rw [hx, Nat.zero_add] at hoc
              rw [hx] at hstep
              have HOC := Lib.hid hoc
              have HST := Lib.hid hstep
              have htl : (l.take k).length = k := by rw [List.length_take]; omega
              have hk19 : k ≤ 19 := by omega
              clear hx hstep hoc
              generalize l.take k = out at ho HST htl
              obtain ⟨hok, hpos, hlim⟩ := okT_iff hot
              have hrs := runes_size hok
              have hln := fun w => len8_t ⟨c, 1⟩ idZero idZero t w (by omega)
              have hcu := fun w => cut8_t ⟨c, 1⟩ idZero idZero t 0 (runesB t).length w (by omega) (by omega) (Nat.le_refl _) (by show (0 : Int) ≤ 1; omega) (by show (1 : Int) + ((0 : Nat) : Int) < _; omega)
              have hpw := pc_whole c hok (Nat.le_refl _)
              change ∀ w, Calls Tryz.prog 9 #[opV (kOp c t), .int .i64 0, .int .i64 ((runesB t).length : Int)] w fun x w' => x = .returned (.tuple #[opV (pc c t 0 (runesB t).length), .bool true]) ∧ Below w.heap.size w w' at hcu
              rw [hpw] at hcu
              change ∀ w, Calls Tryz.prog 9 #[opV (kOp c t), .int .i64 0, .int .i64 ((runesB t).length : Int)] w fun x w' => x = .returned (.tuple #[opV (kOp c t), .bool true]) ∧ Below w.heap.size w w' at hcu
              change ∀ w, Calls Tryz.prog 8 #[opV (kOp c t)] w _ at hln
              have hN1 : 0 < (runesB t).length := by omega
              generalize (runesB t).length = N at hln hcu hlim hN1
              have hN2 : decide ((0 : Int) < (N : Int)) = true := by simp; omega
              have hN3 : decide ((4096 : Int) < (N : Int)) = false := by simp; omega
              have hN4 : min (4096 : Int) (N : Int) = (N : Int) := by omega
              clear hpw hrs hok hpos hot
              have hl5 := load_op (HOC.out.belowS hb hg7)
              have HL5 := Lib.hid hl5
              clear hl5
              go_upto_region 30 with (first | (refine wpList_load_eq (T := 35) (v := opV (kOp c t)) rfl rfl rfl HL5.out ?_) | (go_at_call 8; refine (hln _).mono ?_; rintro e w6 ⟨rfl, hb6⟩))
              have hB6 := hb.trans (hb6.mono (by have := hb.size; have := HS5.out; omega))
              have ho6 : OwnAt S5 35 22 encOp w6 u10 out := ownsRow_blk ho fun b e => hb6.block b (ownsRow_lt ho b e)
              have HL6 := Lib.hid (load_op (HOC.out.belowS hB6 hg7))
              have hS6 : S5 ≤ w6.heap.size := by have := hB6.size; have := HS5.out; omega
              clear hb6 hb ho hln HL5
              obtain ⟨p10, cap10, rfl⟩ := ownsRow_len ho6
              rw [htl] at ho6 ⊢
              go_loopw [10, 13] (fun o z wx => (o = .slice p10 k cap10 ∧ z = .int .i64 0 ∧ wx = w6) ∨ (z = .int .i64 4096 ∧ OwnAt S5 35 22 encOp wx o (out ++ [kOp c t]) ∧ Below S5 w5 wx)) (fun _ z _ => 4096 - (intOf z).toNat)
              case atStart => exact .inl ⟨rfl, rfl, rfl⟩
              case round =>
                rcases hrel with ⟨rfl, rfl, rfl⟩ | ⟨rfl, ho9, hB9⟩
                · go_upto_region 33 with (first | (refine wpList_load_eq (T := 35) (v := opV (kOp c t)) rfl rfl rfl HL6.out ?_) | (go_at_call 9; refine (hcu _).mono ?_; rintro e w7 ⟨rfl, hb7⟩) | (refine wpList_store_eq (T := 35) (v := opV (kOp c t)) rfl rfl rfl rfl (OpBox.store (OpBox.new w7 opZero) (kOp c t)) ?_))
                  try go_frame
                  have hbx : OpBox (putOp (w7.alloc (.cells (encOp opZero).toArray 35)) w7.heap.size (kOp c t)) w7.heap.size (kOp c t) := (OpBox.new w7 opZero).put (kOp c t)
                  have hBc : Below w7.heap.size w7 (putOp (w7.alloc (.cells (encOp opZero).toArray 35)) w7.heap.size (kOp c t)) := below_putOp ((Below.refl _ _).alloc (Nat.le_refl _) _) (Nat.le_refl _) _
                  have hBd := belowTrans hb7 hBc
                  have hB8 := hB6.trans (hBd.mono hS6)
                  have ho8 : OwnAt S5 35 22 encOp (putOp (w7.alloc (.cells (encOp opZero).toArray 35)) w7.heap.size (kOp c t)) (.slice p10 k cap10) out := ownsRow_blk ho6 fun b e => hBd.block b (ownsRow_lt ho6 b e)
                  obtain ⟨X, hX⟩ : ∃ X, w7.heap.size = X := ⟨_, rfl⟩
                  obtain ⟨W8, hW8⟩ : ∃ W8, putOp (w7.alloc (.cells (encOp opZero).toArray 35)) w7.heap.size (kOp c t) = W8 := ⟨_, rfl⟩
                  rw [hW8] at hB8 ho8
                  rw [hW8, hX] at hbx
                  rw [hW8, hX]
                  clear hX hW8 hBc hBd hb7 hB6 ho6 hcu HL6 hS6
                  clear w7
                  obtain ⟨O, hOO⟩ : ∃ O, kOp c t = O := ⟨_, rfl⟩
                  rw [hOO] at hbx
                  have HOO := Lib.hid hOO
                  clear hOO
                  go_upto_region 31 with (first | (refine wpList_load_eq (T := 35) (v := opV O) rfl rfl rfl hbx.load ?_) | (refine wpList_sliceOp O rfl _ rfl rfl ?_) | (at_builtin; refine wpList_append_own_at _ rfl _ _ 25 rfl S5 35 ix (opV opZero) 22 200 Tryz.underlying25 hix hz0 hz1 hz2 rfl (by decide) _ _ _ rfl (show World.ownsRow (W8.alloc _) S5 35 22 (.slice p10 k cap10) out.length (out.flatMap encOp) from World.ownsRow.alloc ho8 _) ⟨W8.heap.size, 0, none⟩ 1 1 (encOp O) rfl rfl ?fc1 ?fc2 ?fc3 ?fc4 ?fc5 ?_))
                  case fc1 => exact fun k u hu => by rw [Addr.add_lit]; exact (OpBox.new W8 O).cells k u hu
                  case fc2 => intro u hu; simp [encOp] at hu; rcases hu with h | h | h | h | h | h | h | h | h | h | h | h | h | h | h | h | h | h | h | h | h | h <;> (subst h; rfl)
                  case fc3 => unfold maxLen; omega
                  case fc4 => have := hB8.size; have := HS5.out; first | omega | (simp; omega)
                  case fc5 => have := hB8.size; have := HS5.out; first | omega | (simp; omega)
                  intro v' w9 hown' hgrow _ hblk
                  have hB9 : Below S5 w5 w9 := (hB8.alloc (by have := hB8.size; have := HS5.out; omega) _).grown hgrow (by have := hB8.size; have := HS5.out; simp; omega) (fun b e => (World.ownsRow.lt ho8 b e).1)
                  have ho9 : OwnAt S5 35 22 encOp w9 v' (out ++ [O]) := by
                    unfold OwnAt
                    rw [List.length_append, List.flatMap_append]
                    first | (simpa using hown') | (simpa [htl] using hown')
                  clear hown' hgrow hblk
                  go_wp2_with fail
                  go_roundw
                  case rel => exact .inr ⟨rfl, by rw [HOO.out]; exact ho9, hB9⟩
                  case measure => decide
                · go_wp2_with fail
                  exact ⟨⟨k + 1, by omega, by go_num, by rw [HST.out]; exact ho9, hB9⟩, by simp [intOf]; omega⟩
            · obtain rfl : k = l.length := by omega
              rw [List.take_length] at ho
              have hlk : ¬ (l.length : Int) < (l.length : Int) := by omega
              have hbn := HB5.out.trans (hb.mono (Nat.le_trans hSS hS35))
              go_wp2_with fail
              go_ret
              exact ⟨_, rfl, ownsRow_base ho (Nat.le_trans hSS hS35), hbn⟩
end Go.Proofs.YtaeebgljcdfolaaGreatDoor
