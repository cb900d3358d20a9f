/- Walk: the law (quirelaw10.StoreBrings). -/
import Derived.Test.YtaeebgljcdfolaaGreatDoorM45
namespace Go.Proofs.YtaeebgljcdfolaaGreatDoor
open Go.RowKit Go.Lib

theorem mod_hit {n cl m : Nat} (hn : n ≤ 5) (hm : m < n) : ∃ j, cl ≤ j ∧ j < cl + n ∧ j % n = m := by
  have : n = 1 ∨ n = 2 ∨ n = 3 ∨ n = 4 ∨ n = 5 := by omega
  rcases this with rfl | rfl | rfl | rfl | rfl
  · exact ⟨cl + (m + 1 - cl % 1) % 1, by omega, by omega, by omega⟩
  · exact ⟨cl + (m + 2 - cl % 2) % 2, by omega, by omega, by omega⟩
  · exact ⟨cl + (m + 3 - cl % 3) % 3, by omega, by omega, by omega⟩
  · exact ⟨cl + (m + 4 - cl % 4) % 4, by omega, by omega, by omega⟩
  · exact ⟨cl + (m + 5 - cl % 5) % 5, by omega, by omega, by omega⟩
/-- what the law answers. -/
def TrueR (w : World) (e : Ending) (w' : World) : Prop := e = .returned (.bool true) ∧ Below w.heap.size w w'
set_option maxRecDepth 100000 in
set_option maxHeartbeats 8000000 in
theorem storeBrings_any (v1 v2 : Value) (ts : List ByteArray) (cs : List Int) (w : World) (hT : Tabs w) (h1 : SliceP 1 encS w v1 ts) (h2 : SliceP 1 encU16 w v2 cs) (hc : ∀ x ∈ cs, 0 ≤ x ∧ x < 65536) (hts : ∀ t ∈ ts, t.size ≤ 9223372036854775807) :
    Calls Tryz.prog 3 #[v1, v2] w (TrueR w) := by
  obtain ⟨ix, hix, hz0, hz1, hz2⟩ := info_parts infoOp
  have H1 := Lib.hid h1
  have H2 := Lib.hid h2
  obtain ⟨p1, cap1, rfl, hl1, ha1⟩ := h1
  obtain ⟨p2, cap2, rfl, hl2, ha2⟩ := h2
  have HA1 := Lib.hid ha1
  have HC := Lib.hid hc
  clear ha1 ha2 hc
  have hkn := known10_any w hT
  rcases Nat.lt_or_ge 5 ts.length with h5 | h5
  · have d5 : decide ((5 : Int) < (ts.length : Int)) = true := by simp; omega
    go_enter Tryz.func3, Tryz.ntmps3
    go_wp2_with (go_at_call 4; refine hkn.mono ?_; rintro e w1 ⟨rfl, hb1⟩)
    go_ret
    exact ⟨rfl, hb1⟩
  have d5 : decide ((5 : Int) < (ts.length : Int)) = false := by simp; omega
  have n5 : ¬ 5 < ts.length := by omega
  rcases Nat.lt_or_ge 100 cs.length with h9 | h9
  · have d9 : decide ((100 : Int) < (cs.length : Int)) = true := by simp; omega
    go_enter Tryz.func3, Tryz.ntmps3
    go_wp2_with (go_at_call 4; refine hkn.mono ?_; rintro e w1 ⟨rfl, hb1⟩)
    go_ret
    exact ⟨rfl, hb1⟩
  have d9 : decide ((100 : Int) < (cs.length : Int)) = false := by simp; omega
  have n9 : ¬ 100 < cs.length := by omega
  go_enter Tryz.func3, Tryz.ntmps3
  go_wp2_with (go_at_call 4; refine hkn.mono ?_; rintro e w1 ⟨rfl, hb1⟩)
  obtain ⟨S, hS⟩ : ∃ S, w1.heap.size = S := ⟨_, rfl⟩
  have HS := Lib.hid hS
  have hwS : w.heap.size ≤ S := by have := hb1.size; omega
  clear hS hkn d5 d9 n5 n9
  go_loopw [5, 6] (fun o i wr => ∃ k : Nat, k ≤ ts.length ∧ i = .int .i64 k ∧ OwnAt S 35 22 encOp wr o (wholeL 1 (ts.take k)) ∧ Below S w1 wr ∧ ∀ j t, j < k → ts[j]? = some t → okT t = true ∧ t.size ≤ 60) (fun _ i _ => ts.length - (intOf i).toNat)
  case atStart => exact ⟨0, Nat.zero_le _, rfl, OwnAt.nil, Below.refl _ _, fun j t h => absurd h (Nat.not_lt_zero _)⟩
  case round =>
    obtain ⟨k, hk, rfl, ho, hb, hgood⟩ := hrel
    have HG := Lib.hid hgood
    clear hgood
    by_cases hlt : k < ts.length
--<L1 4
    · have hltz : (k : Int) < (ts.length : Int) := by omega
      obtain ⟨b, off, rfl, hbl, hcc⟩ := HA1.out k ts[k] (by simp)
      have hBw : Below w.heap.size w wr := hb1.trans (hb.mono hwS)
      have x0 : wr.cell? ⟨b, off + k, none⟩ = some (.string ts[k]) := (hBw.cell (p := ⟨b, off + k, none⟩) hbl).trans (by have := hcc 0 _ rfl; rwa [Nat.mul_one, Nat.add_zero] at this)
      have hstep := wholeL_take ts 1 k ts[k] (by simp)
      rw [Int.add_comm] at hstep
      have htk : ts[k]? = some ts[k] := by simp
      have HST := Lib.hid hstep
      have HTK := Lib.hid htk
      have htl : (wholeL 1 (ts.take k)).length = k := by rw [wholeL_len, List.length_take]; omega
      have hk5 : k ≤ 5 := by omega
      have hsz : ts[k].size ≤ 9223372036854775807 := hts _ (by simp)
      clear hcc hstep htk
      generalize ts[k] = t at x0 HST HTK hsz
      generalize wholeL 1 (ts.take k) = out at ho HST htl
      have htx := text10_one ((k : Int) + 1) t wr
      go_upto_region 10 with (first | (go_at_call 5; refine htx.mono ?_; rintro e w2 ⟨rfl, hb2⟩) | (refine wpList_store_eq (T := 35) (v := opV (kOp ((k : Int) + 1) t)) rfl rfl rfl rfl (OpBox.store (OpBox.new w2 opZero) (kOp ((k : Int) + 1) t)) ?_))
      try go_frame
      have hSw : S ≤ wr.heap.size := by have := hb.size; have := HS.out; omega
      have hBc : Below w2.heap.size w2 (putOp (w2.alloc (.cells (encOp opZero).toArray 35)) w2.heap.size (kOp ((k : Int) + 1) t)) := below_putOp ((Below.refl _ _).alloc (Nat.le_refl _) _) (Nat.le_refl _) _
      have hbx : OpBox (putOp (w2.alloc (.cells (encOp opZero).toArray 35)) w2.heap.size (kOp ((k : Int) + 1) t)) w2.heap.size (kOp ((k : Int) + 1) t) := (OpBox.new w2 opZero).put _
      have hb3 := belowTrans hb2 hBc
      have hB3 := hb.trans (hb3.mono hSw)
      have ho3 : OwnAt S 35 22 encOp (putOp (w2.alloc (.cells (encOp opZero).toArray 35)) w2.heap.size (kOp ((k : Int) + 1) t)) u5 out := ownsRow_blk ho fun b e => hb3.block b (ownsRow_lt ho b e)
      have x3 := (hb3.cell (p := ⟨b, off + k, none⟩) (Nat.lt_of_lt_of_le hbl hBw.size)).trans x0
      generalize putOp (w2.alloc (.cells (encOp opZero).toArray 35)) w2.heap.size (kOp ((k : Int) + 1) t) = W at hbx hB3 ho3 x3 ⊢
      generalize w2.heap.size = X at hbx ⊢
      clear hBc hb3 hb2 htx x0 ho hb hSw
      clear w2
      have hB3w : Below w.heap.size w W := hb1.trans (hB3.mono hwS)
      rcases Nat.lt_or_ge 60 t.size with h60 | h60
      · have d60 : decide ((60 : Int) < (t.size : Int)) = true := by simp; omega
        go_wp2_with fail
        go_ret
        exact ⟨rfl, hB3w⟩
      have d60 : decide ((60 : Int) < (t.size : Int)) = false := by simp; omega
      have n60 : ¬ 60 < t.size := by omega
      have hch := check8_k ((k : Int) + 1) t W (by omega) (by omega) (by omega)
      cases hok : okT t with
      | false =>
        rw [hok] at hch
        have hch' : Calls Tryz.prog 6 #[opV (kOp ((k : Int) + 1) t)] W fun e w' => e = .returned (.int .i64 120) ∧ Below W.heap.size W w' := hch
        clear hch
        go_wp2_with (first | (refine wpList_load_g 35 ⟨X, 0, none⟩ rfl rfl hbx.load (by rfl) ?_) | (go_at_call 6; refine hch'.mono ?_; rintro e w3 ⟨rfl, hb3⟩))
        go_ret
        exact ⟨rfl, belowTrans hB3w hb3⟩
      | true =>
        rw [hok] at hch
        have hch' : Calls Tryz.prog 6 #[opV (kOp ((k : Int) + 1) t)] W fun e w' => e = .returned (.int .i64 0) ∧ Below W.heap.size W w' := hch
        clear hch
        go_upto_region 12 with (first | (refine wpList_load_g 35 ⟨X, 0, none⟩ rfl rfl hbx.load (by rfl) ?_) | (go_at_call 6; refine hch'.mono ?_; rintro e w3 ⟨rfl, hb3⟩))
        have hB4 := hB3.trans (hb3.mono (by have := hB3.size; have := HS.out; omega))
        have ho4 : OwnAt S 35 22 encOp w3 u5 out := ownsRow_blk ho3 fun b e => hb3.block b (ownsRow_lt ho3 b e)
        have hbx4 := hbx.below hb3 hbx.lt
        have HOK := Lib.hid hok
        clear hbx hB3 ho3 x3 hB3w hb3 hch' hok d60 n60
        clear W
        obtain ⟨p5, cap5, rfl⟩ := ownsRow_len ho4
        rw [htl] at ho4 ⊢
        obtain ⟨O, hOO⟩ : ∃ O, kOp ((k : Int) + 1) t = O := ⟨_, rfl⟩
        rw [hOO] at hbx4
        have HOO := Lib.hid hOO
        clear hOO
        go_upto_region 8 with (first | (refine wpList_load_eq (T := 35) (v := opV O) rfl rfl rfl hbx4.load ?_) | (refine wpList_sliceOp O rfl _ rfl rfl ?_) | (at_builtin; refine wpList_append_own_at _ rfl _ _ 25 rfl S 35 ix (opV opZero) 22 200 Tryz.underlying25 hix hz0 hz1 hz2 rfl (by decide) _ _ _ rfl (show World.ownsRow (w3.alloc _) S 35 22 (.slice p5 k cap5) out.length (out.flatMap encOp) from World.ownsRow.alloc ho4 _) ⟨w3.heap.size, 0, none⟩ 1 1 (encOp O) rfl rfl ?fa1 ?fa2 ?fa3 ?fa4 ?fa5 ?_))
        case fa1 => exact fun k u hu => by rw [Addr.add_lit]; exact (OpBox.new w3 O).cells k u hu
        case fa2 => intro u hu; simp [encOp] at hu; rcases hu with h | h | h | h | h | h | h | h | h | h | h | h | h | h | h | h | h | h | h | h | h | h <;> (subst h; rfl)
        case fa3 => unfold maxLen; omega
        case fa4 => have := hB4.size; have := HS.out; first | omega | (simp; omega)
        case fa5 => have := hB4.size; have := HS.out; first | omega | (simp; omega)
        intro v' w9 hown' hgrow _ hblk
        have hB9 : Below S w1 w9 := (hB4.alloc (by have := hB4.size; have := HS.out; omega) _).grown hgrow (by have := hB4.size; have := HS.out; simp; omega) (fun b e => (World.ownsRow.lt ho4 b e).1)
        have ho9 : OwnAt S 35 22 encOp w9 v' (out ++ [O]) := by
          unfold OwnAt
          rw [List.length_append, List.flatMap_append]
          first | (simpa using hown') | (simpa [htl] using hown')
        clear hown' hgrow hblk
        go_wp2_with fail
        exact ⟨⟨k + 1, by omega, by go_num, by rw [HST.out, HOO.out]; exact ho9, hB9, fun j t' hj ht' => by
          by_cases hjk : j = k
          · subst hjk
            have := HTK.out.symm.trans ht'
            obtain rfl : t = t' := Option.some.inj this
            exact ⟨HOK.out, h60⟩
          · exact HG.out j t' (by omega) ht'⟩, by simp [intOf]; omega⟩
--L1>
    · obtain rfl : k = ts.length := by omega
      have hltz : ¬ (ts.length : Int) < (ts.length : Int) := by omega
      rw [List.take_length] at ho
      obtain ⟨p5, cap5, rfl⟩ := ownsRow_len ho
      rw [wholeL_len ts 1] at ho ⊢
      have hBw : Below w.heap.size w wr := hb1.trans (hb.mono hwS)
      have hgood : ∀ t ∈ ts, okT t = true ∧ t.size ≤ 60 := fun t ht => by
        obtain ⟨j, hj⟩ := List.mem_iff_getElem?.1 ht
        exact HG.out j t (List.getElem?_eq_some_iff.1 hj).1 hj
      have HGD := Lib.hid hgood
      clear hgood hltz
      rcases Nat.eq_zero_or_pos ts.length with h0 | h0
      · have e0 : ((ts.length : Int) == 0) = true := by rw [beq_iff_eq]; omega
        have hl0 : ¬ (ts.length : Int) < (ts.length : Int) := by omega
        clear h0
        go_wp2_with fail
        go_ret
        exact ⟨rfl, hBw⟩
      · have e0 : ((ts.length : Int) == 0) = false := by rw [beq_eq_false_iff_ne]; omega
        have hl0 : ¬ (ts.length : Int) < (ts.length : Int) := by omega
        obtain ⟨g5, rfl⟩ : ∃ g, p5 = some ⟨g, 0, none⟩ := by
          rcases ho.2 with ⟨e, _⟩ | ⟨g, cap, cur, e, _⟩
          · have e2 := Value.slice.inj e; omega
          · exact ⟨g, (Value.slice.inj e).1⟩
        have hnew := BM.start wr (hT.below hBw)
        go_upto_region 17 with (go_at_call 7; refine hnew.mono ?_; rintro e w3 ⟨rfl, hM3, hB3⟩)
        have hTX := texts_of (by omega) HGD.out
        obtain ⟨w2, rfl⟩ : ∃ w2, w2 = wr := ⟨_, rfl⟩
        obtain ⟨S2, hS2⟩ : ∃ S2, w2.heap.size = S2 := ⟨_, rfl⟩
        have HS2 := Lib.hid hS2
        rw [hS2] at hM3 hB3 ⊢
        have hFlow : ∀ b, (S2 ≤ b ∧ b < w3.heap.size) → S2 ≤ b := fun b g => g.1
        clear hnew hS2
        go_loopw [9] (fun i wx => ∃ (k : Nat) (F : Nat → Prop) (K : List (Int × ByteArray)) (Q : List QOp) (H : List QRng), k ≤ cs.length + ts.length ∧ i = .int .i64 k ∧ BM F (S2 + 1) K Q H wx ∧ BInv ts.length (txOf ts) K Q H ∧
          (∀ j, cs.length ≤ j → j < k → Cov (txOf ts) K Q (1 + ((j % ts.length : Nat) : Int))) ∧ Below S2 w2 wx ∧ ∀ b, F b → S2 ≤ b) (fun i _ => cs.length + ts.length - (intOf i).toNat)
        case atStart => exact ⟨0, _, _, _, _, Nat.zero_le _, rfl, hM3, BInv.start _ _, fun j h1 h2 => absurd h2 (Nat.not_lt_zero _), hB3, hFlow⟩
        case round =>
          obtain ⟨k, F, K, Q, H, hk, rfl, hM, hI, hcov, hB, hF⟩ := hrel
          by_cases hlt : k < cs.length + ts.length
--<A0 10
          · have hwS2 : S2 ≤ wr.heap.size := by have := hB.size; have := HS2.out; omega
            have hBwr : Below w.heap.size w wr := hBw.trans (hB.mono (by have := hBw.size; have := HS2.out; omega))
            have hox : OwnAt S 35 22 encOp wr (.slice (some ⟨g5, 0, none⟩) ts.length cap5) (wholeL 1 ts) := ownsRow_blk ho fun b e => hB.block b (by have := ownsRow_lt ho b e; have := HS2.out; omega)
            have hltz : (k : Int) < (cs.length : Int) + (ts.length : Int) := by omega
            obtain ⟨j0, hj0⟩ : ∃ j0, k % ts.length = j0 := ⟨_, rfl⟩
            have hj0l : j0 < ts.length := by rw [← hj0]; exact Nat.mod_lt _ h0
            have hmod0 : Int.tmod (k : Int) (ts.length : Int) = (j0 : Int) := by rw [← hj0]; rfl
            have hj0z : (j0 : Int) < (ts.length : Int) := by omega
            obtain ⟨hcc, hgl, hoc0⟩ := opCells (OwnAt.slice (k := 22) (enc := encOp) (fun _ => rfl) hox) (wholeL_get ts 1 j0 ts[j0] (by simp [hj0l]))
            clear hcc
            rw [Nat.zero_add] at hoc0
            have hld0 := load_op hoc0
            have HT0 : Hid (ts[j0]? = some ts[j0]) := Lib.hid (by simp [hj0l])
            have HJ0 := Lib.hid hj0
            have HF := Lib.hid hF
            have HCV := Lib.hid hcov
            generalize ts[j0] = t0 at hld0 HT0
            have hNe : ¬ (ts.length : Int) = 0 := by omega
            have HOX := Lib.hid hox
            clear hj0 hoc0 hox hF hcov
            go_upto_region 20 with (first | (refine wpList_load_eq (T := 35) (v := opV (kOp (1 + (j0 : Int)) t0)) rfl rfl rfl hld0 ?_) | (refine wpList_store_eq (T := 35) (v := opV (kOp (1 + (j0 : Int)) t0)) rfl rfl rfl rfl (OpBox.store (OpBox.new wr opZero) (kOp (1 + (j0 : Int)) t0)) ?_))
            have hBx : Below wr.heap.size wr (putOp (wr.alloc (.cells (encOp opZero).toArray 35)) wr.heap.size (kOp (1 + (j0 : Int)) t0)) := below_putOp ((Below.refl _ _).alloc (Nat.le_refl _) _) (Nat.le_refl _) _
            have hbx : OpBox (putOp (wr.alloc (.cells (encOp opZero).toArray 35)) wr.heap.size (kOp (1 + (j0 : Int)) t0)) wr.heap.size (kOp (1 + (j0 : Int)) t0) := (OpBox.new wr opZero).put _
            generalize putOp (wr.alloc (.cells (encOp opZero).toArray 35)) wr.heap.size (kOp (1 + (j0 : Int)) t0) = W at hBx hbx ⊢
            generalize hX : wr.heap.size = X at hbx ⊢
            have HX := Lib.hid hX
            clear hX hld0 hmod0 hj0z
            rcases Nat.lt_or_ge k cs.length with hkc | hkc
--<AA 12
            · have hkcz : (k : Int) < (cs.length : Int) := by omega
              have how : OwnAt S 35 22 encOp W (.slice (some ⟨g5, 0, none⟩) ts.length cap5) (wholeL 1 ts) := ownsRow_blk HOX.out fun b e => hBx.block b (ownsRow_lt HOX.out b e)
              have hBw1 : Below w.heap.size w W := hBwr.trans (hBx.mono hBwr.size)
              obtain ⟨pp, cc, he, _, ha⟩ := H2.out
              cases he
              obtain ⟨b2, off2, rfl, hb2, hcc2⟩ := ha k cs[k] (by simp)
              have x00 : w.cell? ⟨b2, off2 + k, none⟩ = some (.int .u16 cs[k]) := by have := hcc2 0 _ rfl; rwa [Nat.mul_one, Nat.add_zero] at this
              have hxr := HC.out cs[k] (by simp)
              clear ha hcc2
              generalize cs[k] = x at x00 hxr
              obtain ⟨xn, rfl⟩ : ∃ xn : Nat, x = xn := ⟨x.toNat, by omega⟩
              have X00 := Lib.hid x00
              have x0 := (hBw1.cell (p := ⟨b2, off2 + k, none⟩) hb2).trans x00
              obtain ⟨j1, hj1⟩ : ∃ j1, xn % ts.length = j1 := ⟨_, rfl⟩
              have hj1l : j1 < ts.length := by rw [← hj1]; exact Nat.mod_lt _ h0
              have hmod1 : Int.tmod (xn : Int) (ts.length : Int) = (j1 : Int) := by rw [← hj1]; rfl
              have hj1z : (j1 : Int) < (ts.length : Int) := by omega
              obtain ⟨hcc, hgl1, hoc1⟩ := opCells (OwnAt.slice (k := 22) (enc := encOp) (fun _ => rfl) how) (wholeL_get ts 1 j1 ts[j1] (by simp [hj1l]))
              clear hcc
              rw [Nat.zero_add] at hoc1
              have hld1 := load_op hoc1
              have HT1 : Hid (ts[j1]? = some ts[j1]) := Lib.hid (by simp [hj1l])
              have hgt := HGD.out ts[j1] (by simp)
              generalize ts[j1] = t1 at hld1 HT1 hgt
              clear hj1 hoc1 how x00
              go_upto_region 22 with (first | (refine wpList_load_eq (T := 35) (v := opV (kOp (1 + (j1 : Int)) t1)) rfl rfl rfl hld1 ?_) | (refine wpList_store_eq (T := 35) (v := opV (kOp (1 + (j1 : Int)) t1)) rfl rfl rfl rfl (OpBox.store hbx (kOp (1 + (j1 : Int)) t1)) ?_))
              have hBx2 := below_putOp hBx (Nat.le_of_eq HX.out) (kOp (1 + (j1 : Int)) t1)
              have hbx2 := hbx.put (kOp (1 + (j1 : Int)) t1)
              generalize putOp W X (kOp (1 + (j1 : Int)) t1) = W2 at hBx2 hbx2 ⊢
              clear hld1 hmod1 hj1z x0 hBw1 hBx hbx hgl1
              clear W
              have hln := fun w => len8_t ⟨1 + (j1 : Int), 1⟩ idZero idZero t1 w (by omega)
              have hxk := hTX.ok (1 + (j1 : Int)) (by omega) (by omega)
              rw [txOf_get HT1.out] at hxk
              obtain ⟨hk1, hk2, hk3⟩ := hxk
              obtain ⟨N, hN⟩ : ∃ N, (runesB t1).length = N := ⟨_, rfl⟩
              have HN := Lib.hid hN
              rw [hN] at hln hk2 hk3
              clear hN hk1
              have hld2 := hbx2.load
              go_upto_region 23 with (first | (refine wpList_load_eq (T := 35) (v := opV (kOp (1 + (j1 : Int)) t1)) rfl rfl rfl hld2 ?_) | (go_at_call 8; refine (hln _).mono ?_; rintro e w5 ⟨rfl, hb5⟩))
              have hBx5 := belowTrans hBx2 hb5
              have hbx5 := hbx2.below hb5 hbx2.lt
              clear hld2 hln hBx2 hbx2 hb5
              clear W2
              obtain ⟨f, hf⟩ : ∃ f, (xn / 8) % N = f := ⟨_, rfl⟩
              have hfl : f < N := by rw [← hf]; exact Nat.mod_lt _ (by omega)
              have hNz : ¬ (N : Int) = 0 := by omega
              have hx8 : Int.tdiv (xn : Int) 8 = ((xn / 8 : Nat) : Int) := rfl
              have hx8l : xn / 8 < 65536 := by omega
              have hw8 : IntKind.u16.wrap ((xn / 8 : Nat) : Int) = ((xn / 8 : Nat) : Int) := by generalize xn / 8 = y at hx8l; simp [IntKind.wrap, IntKind.signed, IntKind.bits]; omega
              have hm8 : Int.tmod ((xn / 8 : Nat) : Int) (N : Int) = (f : Int) := by rw [← hf]; rfl
              have hBw5 : Below w.heap.size w w5 := hBwr.trans (hBx5.mono hBwr.size)
              have x5 := (hBw5.cell (p := ⟨b2, off2 + k, none⟩) hb2).trans X00.out
              have HXN := Lib.hid hxr
              clear hf hxr
              generalize xn / 8 = y8 at hx8 hx8l hw8 hm8
              go_upto_region 24 with fail
              clear hx8 hw8 hm8 hx8l hNz
              obtain ⟨r, hr⟩ : ∃ r, (xn / 512) % (N - f) = r := ⟨_, rfl⟩
              have hrl : r < N - f := by rw [← hr]; exact Nat.mod_lt _ (by omega)
              have hNf : ¬ ((N : Int) - (f : Int)) = 0 := by omega
              have hxr := HXN.out
              have hx5 : Int.tdiv (xn : Int) 512 = ((xn / 512 : Nat) : Int) := rfl
              have hx5l : xn / 512 < 65536 := by omega
              have hw5 : IntKind.u16.wrap ((xn / 512 : Nat) : Int) = ((xn / 512 : Nat) : Int) := by generalize xn / 512 = y at hx5l; simp [IntKind.wrap, IntKind.signed, IntKind.bits]; omega
              have hm5 : Int.tmod ((xn / 512 : Nat) : Int) ((N : Int) - (f : Int)) = (r : Int) := by rw [show (N : Int) - (f : Int) = ((N - f : Nat) : Int) by omega, ← hr]; rfl
              have hcu := cut8_t ⟨1 + (j1 : Int), 1⟩ idZero idZero t1 f (f + 1 + r) w5.drew (by omega) (by omega) (by rw [HN.out]; omega) (by show (0 : Int) ≤ 1; omega) (by show (1 : Int) + f < _; omega)
              rw [show ((f + 1 + r : Nat) : Int) = (f : Int) + 1 + (r : Int) by omega] at hcu
              change Calls Tryz.prog 9 #[opV (kOp (1 + (j1 : Int)) t1), .int .i64 f, .int .i64 ((f : Int) + 1 + (r : Int))] w5.drew fun x w' => x = .returned (.tuple #[opV (pc (1 + (j1 : Int)) t1 f (f + 1 + r)), .bool true]) ∧ Below w5.drew.heap.size w5.drew w' at hcu
              have hld5 := hbx5.load
              clear hr hxr
              generalize xn / 512 = y5 at hx5 hx5l hw5 hm5
              obtain ⟨P, hP⟩ : ∃ P, pc (1 + (j1 : Int)) t1 f (f + 1 + r) = P := ⟨_, rfl⟩
              rw [hP] at hcu
              have HP := Lib.hid hP
              clear hP
              have l1 : ∀ w', (∃ s : MStep (fun _ => False) w5, w' = s.val) → (loadVar 35 ⟨X, 0, none⟩).run Tryz.prog w' = .ok (opV (kOp (1 + (j1 : Int)) t1)) w' := by
                rintro _ ⟨s, rfl⟩
                exact OpBox.load ((s.h.block X hbx5.lt id).trans hbx5)
              have q5 : ∀ s : MStep (fun _ => False) w5, s.val.cell? ⟨b2, off2 + k, none⟩ = some (.int .u16 (xn : Int)) := MStep.cell (Nat.lt_of_lt_of_le hb2 hBw5.size) id x5
              have hbd : Below w5.heap.size w5 w5.drew := (Below.refl _ _).drew
              have hcu' := hcu.mono fun e w' (h : e = .returned (.tuple #[opV P, .bool true]) ∧ Below w5.drew.heap.size w5.drew w') => (⟨h.1, belowTrans hbd h.2⟩ : e = .returned (.tuple #[opV P, .bool true]) ∧ Below w5.heap.size w5 w')
              clear hcu x5
              refine wp_region_flow6 15 [0, 1, 2, 3, 4, 5, 6, 7, 8, 9, 10, 11, 12, 13, 14] (.one 15 (.one 16 (.two 17 (.two 18 (.one 19 .nil) 19 (.one 18 .nil)) 18 (.one 17 (.one 19 .nil))))) (fun w' => ∃ s : MStep (fun _ => False) w5, w' = s.val) (by kernel_rfl) (by kernel_rfl) (fun _ _ d _ _ h => by cases d <;> exact h) (MStep.to (Mods.refl _ _).drew) ?_
              simp only [List.map_cons, List.map_nil, List.getElem?_cons_succ, List.getElem?_cons_zero, Option.getD_some]
              repeat (first | go_big_quiet_skip | (go_big_quiet_want; first | ((refine quiet_load 35 _ _ rfl rfl l1 ?_); go_frame; go_big_quiet_on) | (go_big_quiet_op; go_big_quiet_on)))
              refine wpQuiet_nil ?_
              refine wpTreeF_one rfl ?_; simp only [List.getElem_toArray, List.getElem_cons_succ, List.getElem_cons_zero]
              go_wp2_with (go_at_call 9; refine hcu'.mono ?_; rintro e w6 ⟨rfl, hb6⟩)
              have hbx6 := hbx5.below hb6 hbx5.lt
              have hBx6 := belowTrans hBx5 hb6
              have hbx7 := hbx6.put P
              have hBx7 := below_putOp hBx6 (Nat.le_of_eq HX.out) P
              have hM7 := hM.below hBx7
              have hwt := hM7.wait hTX hI (c := 1 + (j1 : Int)) (f := f) (e := f + 1 + r) (by omega) (by omega) (by omega) (by unfold wholeN; rw [txOf_get HT1.out, HN.out]; omega)
              rw [txOf_get HT1.out, HP.out] at hwt
              have hwt2 := hwt.mono (R' := fun en w' => en = .returned (.tuple #[]) ∧ ∃ F' Q' H', BM F' (S2 + 1) K Q' H' w' ∧ BInv ts.length (txOf ts) K Q' H' ∧ Grows F F' (putOp w6 X P) w' ∧ ∀ j, cs.length ≤ j → j < k + 1 → Cov (txOf ts) K Q' (1 + ((j % ts.length : Nat) : Int))) (by
                rintro en w' ⟨rfl, F', l, H', g1, g2, g3, g4, _⟩
                exact ⟨rfl, F', Q ++ l, H', g1, g2, g3, fun j h1 h2 => absurd h1 (by omega)⟩)
              have HWT := Lib.hid hwt2
              clear hx5 hx5l hw5 hm5 l1 q5 hbd hcu' hld5 hBx5 hbx5 hBx6 hb6 hM7 hwt hwt2 hBw5 hNf
              generalize hW7 : putOp w6 X P = W7 at hbx7 hBx7 HWT
              have HW7 := Lib.hid hW7
              clear hW7
              refine wpTreeF_one rfl ?_; simp only [List.getElem_toArray, List.getElem_cons_succ, List.getElem_cons_zero]
              go_wp2_with fail
              refine wpTreeF_two ?_ ?_
              · refine wpTreeF_one rfl ?_; simp only [List.getElem_toArray, List.getElem_cons_succ, List.getElem_cons_zero]
                go_wp2_with fail
                refine wpTreeF_two ?_ ?_
                · refine wpTreeF_one rfl ?_; simp only [List.getElem_toArray, List.getElem_cons_succ, List.getElem_cons_zero]
                  go_wp2_with fail
                  refine wpTreeF_one rfl ?_; simp only [List.getElem_toArray, List.getElem_cons_succ, List.getElem_cons_zero]
                  go_wp2_with (refine wpList_store_eq (T := 35) (v := opV P) rfl rfl rfl rfl (OpBox.store hbx6 P) ?_)
                  refine wpTreeF_nil ?_
                  rw [HW7.out]
                  have hld9 := hbx7.load
                  have hB3a : Below S2 w2 W7 := hB.trans (hBx7.mono hwS2)
                  go_upto_region 26 with (first | (refine wpList_load_eq (T := 35) (v := opV P) rfl rfl rfl hld9 ?_) | (go_at_call 10; refine HWT.out.mono ?_; rintro e w4 ⟨rfl, F4, Q4, H4, hM4, hI4, hg4, hcov4⟩))
                  obtain ⟨hB4, hF4⟩ := hg4.low hB3a HF.out (by have := hB3a.size; have := HS2.out; omega) (by have := HS2.out; omega)
                  have hCT : (0 : Int) ≤ cs.getD k 0 / 7 ∧ cs.getD k 0 / 7 < 65536 := by
                    have h1 : 0 ≤ cs.getD k 0 ∧ cs.getD k 0 < 65536 := by
                      rw [List.getD]
                      cases hg : cs[k]? with
                      | none => simp
                      | some x => exact HC.out x (List.mem_of_getElem? hg)
                    omega
                  obtain ⟨yn, hyn⟩ : ∃ yn : Nat, cs.getD k 0 / 7 = (yn : Int) := ⟨(cs.getD k 0 / 7).toNat, by omega⟩
                  have hyl : yn < 65536 := by omega
                  have hcut0 := fun (w' : World) (hb : Below w.heap.size w w') => cuts0_any _ cs k w' (SliceP.below H2.out hb) HC.out
                  rw [hyn] at hcut0
                  have HCU := Lib.hid hcut0
                  have hyt : Int.tmod (yn : Int) 3 = ((yn % 3 : Nat) : Int) := rfl
                  have hy3 : yn % 3 < 3 := Nat.mod_lt _ (by omega)
                  have hyw : IntKind.u16.wrap ((yn % 3 : Nat) : Int) = ((yn % 3 : Nat) : Int) := by generalize yn % 3 = y at hy3; simp [IntKind.wrap, IntKind.signed, IntKind.bits]; omega
                  generalize yn % 3 = y3 at hyt hy3 hyw
                  have HC4 := Lib.hid hcov4
                  clear hld9 hB3a hyn hCT hg4 hcut0 hcov4
                  go_wp2_with fail
                  go_loopw [13] (fun z wx => ∃ (n : Nat) (F : Nat → Prop) (Q : List QOp) (K : List (Int × ByteArray)) (H : List QRng), z = .int .i64 n ∧ n ≤ 3 ∧ BM F (S2 + 1) K Q H wx ∧ BInv ts.length (txOf ts) K Q H ∧
                    (∀ j, cs.length ≤ j → j < k + 1 → Cov (txOf ts) K Q (1 + ((j % ts.length : Nat) : Int))) ∧ Below S2 w2 wx ∧ ∀ b, F b → S2 ≤ b) (fun z _ => 4 - (intOf z).toNat)
                  case atStart => exact ⟨0, F4, Q4, K, H4, rfl, by omega, hM4, hI4, HC4.out, hB4, hF4⟩
                  case round =>
                    clear hM4 hI4 hB4 hF4 HC4
                    obtain ⟨n, F, Q, K, H, rfl, hn, hM, hI, hcov, hB, hF⟩ := hrel
                    have hwx2 : S2 ≤ wr.heap.size := by have := hB.size; have := HS2.out; omega
                    have hct := HCU.out wr (hBw.trans (hB.mono (by have := hBw.size; have := HS2.out; omega)))
                    have HCV := Lib.hid hcov
                    have HF := Lib.hid hF
                    clear hcov hF
                    by_cases hny : n < y3
                    · have hnyz : (n : Int) < (y3 : Int) := by omega
                      have hnx := hM.next hTX hI
                      go_upto_region 30 with (first | (go_at_call 11; refine hct.mono ?_; rintro e w5 ⟨rfl, rfl⟩) | (go_at_call 12; refine hnx.mono ?_; rintro e w5 (⟨F', hno, rfl, hM5, hg5⟩ | ⟨F', q, c9, f9, e9, H', hq, g1, g2, g3, g4, g5x, rfl, hM5, hg5, g6, g7⟩)) | (refine wpList_store_eq (T := 35) (v := opV (pc c9 (txOf ts c9) f9 e9)) rfl rfl rfl rfl (OpBox.store (OpBox.new w5 opZero) (pc c9 (txOf ts c9) f9 e9)) ?_) | (refine wpList_store_eq (T := 35) (v := opV opZero) rfl rfl rfl rfl (OpBox.store (OpBox.new w5 opZero) opZero) ?_))
                      · try go_frame
                        obtain ⟨hB5, hF5⟩ := hg5.low hB HF.out hwx2 (by have := HS2.out; omega)
                        have hBc : Below w5.heap.size w5 (putOp (w5.alloc (.cells (encOp opZero).toArray 35)) w5.heap.size opZero) := below_putOp ((Below.refl _ _).alloc (Nat.le_refl _) _) (Nat.le_refl _) _
                        have hM6 := hM5.below hBc
                        have hB6 : Below S2 w2 (putOp (w5.alloc (.cells (encOp opZero).toArray 35)) w5.heap.size opZero) := hB5.trans (hBc.mono (by have := hB5.size; have := HS2.out; omega))
                        generalize putOp (w5.alloc (.cells (encOp opZero).toArray 35)) w5.heap.size opZero = W at hM6 hB6 ⊢
                        have HF5 := Lib.hid hF5
                        clear hB5 hBc hM5 hg5 hnx hno hct hF5
                        go_wp2_with fail
                        exact ⟨⟨n + 1, F', Q, K, H, by go_num, by omega, hM6, hI, HCV.out, hB6, HF5.out⟩, by simp [intOf]; omega⟩
                      · try go_frame
                        have hBc : Below w5.heap.size w5 (putOp (w5.alloc (.cells (encOp opZero).toArray 35)) w5.heap.size (pc c9 (txOf ts c9) f9 e9)) := below_putOp ((Below.refl _ _).alloc (Nat.le_refl _) _) (Nat.le_refl _) _
                        have hby : OpBox (putOp (w5.alloc (.cells (encOp opZero).toArray 35)) w5.heap.size (pc c9 (txOf ts c9) f9 e9)) w5.heap.size (pc c9 (txOf ts c9) f9 e9) := (OpBox.new w5 opZero).put _
                        obtain ⟨hB5, hF5⟩ := hg5.low hB HF.out hwx2 (by have := HS2.out; omega)
                        have hM6 := hM5.below hBc
                        have hB6 : Below S2 w2 (putOp (w5.alloc (.cells (encOp opZero).toArray 35)) w5.heap.size (pc c9 (txOf ts c9) f9 e9)) := hB5.trans (hBc.mono (by have := hB5.size; have := HS2.out; omega))
                        generalize putOp (w5.alloc (.cells (encOp opZero).toArray 35)) w5.heap.size (pc c9 (txOf ts c9) f9 e9) = W at hM6 hB6 hby ⊢
                        generalize w5.heap.size = Y at hby ⊢
                        have hadd := hM6.add hTX hI g1 g2 g3 g4 g5x
                        obtain ⟨hI2, hcnt, _⟩ := hI.take hTX hq g1 g2 g3 g4 g5x g6 g7
                        have HC2 := Lib.hid (fun j (h1 : cs.length ≤ j) (h2 : j < k + 1) => Cov.take hq g3 g4 hcnt (by omega) (HCV.out j h1 h2))
                        have HI2 := Lib.hid hI2
                        clear hBc hM5 hB5 hg5 hnx hI2 hI hq g6 g7 hcnt g5x hct
                        go_wp2_with (first | (refine wpList_load_g 35 ⟨Y, 0, none⟩ rfl rfl hby.load (by rfl) ?_) | (go_at_call 13; refine hadd.mono ?_; rintro e w7 ⟨F7, B7, rfl, _, _, _, hM9, hg9⟩))
                        obtain ⟨hB9, hF9⟩ := hg9.low hB6 hF5 (by have := hB6.size; have := HS2.out; omega) (by have := HS2.out; omega)
                        exact ⟨⟨n + 1, F7, _, _, H', by go_num, by omega, hM9, HI2.out, HC2.out, hB9, hF9⟩, by simp [intOf]; omega⟩
                    · have hnyz : ¬ (n : Int) < (y3 : Int) := by omega
                      go_wp2_with (go_at_call 11; refine hct.mono ?_; rintro e w5 ⟨rfl, rfl⟩)
                      exact ⟨⟨k + 1, F, K, Q, H, by omega, by go_num, hM, hI, HCV.out, hB, HF.out⟩, by simp [intOf]; omega⟩
                · refine wpTreeF_one rfl ?_; simp only [List.getElem_toArray, List.getElem_cons_succ, List.getElem_cons_zero]
                  go_wp2_with (refine wpList_store_eq (T := 35) (v := opV P) rfl rfl rfl rfl (OpBox.store hbx6 P) ?_)
                  refine wpTreeF_one rfl ?_; simp only [List.getElem_toArray, List.getElem_cons_succ, List.getElem_cons_zero]
                  go_wp2_with fail
                  refine wpTreeF_nil ?_
                  rw [HW7.out]
                  have hld9 := hbx7.load
                  have hB3a : Below S2 w2 W7 := hB.trans (hBx7.mono hwS2)
                  go_upto_region 26 with (first | (refine wpList_load_eq (T := 35) (v := opV P) rfl rfl rfl hld9 ?_) | (go_at_call 10; refine HWT.out.mono ?_; rintro e w4 ⟨rfl, F4, Q4, H4, hM4, hI4, hg4, hcov4⟩))
                  obtain ⟨hB4, hF4⟩ := hg4.low hB3a HF.out (by have := hB3a.size; have := HS2.out; omega) (by have := HS2.out; omega)
                  have hCT : (0 : Int) ≤ cs.getD k 0 / 7 ∧ cs.getD k 0 / 7 < 65536 := by
                    have h1 : 0 ≤ cs.getD k 0 ∧ cs.getD k 0 < 65536 := by
                      rw [List.getD]
                      cases hg : cs[k]? with
                      | none => simp
                      | some x => exact HC.out x (List.mem_of_getElem? hg)
                    omega
                  obtain ⟨yn, hyn⟩ : ∃ yn : Nat, cs.getD k 0 / 7 = (yn : Int) := ⟨(cs.getD k 0 / 7).toNat, by omega⟩
                  have hyl : yn < 65536 := by omega
                  have hcut0 := fun (w' : World) (hb : Below w.heap.size w w') => cuts0_any _ cs k w' (SliceP.below H2.out hb) HC.out
                  rw [hyn] at hcut0
                  have HCU := Lib.hid hcut0
                  have hyt : Int.tmod (yn : Int) 3 = ((yn % 3 : Nat) : Int) := rfl
                  have hy3 : yn % 3 < 3 := Nat.mod_lt _ (by omega)
                  have hyw : IntKind.u16.wrap ((yn % 3 : Nat) : Int) = ((yn % 3 : Nat) : Int) := by generalize yn % 3 = y at hy3; simp [IntKind.wrap, IntKind.signed, IntKind.bits]; omega
                  generalize yn % 3 = y3 at hyt hy3 hyw
                  have HC4 := Lib.hid hcov4
                  clear hld9 hB3a hyn hCT hg4 hcut0 hcov4
                  go_wp2_with fail
                  go_loopw [13] (fun z wx => ∃ (n : Nat) (F : Nat → Prop) (Q : List QOp) (K : List (Int × ByteArray)) (H : List QRng), z = .int .i64 n ∧ n ≤ 3 ∧ BM F (S2 + 1) K Q H wx ∧ BInv ts.length (txOf ts) K Q H ∧
                    (∀ j, cs.length ≤ j → j < k + 1 → Cov (txOf ts) K Q (1 + ((j % ts.length : Nat) : Int))) ∧ Below S2 w2 wx ∧ ∀ b, F b → S2 ≤ b) (fun z _ => 4 - (intOf z).toNat)
                  case atStart => exact ⟨0, F4, Q4, K, H4, rfl, by omega, hM4, hI4, HC4.out, hB4, hF4⟩
                  case round =>
                    clear hM4 hI4 hB4 hF4 HC4
                    obtain ⟨n, F, Q, K, H, rfl, hn, hM, hI, hcov, hB, hF⟩ := hrel
                    have hwx2 : S2 ≤ wr.heap.size := by have := hB.size; have := HS2.out; omega
                    have hct := HCU.out wr (hBw.trans (hB.mono (by have := hBw.size; have := HS2.out; omega)))
                    have HCV := Lib.hid hcov
                    have HF := Lib.hid hF
                    clear hcov hF
                    by_cases hny : n < y3
                    · have hnyz : (n : Int) < (y3 : Int) := by omega
                      have hnx := hM.next hTX hI
                      go_upto_region 30 with (first | (go_at_call 11; refine hct.mono ?_; rintro e w5 ⟨rfl, rfl⟩) | (go_at_call 12; refine hnx.mono ?_; rintro e w5 (⟨F', hno, rfl, hM5, hg5⟩ | ⟨F', q, c9, f9, e9, H', hq, g1, g2, g3, g4, g5x, rfl, hM5, hg5, g6, g7⟩)) | (refine wpList_store_eq (T := 35) (v := opV (pc c9 (txOf ts c9) f9 e9)) rfl rfl rfl rfl (OpBox.store (OpBox.new w5 opZero) (pc c9 (txOf ts c9) f9 e9)) ?_) | (refine wpList_store_eq (T := 35) (v := opV opZero) rfl rfl rfl rfl (OpBox.store (OpBox.new w5 opZero) opZero) ?_))
                      · try go_frame
                        obtain ⟨hB5, hF5⟩ := hg5.low hB HF.out hwx2 (by have := HS2.out; omega)
                        have hBc : Below w5.heap.size w5 (putOp (w5.alloc (.cells (encOp opZero).toArray 35)) w5.heap.size opZero) := below_putOp ((Below.refl _ _).alloc (Nat.le_refl _) _) (Nat.le_refl _) _
                        have hM6 := hM5.below hBc
                        have hB6 : Below S2 w2 (putOp (w5.alloc (.cells (encOp opZero).toArray 35)) w5.heap.size opZero) := hB5.trans (hBc.mono (by have := hB5.size; have := HS2.out; omega))
                        generalize putOp (w5.alloc (.cells (encOp opZero).toArray 35)) w5.heap.size opZero = W at hM6 hB6 ⊢
                        have HF5 := Lib.hid hF5
                        clear hB5 hBc hM5 hg5 hnx hno hct hF5
                        go_wp2_with fail
                        exact ⟨⟨n + 1, F', Q, K, H, by go_num, by omega, hM6, hI, HCV.out, hB6, HF5.out⟩, by simp [intOf]; omega⟩
                      · try go_frame
                        have hBc : Below w5.heap.size w5 (putOp (w5.alloc (.cells (encOp opZero).toArray 35)) w5.heap.size (pc c9 (txOf ts c9) f9 e9)) := below_putOp ((Below.refl _ _).alloc (Nat.le_refl _) _) (Nat.le_refl _) _
                        have hby : OpBox (putOp (w5.alloc (.cells (encOp opZero).toArray 35)) w5.heap.size (pc c9 (txOf ts c9) f9 e9)) w5.heap.size (pc c9 (txOf ts c9) f9 e9) := (OpBox.new w5 opZero).put _
                        obtain ⟨hB5, hF5⟩ := hg5.low hB HF.out hwx2 (by have := HS2.out; omega)
                        have hM6 := hM5.below hBc
                        have hB6 : Below S2 w2 (putOp (w5.alloc (.cells (encOp opZero).toArray 35)) w5.heap.size (pc c9 (txOf ts c9) f9 e9)) := hB5.trans (hBc.mono (by have := hB5.size; have := HS2.out; omega))
                        generalize putOp (w5.alloc (.cells (encOp opZero).toArray 35)) w5.heap.size (pc c9 (txOf ts c9) f9 e9) = W at hM6 hB6 hby ⊢
                        generalize w5.heap.size = Y at hby ⊢
                        have hadd := hM6.add hTX hI g1 g2 g3 g4 g5x
                        obtain ⟨hI2, hcnt, _⟩ := hI.take hTX hq g1 g2 g3 g4 g5x g6 g7
                        have HC2 := Lib.hid (fun j (h1 : cs.length ≤ j) (h2 : j < k + 1) => Cov.take hq g3 g4 hcnt (by omega) (HCV.out j h1 h2))
                        have HI2 := Lib.hid hI2
                        clear hBc hM5 hB5 hg5 hnx hI2 hI hq g6 g7 hcnt g5x hct
                        go_wp2_with (first | (refine wpList_load_g 35 ⟨Y, 0, none⟩ rfl rfl hby.load (by rfl) ?_) | (go_at_call 13; refine hadd.mono ?_; rintro e w7 ⟨F7, B7, rfl, _, _, _, hM9, hg9⟩))
                        obtain ⟨hB9, hF9⟩ := hg9.low hB6 hF5 (by have := hB6.size; have := HS2.out; omega) (by have := HS2.out; omega)
                        exact ⟨⟨n + 1, F7, _, _, H', by go_num, by omega, hM9, HI2.out, HC2.out, hB9, hF9⟩, by simp [intOf]; omega⟩
                    · have hnyz : ¬ (n : Int) < (y3 : Int) := by omega
                      go_wp2_with (go_at_call 11; refine hct.mono ?_; rintro e w5 ⟨rfl, rfl⟩)
                      exact ⟨⟨k + 1, F, K, Q, H, by omega, by go_num, hM, hI, HCV.out, hB, HF.out⟩, by simp [intOf]; omega⟩
              · refine wpTreeF_one rfl ?_; simp only [List.getElem_toArray, List.getElem_cons_succ, List.getElem_cons_zero]
                go_wp2_with fail
                refine wpTreeF_one rfl ?_; simp only [List.getElem_toArray, List.getElem_cons_succ, List.getElem_cons_zero]
                go_wp2_with fail
                refine wpTreeF_one rfl ?_; simp only [List.getElem_toArray, List.getElem_cons_succ, List.getElem_cons_zero]
                go_wp2_with (refine wpList_store_eq (T := 35) (v := opV P) rfl rfl rfl rfl (OpBox.store hbx6 P) ?_)
                refine wpTreeF_nil ?_
                rw [HW7.out]
                have hld9 := hbx7.load
                have hB3a : Below S2 w2 W7 := hB.trans (hBx7.mono hwS2)
                go_upto_region 26 with (first | (refine wpList_load_eq (T := 35) (v := opV P) rfl rfl rfl hld9 ?_) | (go_at_call 10; refine HWT.out.mono ?_; rintro e w4 ⟨rfl, F4, Q4, H4, hM4, hI4, hg4, hcov4⟩))
                obtain ⟨hB4, hF4⟩ := hg4.low hB3a HF.out (by have := hB3a.size; have := HS2.out; omega) (by have := HS2.out; omega)
                have hCT : (0 : Int) ≤ cs.getD k 0 / 7 ∧ cs.getD k 0 / 7 < 65536 := by
                  have h1 : 0 ≤ cs.getD k 0 ∧ cs.getD k 0 < 65536 := by
                    rw [List.getD]
                    cases hg : cs[k]? with
                    | none => simp
                    | some x => exact HC.out x (List.mem_of_getElem? hg)
                  omega
                obtain ⟨yn, hyn⟩ : ∃ yn : Nat, cs.getD k 0 / 7 = (yn : Int) := ⟨(cs.getD k 0 / 7).toNat, by omega⟩
                have hyl : yn < 65536 := by omega
                have hcut0 := fun (w' : World) (hb : Below w.heap.size w w') => cuts0_any _ cs k w' (SliceP.below H2.out hb) HC.out
                rw [hyn] at hcut0
                have HCU := Lib.hid hcut0
                have hyt : Int.tmod (yn : Int) 3 = ((yn % 3 : Nat) : Int) := rfl
                have hy3 : yn % 3 < 3 := Nat.mod_lt _ (by omega)
                have hyw : IntKind.u16.wrap ((yn % 3 : Nat) : Int) = ((yn % 3 : Nat) : Int) := by generalize yn % 3 = y at hy3; simp [IntKind.wrap, IntKind.signed, IntKind.bits]; omega
                generalize yn % 3 = y3 at hyt hy3 hyw
                have HC4 := Lib.hid hcov4
                clear hld9 hB3a hyn hCT hg4 hcut0 hcov4
                go_wp2_with fail
                go_loopw [13] (fun z wx => ∃ (n : Nat) (F : Nat → Prop) (Q : List QOp) (K : List (Int × ByteArray)) (H : List QRng), z = .int .i64 n ∧ n ≤ 3 ∧ BM F (S2 + 1) K Q H wx ∧ BInv ts.length (txOf ts) K Q H ∧
                  (∀ j, cs.length ≤ j → j < k + 1 → Cov (txOf ts) K Q (1 + ((j % ts.length : Nat) : Int))) ∧ Below S2 w2 wx ∧ ∀ b, F b → S2 ≤ b) (fun z _ => 4 - (intOf z).toNat)
                case atStart => exact ⟨0, F4, Q4, K, H4, rfl, by omega, hM4, hI4, HC4.out, hB4, hF4⟩
                case round =>
                  clear hM4 hI4 hB4 hF4 HC4
                  obtain ⟨n, F, Q, K, H, rfl, hn, hM, hI, hcov, hB, hF⟩ := hrel
                  have hwx2 : S2 ≤ wr.heap.size := by have := hB.size; have := HS2.out; omega
                  have hct := HCU.out wr (hBw.trans (hB.mono (by have := hBw.size; have := HS2.out; omega)))
                  have HCV := Lib.hid hcov
                  have HF := Lib.hid hF
                  clear hcov hF
                  by_cases hny : n < y3
                  · have hnyz : (n : Int) < (y3 : Int) := by omega
                    have hnx := hM.next hTX hI
                    go_upto_region 30 with (first | (go_at_call 11; refine hct.mono ?_; rintro e w5 ⟨rfl, rfl⟩) | (go_at_call 12; refine hnx.mono ?_; rintro e w5 (⟨F', hno, rfl, hM5, hg5⟩ | ⟨F', q, c9, f9, e9, H', hq, g1, g2, g3, g4, g5x, rfl, hM5, hg5, g6, g7⟩)) | (refine wpList_store_eq (T := 35) (v := opV (pc c9 (txOf ts c9) f9 e9)) rfl rfl rfl rfl (OpBox.store (OpBox.new w5 opZero) (pc c9 (txOf ts c9) f9 e9)) ?_) | (refine wpList_store_eq (T := 35) (v := opV opZero) rfl rfl rfl rfl (OpBox.store (OpBox.new w5 opZero) opZero) ?_))
                    · try go_frame
                      obtain ⟨hB5, hF5⟩ := hg5.low hB HF.out hwx2 (by have := HS2.out; omega)
                      have hBc : Below w5.heap.size w5 (putOp (w5.alloc (.cells (encOp opZero).toArray 35)) w5.heap.size opZero) := below_putOp ((Below.refl _ _).alloc (Nat.le_refl _) _) (Nat.le_refl _) _
                      have hM6 := hM5.below hBc
                      have hB6 : Below S2 w2 (putOp (w5.alloc (.cells (encOp opZero).toArray 35)) w5.heap.size opZero) := hB5.trans (hBc.mono (by have := hB5.size; have := HS2.out; omega))
                      generalize putOp (w5.alloc (.cells (encOp opZero).toArray 35)) w5.heap.size opZero = W at hM6 hB6 ⊢
                      have HF5 := Lib.hid hF5
                      clear hB5 hBc hM5 hg5 hnx hno hct hF5
                      go_wp2_with fail
                      exact ⟨⟨n + 1, F', Q, K, H, by go_num, by omega, hM6, hI, HCV.out, hB6, HF5.out⟩, by simp [intOf]; omega⟩
                    · try go_frame
                      have hBc : Below w5.heap.size w5 (putOp (w5.alloc (.cells (encOp opZero).toArray 35)) w5.heap.size (pc c9 (txOf ts c9) f9 e9)) := below_putOp ((Below.refl _ _).alloc (Nat.le_refl _) _) (Nat.le_refl _) _
                      have hby : OpBox (putOp (w5.alloc (.cells (encOp opZero).toArray 35)) w5.heap.size (pc c9 (txOf ts c9) f9 e9)) w5.heap.size (pc c9 (txOf ts c9) f9 e9) := (OpBox.new w5 opZero).put _
                      obtain ⟨hB5, hF5⟩ := hg5.low hB HF.out hwx2 (by have := HS2.out; omega)
                      have hM6 := hM5.below hBc
                      have hB6 : Below S2 w2 (putOp (w5.alloc (.cells (encOp opZero).toArray 35)) w5.heap.size (pc c9 (txOf ts c9) f9 e9)) := hB5.trans (hBc.mono (by have := hB5.size; have := HS2.out; omega))
                      generalize putOp (w5.alloc (.cells (encOp opZero).toArray 35)) w5.heap.size (pc c9 (txOf ts c9) f9 e9) = W at hM6 hB6 hby ⊢
                      generalize w5.heap.size = Y at hby ⊢
                      have hadd := hM6.add hTX hI g1 g2 g3 g4 g5x
                      obtain ⟨hI2, hcnt, _⟩ := hI.take hTX hq g1 g2 g3 g4 g5x g6 g7
                      have HC2 := Lib.hid (fun j (h1 : cs.length ≤ j) (h2 : j < k + 1) => Cov.take hq g3 g4 hcnt (by omega) (HCV.out j h1 h2))
                      have HI2 := Lib.hid hI2
                      clear hBc hM5 hB5 hg5 hnx hI2 hI hq g6 g7 hcnt g5x hct
                      go_wp2_with (first | (refine wpList_load_g 35 ⟨Y, 0, none⟩ rfl rfl hby.load (by rfl) ?_) | (go_at_call 13; refine hadd.mono ?_; rintro e w7 ⟨F7, B7, rfl, _, _, _, hM9, hg9⟩))
                      obtain ⟨hB9, hF9⟩ := hg9.low hB6 hF5 (by have := hB6.size; have := HS2.out; omega) (by have := HS2.out; omega)
                      exact ⟨⟨n + 1, F7, _, _, H', by go_num, by omega, hM9, HI2.out, HC2.out, hB9, hF9⟩, by simp [intOf]; omega⟩
                  · have hnyz : ¬ (n : Int) < (y3 : Int) := by omega
                    go_wp2_with (go_at_call 11; refine hct.mono ?_; rintro e w5 ⟨rfl, rfl⟩)
                    exact ⟨⟨k + 1, F, K, Q, H, by omega, by go_num, hM, hI, HCV.out, hB, HF.out⟩, by simp [intOf]; omega⟩
--AA>
            · have hkcz : ¬ (k : Int) < (cs.length : Int) := by omega
              have hxk := hTX.ok (1 + (j0 : Int)) (by omega) (by omega)
              have hpw := pc_whole (1 + (j0 : Int)) (t := t0) (e := wholeN (txOf ts) (1 + (j0 : Int))) (by rw [txOf_get HT0.out] at hxk; exact hxk.1) (by unfold wholeN; rw [txOf_get HT0.out]; exact Nat.le_refl _)
              have hM7 := hM.below hBx
              have hwt := hM7.wait hTX hI (c := 1 + (j0 : Int)) (f := 0) (e := wholeN (txOf ts) (1 + (j0 : Int))) (by omega) (by omega) (by unfold wholeN; omega) (Nat.le_refl _)
              have hpw2 : pc (1 + (j0 : Int)) (txOf ts (1 + (j0 : Int))) 0 (wholeN (txOf ts) (1 + (j0 : Int))) = kOp (1 + (j0 : Int)) t0 := by rw [txOf_get HT0.out]; exact hpw
              rw [hpw2] at hwt
              have hwt2 := hwt.mono (R' := fun en w' => en = .returned (.tuple #[]) ∧ ∃ F' Q' H', BM F' (S2 + 1) K Q' H' w' ∧ BInv ts.length (txOf ts) K Q' H' ∧ Grows F F' W w' ∧ ∀ j, cs.length ≤ j → j < k + 1 → Cov (txOf ts) K Q' (1 + ((j % ts.length : Nat) : Int))) (by
                rintro en w' ⟨rfl, F', l, H', g1, g2, g3, g4, _⟩
                refine ⟨rfl, F', Q ++ l, H', g1, g2, g3, fun j h1 h2 => ?_⟩
                rcases Nat.lt_or_ge j k with h3 | h3
                · exact Cov.wait (HCV.out j h1 h3) l
                · obtain rfl : j = k := by omega
                  rw [HJ0.out]
                  exact g4 rfl rfl)
              have HWT := Lib.hid hwt2
              obtain ⟨P, hP⟩ : ∃ P, kOp (1 + (j0 : Int)) t0 = P := ⟨_, rfl⟩
              rw [hP] at HWT hbx ⊢
              clear hwt hwt2 hpw hpw2 hM7 hxk hP
              have hld9 := hbx.load
              have hB3a : Below S2 w2 W := hB.trans (hBx.mono hwS2)
              go_upto_region 26 with (first | (refine wpList_load_eq (T := 35) (v := opV P) rfl rfl rfl hld9 ?_) | (go_at_call 10; refine HWT.out.mono ?_; rintro e w4 ⟨rfl, F4, Q4, H4, hM4, hI4, hg4, hcov4⟩))
              obtain ⟨hB4, hF4⟩ := hg4.low hB3a HF.out (by have := hB3a.size; have := HS2.out; omega) (by have := HS2.out; omega)
              have hCT : (0 : Int) ≤ cs.getD k 0 / 7 ∧ cs.getD k 0 / 7 < 65536 := by
                have h1 : 0 ≤ cs.getD k 0 ∧ cs.getD k 0 < 65536 := by
                  rw [List.getD]
                  cases hg : cs[k]? with
                  | none => simp
                  | some x => exact HC.out x (List.mem_of_getElem? hg)
                omega
              obtain ⟨yn, hyn⟩ : ∃ yn : Nat, cs.getD k 0 / 7 = (yn : Int) := ⟨(cs.getD k 0 / 7).toNat, by omega⟩
              have hyl : yn < 65536 := by omega
              have hcut0 := fun (w' : World) (hb : Below w.heap.size w w') => cuts0_any _ cs k w' (SliceP.below H2.out hb) HC.out
              rw [hyn] at hcut0
              have HCU := Lib.hid hcut0
              have hyt : Int.tmod (yn : Int) 3 = ((yn % 3 : Nat) : Int) := rfl
              have hy3 : yn % 3 < 3 := Nat.mod_lt _ (by omega)
              have hyw : IntKind.u16.wrap ((yn % 3 : Nat) : Int) = ((yn % 3 : Nat) : Int) := by generalize yn % 3 = y at hy3; simp [IntKind.wrap, IntKind.signed, IntKind.bits]; omega
              generalize yn % 3 = y3 at hyt hy3 hyw
              have HC4 := Lib.hid hcov4
              clear hld9 hB3a hyn hCT hg4 hcut0 hcov4
              go_wp2_with fail
              go_loopw [13] (fun z wx => ∃ (n : Nat) (F : Nat → Prop) (Q : List QOp) (K : List (Int × ByteArray)) (H : List QRng), z = .int .i64 n ∧ n ≤ 3 ∧ BM F (S2 + 1) K Q H wx ∧ BInv ts.length (txOf ts) K Q H ∧
                (∀ j, cs.length ≤ j → j < k + 1 → Cov (txOf ts) K Q (1 + ((j % ts.length : Nat) : Int))) ∧ Below S2 w2 wx ∧ ∀ b, F b → S2 ≤ b) (fun z _ => 4 - (intOf z).toNat)
              case atStart => exact ⟨0, F4, Q4, K, H4, rfl, by omega, hM4, hI4, HC4.out, hB4, hF4⟩
              case round =>
                clear hM4 hI4 hB4 hF4 HC4
                obtain ⟨n, F, Q, K, H, rfl, hn, hM, hI, hcov, hB, hF⟩ := hrel
                have hwx2 : S2 ≤ wr.heap.size := by have := hB.size; have := HS2.out; omega
                have hct := HCU.out wr (hBw.trans (hB.mono (by have := hBw.size; have := HS2.out; omega)))
                have HCV := Lib.hid hcov
                have HF := Lib.hid hF
                clear hcov hF
                by_cases hny : n < y3
                · have hnyz : (n : Int) < (y3 : Int) := by omega
                  have hnx := hM.next hTX hI
                  go_upto_region 30 with (first | (go_at_call 11; refine hct.mono ?_; rintro e w5 ⟨rfl, rfl⟩) | (go_at_call 12; refine hnx.mono ?_; rintro e w5 (⟨F', hno, rfl, hM5, hg5⟩ | ⟨F', q, c9, f9, e9, H', hq, g1, g2, g3, g4, g5x, rfl, hM5, hg5, g6, g7⟩)) | (refine wpList_store_eq (T := 35) (v := opV (pc c9 (txOf ts c9) f9 e9)) rfl rfl rfl rfl (OpBox.store (OpBox.new w5 opZero) (pc c9 (txOf ts c9) f9 e9)) ?_) | (refine wpList_store_eq (T := 35) (v := opV opZero) rfl rfl rfl rfl (OpBox.store (OpBox.new w5 opZero) opZero) ?_))
                  · try go_frame
                    obtain ⟨hB5, hF5⟩ := hg5.low hB HF.out hwx2 (by have := HS2.out; omega)
                    have hBc : Below w5.heap.size w5 (putOp (w5.alloc (.cells (encOp opZero).toArray 35)) w5.heap.size opZero) := below_putOp ((Below.refl _ _).alloc (Nat.le_refl _) _) (Nat.le_refl _) _
                    have hM6 := hM5.below hBc
                    have hB6 : Below S2 w2 (putOp (w5.alloc (.cells (encOp opZero).toArray 35)) w5.heap.size opZero) := hB5.trans (hBc.mono (by have := hB5.size; have := HS2.out; omega))
                    generalize putOp (w5.alloc (.cells (encOp opZero).toArray 35)) w5.heap.size opZero = W at hM6 hB6 ⊢
                    have HF5 := Lib.hid hF5
                    clear hB5 hBc hM5 hg5 hnx hno hct hF5
                    go_wp2_with fail
                    exact ⟨⟨n + 1, F', Q, K, H, by go_num, by omega, hM6, hI, HCV.out, hB6, HF5.out⟩, by simp [intOf]; omega⟩
                  · try go_frame
                    have hBc : Below w5.heap.size w5 (putOp (w5.alloc (.cells (encOp opZero).toArray 35)) w5.heap.size (pc c9 (txOf ts c9) f9 e9)) := below_putOp ((Below.refl _ _).alloc (Nat.le_refl _) _) (Nat.le_refl _) _
                    have hby : OpBox (putOp (w5.alloc (.cells (encOp opZero).toArray 35)) w5.heap.size (pc c9 (txOf ts c9) f9 e9)) w5.heap.size (pc c9 (txOf ts c9) f9 e9) := (OpBox.new w5 opZero).put _
                    obtain ⟨hB5, hF5⟩ := hg5.low hB HF.out hwx2 (by have := HS2.out; omega)
                    have hM6 := hM5.below hBc
                    have hB6 : Below S2 w2 (putOp (w5.alloc (.cells (encOp opZero).toArray 35)) w5.heap.size (pc c9 (txOf ts c9) f9 e9)) := hB5.trans (hBc.mono (by have := hB5.size; have := HS2.out; omega))
                    generalize putOp (w5.alloc (.cells (encOp opZero).toArray 35)) w5.heap.size (pc c9 (txOf ts c9) f9 e9) = W at hM6 hB6 hby ⊢
                    generalize w5.heap.size = Y at hby ⊢
                    have hadd := hM6.add hTX hI g1 g2 g3 g4 g5x
                    obtain ⟨hI2, hcnt, _⟩ := hI.take hTX hq g1 g2 g3 g4 g5x g6 g7
                    have HC2 := Lib.hid (fun j (h1 : cs.length ≤ j) (h2 : j < k + 1) => Cov.take hq g3 g4 hcnt (by omega) (HCV.out j h1 h2))
                    have HI2 := Lib.hid hI2
                    clear hBc hM5 hB5 hg5 hnx hI2 hI hq g6 g7 hcnt g5x hct
                    go_wp2_with (first | (refine wpList_load_g 35 ⟨Y, 0, none⟩ rfl rfl hby.load (by rfl) ?_) | (go_at_call 13; refine hadd.mono ?_; rintro e w7 ⟨F7, B7, rfl, _, _, _, hM9, hg9⟩))
                    obtain ⟨hB9, hF9⟩ := hg9.low hB6 hF5 (by have := hB6.size; have := HS2.out; omega) (by have := HS2.out; omega)
                    exact ⟨⟨n + 1, F7, _, _, H', by go_num, by omega, hM9, HI2.out, HC2.out, hB9, hF9⟩, by simp [intOf]; omega⟩
                · have hnyz : ¬ (n : Int) < (y3 : Int) := by omega
                  go_wp2_with (go_at_call 11; refine hct.mono ?_; rintro e w5 ⟨rfl, rfl⟩)
                  exact ⟨⟨k + 1, F, K, Q, H, by omega, by go_num, hM, hI, HCV.out, hB, HF.out⟩, by simp [intOf]; omega⟩
--A0>
          · obtain rfl : k = cs.length + ts.length := by omega
            have hcovA : ∀ c : Int, 1 ≤ c → c ≤ ts.length → Cov (txOf ts) K Q c := fun c g1 g2 => by
              obtain ⟨j, j1, j2, j3⟩ := mod_hit (n := ts.length) (cl := cs.length) (m := (c - 1).toNat) (by omega) (by omega)
              have := hcov j j1 j2
              rwa [j3, show (1 : Int) + (((c - 1).toNat : Nat) : Int) = c by omega] at this
            have hfew := (hI.few hTX).1
            clear hcov
            have hkl : ¬ ((cs.length : Int) + (ts.length : Int)) < (cs.length : Int) + (ts.length : Int) := by omega
            go_wp2_with fail
            go_loopw [16] (fun z wx => ∃ (n : Nat) (F : Nat → Prop) (K : List (Int × ByteArray)) (Q : List QOp) (H : List QRng), z = .int .i64 n ∧ n + Q.length ≤ 600 ∧ BM F (S2 + 1) K Q H wx ∧ BInv ts.length (txOf ts) K Q H ∧
              (∀ c : Int, 1 ≤ c → c ≤ ts.length → Cov (txOf ts) K Q c) ∧ Below S2 w2 wx ∧ ∀ b, F b → S2 ≤ b) (fun z _ => 700 - (intOf z).toNat)
            case atStart => exact ⟨0, F, K, Q, H, rfl, by omega, hM, hI, hcovA, hB, hF⟩
            case round =>
              clear hM hI hcovA hB hF hfew
              obtain ⟨n, F, K, Q, H, rfl, hn, hM, hI, hcov, hB, hF⟩ := hrel
              have hnx := hM.next hTX hI
              have hwS2 : S2 ≤ wr.heap.size := by have := hB.size; have := HS2.out; omega
              go_upto_region 35 with (first | (go_at_call 12; refine hnx.mono ?_; rintro e w5 (⟨F', hno, rfl, hM5, hg5⟩ | ⟨F', q, c, f, e, H', hq, g1, g2, g3, g4, g5, rfl, hM5, hg5, g6, g7⟩)) | (refine wpList_store_eq (T := 35) (v := opV (pc c (txOf ts c) f e)) rfl rfl rfl rfl (OpBox.store (OpBox.new w5 opZero) (pc c (txOf ts c) f e)) ?_) | (refine wpList_store_eq (T := 35) (v := opV opZero) rfl rfl rfl rfl (OpBox.store (OpBox.new w5 opZero) opZero) ?_))
--<E4 14
              · try go_frame
                obtain ⟨hB5, hF5⟩ := hg5.low hB hF hwS2 (by have := HS2.out; omega)
                have hBc : Below w5.heap.size w5 (putOp (w5.alloc (.cells (encOp opZero).toArray 35)) w5.heap.size opZero) := below_putOp ((Below.refl _ _).alloc (Nat.le_refl _) _) (Nat.le_refl _) _
                have hM6 := hM5.below hBc
                have hB6 : Below S2 w2 (putOp (w5.alloc (.cells (encOp opZero).toArray 35)) w5.heap.size opZero) := hB5.trans (hBc.mono (by have := hB5.size; have := HS2.out; omega))
                generalize putOp (w5.alloc (.cells (encOp opZero).toArray 35)) w5.heap.size opZero = W at hM6 hB6 ⊢
                obtain ⟨rfl, rfl, hall, hin⟩ := hI.done hTX hcov hno
                have hwt := waiting_none F' (S2 + 1) K [] [] W hM6.st (hI.small hTX) (hI.kfew hTX) hM6.tabs (by simp) (fun i => by simp [hasRngs]) (hI.kcs hTX)
                have hsi := fun (w : World) (h : BM F' (S2 + 1) K [] [] w) => since_any F' (S2 + 1) K [] [] (.slice none 0 0) [] w h.st (hI.kfew hTX) (hI.ksince hTX) h.tabs (.inl ⟨rfl, rfl⟩) ⟨by simp, by simp⟩ (by simp)
                have hsw := fun (w w' : World) (v : Value) => since_whole (w := w) (w' := w') (v := v) hTX hI.keys hall hin
                have hjn := fun (w : World) (h : OwnAt S 35 22 encOp w (.slice (some ⟨g5, 0, none⟩) ts.length cap5) (wholeL 1 ts)) => join8_any _ (wholeL 1 ts) w (OwnAt.slice (k := 22) (enc := encOp) (fun _ => rfl) h) (join_of h5 HGD.out) (by rw [wholeL_len]; omega)
                have how : OwnAt S 35 22 encOp W (.slice (some ⟨g5, 0, none⟩) ts.length cap5) (wholeL 1 ts) := ownsRow_blk ho fun b e => hB6.block b (by have := ownsRow_lt ho b e; have := HS2.out; omega)
                have hBW : Below w.heap.size w W := hBw.trans (hB6.mono (by have := hBw.size; have := HS2.out; omega))
                have hsz5 : (wholeL 1 ts).length ≤ 1000 := by rw [wholeL_len]; omega
                have htop := whole_tOp ts 1
                clear hB5 hBc hM5 hg5 hnx hI hcov hno hall hin hB hM hF hn hwS2 hTX
                generalize hwl : wholeL 1 ts = wl at hsw hjn how hsz5 htop
                clear hwl
                go_wp2_with (first | (go_at_call 14; refine hwt.mono ?_; rintro e w10 ⟨rfl, hb10⟩; have hM10 := hM6.below hb10) | (go_at_call 16; refine (hsi _ hM10).mono ?_; rintro e w11 ⟨v11, rfl, hs11⟩; obtain ⟨ho11, hb11⟩ := hsw _ _ _ hs11) | (go_at_call 17; refine (hjn _ (ownsRow_blk how fun b e => (belowTrans hb10 hb11).block b (ownsRow_lt how b e))).mono ?_; rintro e w12 ⟨v12, rfl, ho12, hb12⟩) | (go_at_call 15; refine (sameAll_self _ _ wl _ ((OwnAt.slice (k := 22) (enc := encOp) (fun _ => rfl) ho11).below hb12) (OwnAt.slice (k := 22) (enc := encOp) (fun _ => rfl) ho12) htop hsz5).mono ?_; rintro e w13 ⟨rfl, hb13⟩))
                go_ret
                exact ⟨rfl, belowTrans hBW (belowTrans (belowTrans (belowTrans hb10 hb11) hb12) hb13)⟩
--E4>
--<L4 14
              · try go_frame
                have hBc : Below w5.heap.size w5 (putOp (w5.alloc (.cells (encOp opZero).toArray 35)) w5.heap.size (pc c (txOf ts c) f e)) := below_putOp ((Below.refl _ _).alloc (Nat.le_refl _) _) (Nat.le_refl _) _
                have hbx : OpBox (putOp (w5.alloc (.cells (encOp opZero).toArray 35)) w5.heap.size (pc c (txOf ts c) f e)) w5.heap.size (pc c (txOf ts c) f e) := (OpBox.new w5 opZero).put _
                obtain ⟨hB5, hF5⟩ := hg5.low hB hF hwS2 (by have := HS2.out; omega)
                have hM6 := hM5.below hBc
                have hB6 : Below S2 w2 (putOp (w5.alloc (.cells (encOp opZero).toArray 35)) w5.heap.size (pc c (txOf ts c) f e)) := hB5.trans (hBc.mono (by have := hB5.size; have := HS2.out; omega))
                generalize putOp (w5.alloc (.cells (encOp opZero).toArray 35)) w5.heap.size (pc c (txOf ts c) f e) = W at hM6 hB6 hbx ⊢
                generalize w5.heap.size = X at hbx ⊢
                have hadd := hM6.add hTX hI g1 g2 g3 g4 g5
                obtain ⟨hI2, hcnt, _⟩ := hI.take hTX hq g1 g2 g3 g4 g5 g6 g7
                have hql : q < Q.length := (List.getElem?_eq_some_iff.1 hq).1
                have hel : (Q.eraseIdx q).length = Q.length - 1 := by rw [List.length_eraseIdx, if_pos hql]
                have HCV := Lib.hid (fun d (h1 : 1 ≤ d) (h2 : d ≤ (ts.length : Int)) => Cov.take hq g3 g4 hcnt (by omega) (hcov d h1 h2))
                have HEL := Lib.hid hel
                have HI2 := Lib.hid hI2
                have d20 : decide ((2000 : Int) < (n : Int)) = false := by simp; omega
                have n20 : ¬ 2000 < n := by omega
                clear hBc hM5 hB5 hg5 hnx hel hI2 hI hcov hq g6 g7 hcnt g5
                go_wp2_with (first | (refine wpList_load_g 35 ⟨X, 0, none⟩ rfl rfl hbx.load (by rfl) ?_) | (go_at_call 13; refine hadd.mono ?_; rintro e w7 ⟨F7, B7, rfl, _, _, _, hM7, hg7⟩))
                obtain ⟨hB7, hF7⟩ := hg7.low hB6 hF5 (by have := hB6.size; have := HS2.out; omega) (by have := HS2.out; omega)
                exact ⟨⟨n + 1, F7, _, _, H', by go_num, by rw [HEL.out]; omega, hM7, HI2.out, fun d h1 h2 => HCV.out d h1 h2, hB7, hF7⟩, by simp [intOf]; omega⟩
--L4>
end Go.Proofs.YtaeebgljcdfolaaGreatDoor
