/- Walks: store.Known, find, Get, Waiting. -/
import Derived.Test.YtaeebgljcdfolaaGreatDoorM22
import Derived.Test.YtaeebgljcdfolaaGreatDoorM29
import Derived.Test.YtaeebgljcdfolaaGreatDoorM30
namespace Go.Proofs.YtaeebgljcdfolaaGreatDoor
open Go.RowKit Go.Lib

set_option maxHeartbeats 400000 in
theorem mapKeys_any (mb : Nat) (w : World) : Calls Tryz.prog 45 #[.map (some mb)] w fun e w' => e = .returned (.func (.func 71) #[] #[.pointer (some ⟨w.heap.size, 0, none⟩)]) ∧ w' = w.alloc (.cells #[.map (some mb)] 64) := by
  go_enter Tryz.func45, Tryz.ntmps45
  go_wp2
  go_ret
  exact ⟨rfl, rfl⟩
/-- a store whose clients are few, and right. -/
structure KFew (K : List (Int × ByteArray)) : Prop where
  few : K.length ≤ 12
  u64 : ∀ p ∈ K, u64B p.1
theorem StoreAt.keysAt {w : World} {sb : Nat} {L : SLay} {K : List (Int × ByteArray)} {Q : List QOp} {H : List QRng} (h : StoreAt w sb L K Q H) : MapK u64V w L.m ((K.map (·.1)).map fun k => (k, L.row k)) := by
  have := h.map
  rw [List.map_map]
  exact this
set_option maxRecDepth 100000 in
set_option maxHeartbeats 1000000 in
/-- the clients, sorted. -/
theorem sortedK_any (mb : Nat) (ks : List Int) (f : Int → Value) (w : World) (h : MapK u64V w mb (ks.map fun k => (k, f k))) (hnd : ks.Nodup) (hsz : ∀ k ∈ ks, u64B k) (hlen : ks.length ≤ 12) :
    Calls Tryz.prog 44 #[.func (.func 71) #[] #[.pointer (some ⟨w.heap.size, 0, none⟩)]] (w.alloc (.cells #[.map (some mb)] 64)) (RetW (SortedKeysR w.heap.size ks w)) := by
  have hB : Below w.heap.size w (w.alloc (.cells #[.map (some mb)] 64)) := (Below.refl _ _).alloc (Nat.le_refl _) _
  refine (sortedU_any w.heap.size mb ks f _ hnd hsz hlen (by simp) (by go_simp) (h.blk (hB.block _ h.lt))).mono ?_
  rintro e w' ⟨v, rfl, ys, hp, hs, ho, hb⟩
  exact ⟨v, rfl, ys, hp, hs, ownsRow_base ho hB.size, belowTrans hB hb⟩
/-- what Known tells. -/
def KnownR (K : List (Int × ByteArray)) (w : World) (v : Value) (w' : World) : Prop :=
  ∃ ys : List Int, ys.Perm (K.map (·.1)) ∧ ys.Pairwise (· ≤ ·) ∧ OwnAt w.heap.size 53 2 encIdv w' v (ys.map fun c => (⟨c, kcount K c⟩ : QId)) ∧ Below w.heap.size w w'
set_option maxRecDepth 100000 in
set_option maxHeartbeats 4000000 in
theorem knownAll_any (F : Nat → Prop) (sb : Nat) (K : List (Int × ByteArray)) (Q : List QOp) (H : List QRng) (w : World) (h : StoreIn w F sb K Q H) (hK : KSmall K) (hF : KFew K) (hT : Tabs w) :
    Calls Tryz.prog 20 #[.pointer (some ⟨sb, 0, none⟩)] w (RetW (KnownR K w)) := by
  obtain ⟨i0, hi, hz0, hz1, hz2⟩ := info_parts infoClk
  have hkn := fun c w h hT => known_any F sb K Q H c w h hK hT
  have h0 := h
  obtain ⟨L, hS, _⟩ := h
  have hso := sortedK_any L.m (K.map (·.1)) L.row w hS.keysAt hS.keys (fun k hk => by
    obtain ⟨p, hp, rfl⟩ := List.mem_map.1 hk
    exact hF.u64 p hp) (by rw [List.length_map]; exact hF.few)
  have hst := hS.st
  have hsb : sb < w.heap.size := (Array.getElem?_eq_some_iff.1 hst).1
  have s0 : w.cell? ⟨sb, 0, none⟩ = some (.map (some L.m)) := by simp [World.cell?, hst]
  have hkl := hF.few
  clear hF hst hS
  go_enter Tryz.func20, Tryz.ntmps20
  go_upto_region 3 with (first | (go_at_call 45; refine (mapKeys_any L.m _).mono ?_; rintro e w1 ⟨rfl, rfl⟩) | (go_at_call 44; refine hso.mono ?_; rintro e w2 ⟨v2, rfl, ys, hp, hs, ho2, hb2⟩; obtain ⟨p, cap, rfl⟩ := ownsRow_len ho2))
  have hyl : ys.length ≤ 12 := by rw [hp.length_eq, List.length_map]; exact hkl
  have HP := Lib.hid hp
  have HS := Lib.hid hs
  clear hp hs hso s0
  have hl2 := OwnAt.slice (k := 1) (enc := encU) (fun _ => rfl) ho2
  clear ho2
  obtain ⟨S, hSS⟩ : ∃ S, w2.heap.size = S := ⟨_, rfl⟩
  have HSS := Lib.hid hSS
  have hwS : w.heap.size ≤ S := by have := hb2.size; omega
  clear hSS
  go_loopw [3, 13] (fun o i wr => ∃ k : Nat, k ≤ ys.length ∧ i = .int .i64 k ∧ OwnAt S 53 2 encIdv wr o ((ys.take k).map fun c => (⟨c, kcount K c⟩ : QId)) ∧ Below S w2 wr) (fun _ i _ => ys.length - (intOf i).toNat)
  case atStart => exact ⟨0, Nat.zero_le _, rfl, OwnAt.nil, Below.refl _ _⟩
  case round =>
    obtain ⟨k, hk, rfl, ho, hb⟩ := hrel
    by_cases hlt : k < ys.length
    · have hltz : (k : Int) < (ys.length : Int) := by omega
      have hlr := hl2.keep (by have := hb.size; have := HSS.out; omega) fun b off n c e hlt => hb.block b (by rw [← HSS.out]; exact hlt)
      obtain ⟨b, off, rfl⟩ : ∃ b off, p = some ⟨b, off, none⟩ := by
        rcases hlr with ⟨_, h⟩ | ⟨b0, off, _, h, _⟩
        · rw [h] at hlt; simp at hlt
        · cases h; exact ⟨_, _, rfl⟩
      have x0 : wr.cell? ⟨b, off + k, none⟩ = some (.int .u64 ys[k]) := by
        rcases hlr with ⟨e, _⟩ | ⟨b', off', c', e, _, _, hc⟩
        · cases e
        · cases e
          have := hc k ys[k] (by simp) 0 _ rfl
          rwa [Nat.mul_one, Nat.add_zero] at this
      have hstep : (ys.take (k + 1)).map (fun c => (⟨c, kcount K c⟩ : QId)) = (ys.take k).map (fun c => (⟨c, kcount K c⟩ : QId)) ++ [⟨ys[k], kcount K ys[k]⟩] := by
        rw [List.take_succ_eq_append_getElem hlt, List.map_append]; rfl
      have HST := Lib.hid hstep
      have htl : ((ys.take k).map (fun c => (⟨c, kcount K c⟩ : QId))).length ≤ 12 := by rw [List.length_map, List.length_take]; omega
      clear hstep hlr
      generalize ys[k] = c at x0 HST
      generalize (ys.take k).map (fun c => (⟨c, kcount K c⟩ : QId)) = out at ho HST htl
      have hknc := hkn c
      generalize kcount K c = n at hknc HST
      have hS1w : S ≤ wr.heap.size := by have := hb.size; have := HSS.out; omega
      have hBr : Below w.heap.size w wr := hb2.trans (hb.mono hwS)
      have hu : ∀ b, u3.ownBlock = some b → S ≤ b := fun b e => (World.ownsRow.lt ho b e).1
      go_upto_region 6 with (first | (go_at_call 33; refine (hknc _ (h0.below hBr) (hT.below hBr)).mono ?_; rintro e w3 ⟨rfl, hb3⟩; have ho3 : OwnAt S 53 2 encIdv w3 u3 out := ownsRow_blk ho fun b e => hb3.block b (ownsRow_lt ho b e)) | (at_builtin; refine wpList_append_own_at _ rfl _ _ 54 rfl S 53 i0 (.agg #[.int .u64 idZero.c, .int .u64 idZero.k]) 2 16 Tryz.underlying54 hi hz0 hz1 hz2 rfl (by decide) _ _ _ rfl (show World.ownsRow _ S 53 2 u3 out.length (out.flatMap encIdv) from World.ownsRow.alloc ho3 _) ⟨w3.heap.size, 0, none⟩ 1 1 [.int .u64 c, .int .u64 n] rfl rfl ?f1 ?f2 ?f3 ?f4 ?f5 ?_))
      case f1 => exact fun j u hu => by rw [Addr.add_lit, World.cell?, heap_alloc_new]; simpa using hu
      case f2 => intro u hu; simp at hu; rcases hu with rfl | rfl <;> rfl
      case f3 => unfold maxLen; omega
      case f4 => omega
      case f5 => have := hb3.size; simp; omega
      intro v' w4 hown' hgrow _ _
      have hS3 := hb3.size
      have hB4 : Below S w2 w4 := ((hb.trans (hb3.mono hS1w)).alloc (by omega) _).grown hgrow (by simp; omega) (fun b e => hu b e)
      have ho5 : OwnAt S 53 2 encIdv w4 v' (out ++ [⟨c, n⟩]) := by
        unfold OwnAt
        rw [List.length_append, List.flatMap_append]
        simpa [encIdv] using hown'
      clear hown' hgrow ho3 ho hb hb3 x0 hknc
      go_wp2_with fail
      go_roundw
      case rel => exact ⟨k + 1, by omega, by go_num, by rw [HST.out]; exact ho5, hB4⟩
      case measure => simp [intOf]; omega
    · obtain rfl : k = ys.length := by omega
      have hltz : ¬ (ys.length : Int) < (ys.length : Int) := by omega
      rw [List.take_length] at ho
      have hbn : Below w.heap.size w wr := hb2.trans (hb.mono hwS)
      go_wp2_with fail
      go_ret
      exact ⟨_, rfl, ys, HP.out, HS.out, ownsRow_base ho hwS, hbn⟩
set_option maxRecDepth 100000 in
set_option maxHeartbeats 1000000 in
theorem find_first (b cap : Nat) (c : Int) (t : ByteArray) (n : Int) (w : World) (hoc : OpCells w b 0 (kOp c t)) (hs : t.size ≤ 1000000) (hn : n < 1 + (runesB t).length) (hT : Tabs w) :
    Calls Tryz.prog 47 #[.slice (some ⟨b, 0, none⟩) 1 cap, .int .u64 n] w fun e w' => e = .returned (.int .i64 0) ∧ Below w.heap.size w w' := by
  have hle := runesB_le t
  have hr := opsRange_any (kOp c t) w (by show t.size < _; omega) (by show (0 : Int) ≤ 1; omega) (by rw [kOp, tOp_len]; show (1 : Int) + _ < _; omega) hT
  rw [kOp, tOp_rng] at hr
  unfold tRng at hr
  dsimp only at hr
  have hfld := field_rng2 c 1 (1 + ((runesB t).length : Int))
  have hload := load_op hoc
  generalize ((runesB t).length : Int) = N at hr hn hfld
  have hd : decide (n < 1 + N) = true := by simpa using hn
  clear hoc
  go_enter Tryz.func47, Tryz.ntmps47
  go_wp2
  go_step3
  go_wp2
  go_step3
  go_wp2
  go_loopw [5, 6] (fun a z wr => (a = .int .i64 0 ∧ z = .int .i64 1 ∧ wr = w) ∨ (a = .int .i64 0 ∧ z = .int .i64 0 ∧ Below w.heap.size w wr)) (fun _ z _ => (intOf z).toNat)
  case atStart => exact .inl ⟨rfl, rfl, rfl⟩
  case round =>
    rcases hrel with ⟨rfl, rfl, rfl⟩ | ⟨rfl, rfl, hb⟩
    · go_wp2_with (first | (refine wpList_load_eq (T := 35) (v := opV (kOp c t)) rfl rfl rfl hload ?_) | (go_at_call 32; refine hr.mono ?_; rintro e w1 ⟨rfl, hb1⟩))
      exact ⟨.inr ⟨rfl, rfl, hb1⟩, by decide⟩
    · go_wp2_with fail
      rw [Exit.noGoto_ret]
      go_ret
      exact ⟨rfl, hb⟩
set_option maxRecDepth 100000 in
set_option maxHeartbeats 4000000 in
theorem get_any (F : Nat → Prop) (sb : Nat) (K : List (Int × ByteArray)) (Q : List QOp) (H : List QRng) (c : Int) (t : ByteArray) (f : Nat) (w : World) (h : StoreIn w F sb K Q H) (hT : Tabs w)
    (hf : kfind K c = some t) (hc : numB c = true) (hs : t.size ≤ 1000000) (hfN : f < (runesB t).length) :
    Calls Tryz.prog 18 #[.pointer (some ⟨sb, 0, none⟩), .agg #[.int .u64 c, .int .u64 ((1 : Int) + f)]] w fun e w' => e = .returned (.tuple #[opV (pc c t f (f + 1)), .bool true]) ∧ Below w.heap.size w w' := by
  obtain ⟨L, hS, _⟩ := h
  have hle := runesB_le t
  obtain ⟨b, cap, hv, hbl, hoc, _⟩ := OwnAt.one (hS.rows _ (kfind_mem hf))
  dsimp only at hv hoc
  have hst := hS.st
  have hsb : sb < w.heap.size := (Array.getElem?_eq_some_iff.1 hst).1
  have hright := right_any ⟨c, 1 + (f : Int)⟩
  have e1 : (⟨c, 1 + (f : Int)⟩ : QId).rightB = true := by
    simp only [QId.rightB, hc, Bool.true_and]
    simp [numB]; omega
  rw [e1] at hright
  have hfd := fun w hoc hT => find_first b cap c t (1 + f) w hoc hs (by omega) hT
  have hcut := fun w hT => opsCut_t ⟨c, 1⟩ idZero idZero t f (f + 1) w (by omega) (by omega) (by omega) (by show (0 : Int) ≤ 1; omega) (by show (1 : Int) + f < _; omega) hT
  rw [show ((f + 1 : Nat) : Int) = (f : Int) + 1 by omega] at hcut
  have hlk : ∀ {w' : World}, Below w.heap.size w w' → (Instr.lookup 64 (.map (some L.m)) (.int .u64 c) false).run Tryz.prog w' = .ok (.slice (some ⟨b, 0, none⟩) 1 cap) w' := fun {w'} hb => by
    have := (hS.below hb).lookRow c
    rw [hf, Option.map_some, Option.getD_some, hv] at this
    exact this
  have HLK := Lib.hid (fun (w' : World) hb => hlk (w' := w') hb)
  have hfz : (f : Int) < 1000000 := by omega
  clear hlk e1 hf hv hS
  go_enter Tryz.func18, Tryz.ntmps18
  go_upto_region 1 with fail
  have hB : Below w.heap.size w ((w.alloc (.cells #[.int .u64 c, .int .u64 ((1 : Int) + f)] 28)).alloc (.cells (encOp opZero).toArray 35)) := ((Below.refl _ _).alloc (Nat.le_refl _) _).alloc (by simp) _
  have i0 : ((w.alloc (.cells #[.int .u64 c, .int .u64 ((1 : Int) + f)] 28)).alloc (.cells (encOp opZero).toArray 35)).cell? ⟨w.heap.size, 0, none⟩ = some (.int .u64 c) := by go_simp
  have i1 : ((w.alloc (.cells #[.int .u64 c, .int .u64 ((1 : Int) + f)] 28)).alloc (.cells (encOp opZero).toArray 35)).cell? ⟨w.heap.size, 1, none⟩ = some (.int .u64 ((1 : Int) + f)) := by go_simp
  have hby : OpBox ((w.alloc (.cells #[.int .u64 c, .int .u64 ((1 : Int) + f)] 28)).alloc (.cells (encOp opZero).toArray 35)) (w.heap.size + 1) opZero := by
    have := OpBox.new (w.alloc (.cells #[.int .u64 c, .int .u64 ((1 : Int) + f)] 28)) opZero
    rwa [World.size_alloc] at this
  obtain ⟨W, hW⟩ : ∃ W, (w.alloc (.cells #[.int .u64 c, .int .u64 ((1 : Int) + f)] 28)).alloc (.cells (encOp opZero).toArray 35) = W := ⟨_, rfl⟩
  rw [hW] at hB i0 i1 hby
  change Code.wp _ _ _ _ ((w.alloc (.cells #[.int .u64 c, .int .u64 ((1 : Int) + f)] 28)).alloc (.cells (encOp opZero).toArray 35))
  rw [hW]
  clear hW
  have hyl := hby.lt
  have hxl : w.heap.size < W.heap.size := by omega
  have hsW : sb < W.heap.size := by have := hB.size; omega
  have s0W : W.cell? ⟨sb, 0, none⟩ = some (.map (some L.m)) := (hB.cell (p := ⟨sb, 0, none⟩) hsb).trans (by simp [World.cell?, hst])
  have s0 : ∀ s : BStep W, s.val.cell? ⟨sb, 0, none⟩ = some (.map (some L.m)) := BStep.cell hsW s0W
  have q0 : ∀ s : BStep W, s.val.cell? ⟨w.heap.size, 0, none⟩ = some (.int .u64 c) := BStep.cell hxl i0
  have k1 : ∀ s : BStep W, (Instr.lookup 64 (.map (some L.m)) (.int .u64 c) false).run Tryz.prog s.val = .ok (.slice (some ⟨b, 0, none⟩) 1 cap) s.val := fun s => HLK.out _ (belowTrans hB s.h)
  refine wp_region_b (by kernel_rfl) (by kernel_rfl) ?_
  repeat (first | go_big_quiet_skip | (go_big_quiet_want; first | (fail; go_frame; go_big_quiet_on) | (go_big_quiet_op; first | go_big_quiet_on | go_big_quiet_call (fail))))
  refine wpQuiet_nil ?_
  intro W' hC'
  have hBW' := BStep.of hC'
  have hB1 := belowTrans hB hBW'
  have hby1 := hby.below hBW' hyl
  have i01 := (hBW'.cell (p := ⟨w.heap.size, 0, none⟩) hxl).trans i0
  have i11 := (hBW'.cell (p := ⟨w.heap.size, 1, none⟩) hxl).trans i1
  have hx1 := Nat.lt_of_lt_of_le hxl hBW'.size
  clear s0 q0 k1 hC' i0 i1 hby hB hyl hxl hsW s0W hBW'
  clear W
  have hoc1 := hoc.below hB1 hbl
  go_upto_region 3 with (go_at_call 47; refine (hfd _ hoc1 (hT.below hB1)).mono ?_; rintro e w2 ⟨rfl, hb2⟩)
  have hB2 := belowTrans hB1 hb2
  have i02 := (hb2.cell (p := ⟨w.heap.size, 0, none⟩) hx1).trans i01
  have i12 := (hb2.cell (p := ⟨w.heap.size, 1, none⟩) hx1).trans i11
  have hby2 := hby1.below hb2 hby1.lt
  have hx2 := Nat.lt_of_lt_of_le hx1 hb2.size
  clear i01 i11 hby1 hx1 hoc1 hB1 hb2 hfd
  go_upto_region 5 with (go_at_call 52; refine (hright _).mono ?_; rintro e w3 ⟨rfl, hb3⟩)
  have hB3 := belowTrans hB2 hb3
  have i13 := (hb3.cell (p := ⟨w.heap.size, 1, none⟩) hx2).trans i12
  have hby3 := hby2.below hb3 hby2.lt
  have hx3 := Nat.lt_of_lt_of_le hx2 hb3.size
  have hoc3 := hoc.below hB3 hbl
  have hbl3 := Nat.lt_of_lt_of_le hbl hB3.size
  clear i02 i12 hby2 hx2 hB2 hb3 hright
  have q1 : ∀ s : BStep w3, s.val.cell? ⟨w.heap.size, 1, none⟩ = some (.int .u64 ((1 : Int) + f)) := BStep.cell hx3 i13
  have b1 : ∀ s : BStep w3, s.val.cell? ⟨b, 1, none⟩ = some (.int .u64 1) := BStep.cell hbl3 (by have := hoc3 1 _ rfl; rwa [Nat.zero_add] at this)
  have e3 : (1 : Int) + f - 1 = f := by omega
  refine wp_region_b (by kernel_rfl) (by kernel_rfl) ?_
  repeat (first | go_big_quiet_skip | (go_big_quiet_want; first | (fail; go_frame; go_big_quiet_on) | (go_big_quiet_op; first | go_big_quiet_on | go_big_quiet_call (fail))))
  refine wpQuiet_nil ?_
  intro W' hC'
  have hBW' := BStep.of hC'
  have hB4 := belowTrans hB3 hBW'
  have hby4 := hby3.below hBW' hby3.lt
  have hoc4 := hoc3.below hBW' hbl3
  clear q1 b1 hC' hBW' hby3 hoc3 i13 hx3 hbl3 hB3
  have hl4 := load_op hoc4
  clear hoc4 hoc hst
  have hres := fun (W5 : World) (hz : OpBox W5 (w.heap.size + 1) opZero) => (hz.put (pc c t f (f + 1))).load
  have HRES := Lib.hid hres
  clear hres
  have hcutc : ∀ w, Tabs w → Calls Tryz.prog 35 #[opV (kOp c t), .int .i64 f, .int .i64 ((f : Int) + 1)] w fun x w' => x = .returned (.tuple #[opV (pc c t f (f + 1)), .bool true]) ∧ Below w.heap.size w w' := hcut
  clear hcut
  go_wp2_with (first | (refine wpList_load_eq (T := 35) (v := opV (kOp c t)) rfl rfl rfl hl4 ?_) | (go_at_call 35; refine (hcutc _ (hT.below hB4)).mono ?_; rintro e w5 ⟨rfl, hb5⟩; have hby5 := hby4.below hb5 hby4.lt) | (refine wpList_store_eq (T := 35) (v := opV (pc c t f (f + 1))) rfl rfl rfl rfl (OpBox.store hby5 _) ?_))
  have hB5 := belowTrans hB4 hb5
  refine bodyPost_ret (v := .tuple #[opV (pc c t f (f + 1)), .bool true]) ?_ rfl ⟨rfl, below_putOp hB5 (by omega) _⟩
  have h9 := HRES.out _ hby5
  simp [results, Tryz.results18, asAddr, h9]
end Go.Proofs.YtaeebgljcdfolaaGreatDoor
