/- Walks: store.Waiting of none, store.Since. -/
import Derived.Test.YtaeebgljcdfolaaGreatDoorM31
import Derived.Test.YtaeebgljcdfolaaGreatDoorM42
import Derived.Test.YtaeebgljcdfolaaGreatDoorM32
namespace Go.Proofs.YtaeebgljcdfolaaGreatDoor
open Go.RowKit Go.Lib

set_option maxRecDepth 100000 in
set_option maxHeartbeats 1000000 in
theorem waiting_none (F : Nat → Prop) (sb : Nat) (K : List (Int × ByteArray)) (Q : List QOp) (H : List QRng) (w : World) (h : StoreIn w F sb K Q H) (hK : KSmall K) (hF : KFew K) (hT : Tabs w) (hH : H.length ≤ 1000) (hno : ∀ i, hasRngs H i = false)
    (hkc : ∀ c ∈ K.map (·.1), 1 ≤ c ∧ c ≤ 9007199254740991 ∧ 1 ≤ kcount K c ∧ kcount K c ≤ 9007199254740991) :
    Calls Tryz.prog 14 #[.pointer (some ⟨sb, 0, none⟩)] w fun e w' => e = .returned (.int .i64 0) ∧ Below w.heap.size w w' := by
  have hkn := fun w h hT => knownAll_any F sb K Q H w h hK hF hT
  obtain ⟨L, hS, hFL⟩ := h
  obtain ⟨m, row, wv, hv⟩ := L
  obtain ⟨ph, ch, rfl⟩ := ownsRow_len hS.held
  have hst := hS.st
  dsimp only at hst
  have hsb : sb < w.heap.size := (Array.getElem?_eq_some_iff.1 hst).1
  have s2 : ∀ s : MStep (fun _ => False) w, s.val.cell? ⟨sb, 2, none⟩ = some (.slice ph H.length ch) := MStep.cell hsb id (by simp [World.cell?, hst])
  have HKC := Lib.hid hkc
  have HNO := Lib.hid hno
  have hkl := hF.few
  have HND := Lib.hid hS.keys
  clear hkc hno hF
  go_enter Tryz.func14, Tryz.ntmps14
  go_wp2
  refine wp_region_flow3 11 [0, 1, 2, 3, 4] [5, 6, 7, 8, 9, 10] (fun w' => ∃ s : MStep (fun _ => False) w, w' = s.val) (by kernel_rfl) (by kernel_rfl) (fun _ _ d _ _ h => by cases d <;> exact h) (MStep.to (Mods.refl _ _).drew) ?_
  simp only [List.map_cons, List.map_nil, List.getElem?_cons_succ, List.getElem?_cons_zero, Option.getD_some]
  repeat (first | go_big_quiet_skip | (go_big_quiet_want; first | (fail; go_frame; go_big_quiet_on) | (go_big_quiet_op; go_big_quiet_on)))
  refine wpQuiet_nil ?_
  refine wpSeqF_step rfl ?_; simp only [List.getElem_toArray, List.getElem_cons_succ, List.getElem_cons_zero]
  go_wp2_with fail
  have hBd : Below w.heap.size w w.drew := (Below.refl _ _).drew
  refine (hkn w.drew ⟨_, hS.below hBd, hFL⟩ (hT.below hBd)).mono ?_
  rintro e w1 ⟨v1, rfl, ys, hp, hso, ho1, hb1⟩
  have hyl : ys.length ≤ 12 := by rw [hp.length_eq, List.length_map]; exact hkl
  have hcc : CleanClk (ys.map fun c => (⟨c, kcount K c⟩ : QId)) := by
    refine ⟨fun x hx => ?_, ?_⟩
    · obtain ⟨c, hc, rfl⟩ := List.mem_map.1 hx
      exact HKC.out c (hp.mem_iff.1 hc)
    · refine List.pairwise_map.2 ?_
      have hnd : ys.Nodup := hp.nodup_iff.2 HND.out
      refine (hso.and hnd).imp fun {a b} h => ?_
      have h1 := h.1
      have h2 := h.2
      show a < b
      omega
  have hml : (ys.map fun c => (⟨c, kcount K c⟩ : QId)).length ≤ 12 := by rw [List.length_map]; exact hyl
  clear hp hso hyl
  generalize (ys.map fun c => (⟨c, kcount K c⟩ : QId)) = kl at ho1 hcc hml
  clear ys
  obtain ⟨p1, c1, rfl⟩ := ownsRow_len ho1
  have hb1' : Below w.heap.size w w1 := ⟨hb1.os, hb1.tape, hb1.output, hb1.size, hb1.block⟩
  have hrg := vranges_any _ _ w1 (OwnAt.slice (k := 2) (enc := encIdv) (fun _ => rfl) ho1) hcc (by omega)
  clear hcc
  go_wp2_with fail
  refine ⟨MStep.to (Mods.of_below hb1'), ?_⟩
  refine wpSeqF_step rfl ?_; simp only [List.getElem_toArray, List.getElem_cons_succ, List.getElem_cons_zero]
  go_wp2_with fail
  refine hrg.mono ?_
  rintro e w2 ⟨v2, rfl, ho2, hb2⟩
  have hrl : (kl.map clkRng).length ≤ 12 := by rw [List.length_map]; exact hml
  generalize kl.map clkRng = rl at ho2 hrl
  obtain ⟨p2, c2, rfl⟩ := ownsRow_len ho2
  have hb2' := belowTrans hb1' hb2
  go_wp2_with fail
  refine ⟨MStep.to (Mods.of_below hb2'), ?_⟩
  have hmin := minus_any _ _ H rl w2 ((OwnAt.slice (k := 3) (enc := encRng) (fun _ => rfl) hS.held).below hb2') (OwnAt.slice (k := 3) (enc := encRng) (fun _ => rfl) ho2) hH (by omega) rfl rfl
  refine wpSeqF_step rfl ?_; simp only [List.getElem_toArray, List.getElem_cons_succ, List.getElem_cons_zero]
  go_wp2_with fail
  refine hmin.mono ?_
  rintro e w3 ⟨v3, rfl, D, hDc, hDh, ho3, hb3⟩
  obtain rfl : D = [] := clean_none hDc fun i => (hDh i).trans (by show (hasRngs H i && !hasRngs rl i) = false; rw [HNO.out i]; rfl)
  obtain ⟨p3, c3, rfl⟩ := ownsRow_len ho3
  have hb3' := belowTrans hb2' hb3
  go_wp2_with fail
  refine ⟨MStep.to (Mods.of_below hb3'), ?_⟩
  have hcn := count_none _ [] w3 (OwnAt.slice (k := 3) (enc := encRng) (fun _ => rfl) ho3) (by simp) (fun i => by simp [hasRngs]) rfl
  clear hmin hrg hDc hDh ho3 ho2 ho1
  refine wpSeqF_step rfl ?_; simp only [List.getElem_toArray, List.getElem_cons_succ, List.getElem_cons_zero]
  go_wp2_with fail
  refine hcn.mono ?_
  rintro e w4 ⟨rfl, hb4⟩
  have hb4' := belowTrans hb3' hb4
  go_wp2_with fail
  refine ⟨MStep.to (Mods.of_below hb4'), ?_⟩
  refine wpSeqF_step rfl ?_; simp only [List.getElem_toArray, List.getElem_cons_succ, List.getElem_cons_zero]
  go_wp2_with fail
  refine ⟨MStep.to (Mods.of_below hb4'), ?_⟩
  refine wpSeqF_step rfl ?_; simp only [List.getElem_toArray, List.getElem_cons_succ, List.getElem_cons_zero]
  go_wp2_with fail
  refine ⟨MStep.to (Mods.of_below hb4'), ?_⟩
  refine wpSeqF_nil ?_
  go_wp2_with fail
  go_ret
  exact ⟨rfl, hb4'⟩
/-- a slice from nought on. -/
theorem slice_zero {g c : Nat} (hc : 1 ≤ c) (w : World) : (Instr.slice 25 (.slice (some ⟨g, 0, none⟩) 1 c) (some (.int .i64 0)) none none).run Tryz.prog w = .ok (.slice (some ⟨g, 0, none⟩) 1 c) w := by
  obtain ⟨off, h1, h2⟩ := slice_l_run (T := 25) (k := 22) (by kernel_rfl) (fun w => by kernel_rfl) g 0 1 c 0 (by omega) hc
  have h3 := h2 w
  rw [h1 (by omega)] at h3
  exact h3
theorem OwnAt.oneCap {base : Nat} {w : World} {b cap : Nat} {o : QOp} (h : OwnAt base 35 22 encOp w (.slice (some ⟨b, 0, none⟩) 1 cap) [o]) : 1 ≤ cap := by
  rcases h.2 with ⟨_, h0⟩ | ⟨g, cap', cur, hv, hg, hcur, hn, hm, hc, ht⟩
  · simp at h0
  · cases hv
    simpa using hn
/-- what Since tells: of every client, what comes after the clock. -/
def newOf (K : List (Int × ByteArray)) (vl : List QId) (c : Int) : QOp :=
  pc c ((kfind K c).getD ⟨#[]⟩) (atClk vl c).toNat (runesB ((kfind K c).getD ⟨#[]⟩)).length
def SinceR (K : List (Int × ByteArray)) (vl : List QId) (w : World) (v : Value) (w' : World) : Prop :=
  ∃ ys : List Int, ys.Perm (K.map (·.1)) ∧ ys.Pairwise (· ≤ ·) ∧ OwnAt w.heap.size 35 22 encOp w' v (ys.map (newOf K vl)) ∧ Below w.heap.size w w'
/-- what a store must be for Since. -/
structure KSince (K : List (Int × ByteArray)) (vl : List QId) : Prop where
  ok : ∀ p ∈ K, okB p.2 = true
  num : ∀ p ∈ K, numB p.1 = true
  len : ∀ p ∈ K, (runesB p.2).length ≤ 4096
  at_ : ∀ p ∈ K, atClk vl p.1 < (runesB p.2).length
theorem atClk_nonneg {vl : List QId} (h : CleanClk vl) (c : Int) : 0 ≤ atClk vl c := by
  unfold atClk
  cases hf : vl.find? fun x => decide (x.c = c) with
  | none => simp
  | some x => have := (h.ok x (List.mem_of_find?_eq_some hf)).2.2.1; simp; omega
theorem sinceJoin {K : List (Int × ByteArray)} {vl : List QId} (h : KSince K vl) (hnn : ∀ c, 0 ≤ atClk vl c) (hnd : (K.map (·.1)).Nodup) {ys : List Int} (hp : ys.Perm (K.map (·.1))) (hs : ys.Pairwise (· ≤ ·)) : JoinL (ys.map (newOf K vl)) := by
  have key : ∀ c ∈ ys, ∃ t, kfind K c = some t ∧ (c, t) ∈ K := fun c hc => by
    have hmem := hp.mem_iff.1 hc
    cases hkf : kfind K c with
    | some t => exact ⟨t, rfl, kfind_mem hkf⟩
    | none =>
      obtain ⟨p, hp, e⟩ := List.mem_map.1 hmem
      exact absurd e (kfind_none hkf p hp)
  refine ⟨fun o ho => ?_, ?_⟩
  · obtain ⟨c, hc, rfl⟩ := List.mem_map.1 ho
    obtain ⟨t, hkf, hkm⟩ := key c hc
    have h1 := h.ok _ hkm
    have h2 := h.num _ hkm
    have h3 := h.len _ hkm
    have h4 := h.at_ _ hkm
    have h5 := hnn c
    dsimp only at h1 h2 h3 h4
    unfold newOf
    rw [hkf]
    have hlt : (atClk vl c).toNat < (runesB t).length := by omega
    refine ⟨_, _, _, _, pc_eq c t _ _, pc_good c t _ _ h2 hlt (Nat.le_refl _) h3, ?_⟩
    have hcl := cutB_len t (atClk vl c).toNat (runesB t).length (Nat.le_refl _)
    have hco := (runesB_cut t (atClk vl c).toNat (runesB t).length).2
    have := (runes_size hco).1
    show (cutB t (atClk vl c).toNat (runesB t).length).size ≤ _
    omega
  · refine List.pairwise_map.2 ?_
    have hnd2 : ys.Nodup := hp.nodup_iff.2 hnd
    refine (hs.and hnd2).imp fun {a b} h => ?_
    have h1 := h.1
    have h2 := h.2
    show a < b
    omega
set_option maxRecDepth 100000 in
set_option maxHeartbeats 8000000 in
theorem since_any (F : Nat → Prop) (sb : Nat) (K : List (Int × ByteArray)) (Q : List QOp) (H : List QRng) (vv : Value) (vl : List QId) (w : World) (h : StoreIn w F sb K Q H) (hF : KFew K) (hS : KSince K vl) (hT : Tabs w)
    (hv : SliceAt 2 encIdv w vv vl) (hvc : CleanClk vl) (hvn : vl.length ≤ 19) :
    Calls Tryz.prog 16 #[.pointer (some ⟨sb, 0, none⟩), vv] w (RetW (SinceR K vl w)) := by
  obtain ⟨ix, hix, hz0, hz1, hz2⟩ := info_parts infoOp
  have hat := fun c w hv => vat_any vv vl c w hv hvc hvn
  have hnn := atClk_nonneg hvc
  have h0 := h
  obtain ⟨L, hL, _⟩ := h
  have hso := sortedK_any L.m (K.map (·.1)) L.row w hL.keysAt hL.keys (fun k hk => by
    obtain ⟨p, hp, rfl⟩ := List.mem_map.1 hk
    exact hF.u64 p hp) (by rw [List.length_map]; exact hF.few)
  have hst := hL.st
  have hsb : sb < w.heap.size := (Array.getElem?_eq_some_iff.1 hst).1
  have s0 : w.cell? ⟨sb, 0, none⟩ = some (.map (some L.m)) := by simp [World.cell?, hst]
  have hkl := hF.few
  have HS := Lib.hid hS
  have HND := Lib.hid hL.keys
  have HL := Lib.hid hL
  have HNN := Lib.hid hnn
  have HV := Lib.hid hv
  have HAT := Lib.hid hat
  clear hF hst hL hS hnn hv hat hvc
  go_enter Tryz.func16, Tryz.ntmps16
  go_upto_region 3 with (first | (go_at_call 45; refine (mapKeys_any L.m _).mono ?_; rintro e w1 ⟨rfl, rfl⟩) | (go_at_call 44; refine hso.mono ?_; rintro e w2 ⟨v2, rfl, ys, hp, hs, ho2, hb2⟩; obtain ⟨p, cap, rfl⟩ := ownsRow_len ho2))
  have hyl : ys.length ≤ 12 := by rw [hp.length_eq, List.length_map]; exact hkl
  have HP := Lib.hid hp
  have HSO := Lib.hid hs
  clear hp hs hso s0
  have hl2 := OwnAt.slice (k := 1) (enc := encU) (fun _ => rfl) ho2
  clear ho2
  obtain ⟨S, hSS⟩ : ∃ S, w2.heap.size = S := ⟨_, rfl⟩
  have HSS := Lib.hid hSS
  have hwS : w.heap.size ≤ S := by have := hb2.size; omega
  clear hSS
  go_loopw [5, 18] (fun o i wr => ∃ k : Nat, k ≤ ys.length ∧ i = .int .i64 k ∧ OwnAt S 35 22 encOp wr o ((ys.take k).map (newOf K vl)) ∧ Below S w2 wr) (fun _ i _ => ys.length - (intOf i).toNat)
  case atStart => exact ⟨0, Nat.zero_le _, rfl, OwnAt.nil, Below.refl _ _⟩
  case round =>
    obtain ⟨k, hk, rfl, ho, hb⟩ := hrel
    by_cases hlt : k < ys.length
    · have hltz : (k : Int) < (ys.length : Int) := by omega
      have hlr := hl2.keep (by have := hb.size; have := HSS.out; omega) fun b off n c e hlt => hb.block b (by rw [← HSS.out]; exact hlt)
      obtain ⟨b, off, rfl⟩ : ∃ b off, p = some ⟨b, off, none⟩ := by
        rcases hlr with ⟨_, h⟩ | ⟨b0, off, _, h, _⟩
        · rw [h] at hlt; simp at hlt
        · cases h; exact ⟨_, _, rfl⟩
      have x0 : wr.cell? ⟨b, off + k, none⟩ = some (.int .u64 ys[k]) := by
        rcases hlr with ⟨e, _⟩ | ⟨b', off', c', e, _, _, hc⟩
        · cases e
        · cases e
          have := hc k ys[k] (by simp) 0 _ rfl
          rwa [Nat.mul_one, Nat.add_zero] at this
      have hstep : (ys.take (k + 1)).map (newOf K vl) = (ys.take k).map (newOf K vl) ++ [newOf K vl ys[k]] := by
        rw [List.take_succ_eq_append_getElem hlt, List.map_append]; rfl
      have HST := Lib.hid hstep
      have hmem : ys[k] ∈ K.map (·.1) := HP.out.mem_iff.1 (by simp)
      have htl : ((ys.take k).map (newOf K vl)).length ≤ 12 := by rw [List.length_map, List.length_take]; omega
      clear hstep hlr
      generalize ys[k] = c at x0 HST hmem
      generalize (ys.take k).map (newOf K vl) = out at ho HST htl
      obtain ⟨t, hkf⟩ : ∃ t, kfind K c = some t := by
        cases hkf : kfind K c with
        | some t => exact ⟨t, rfl⟩
        | none =>
          obtain ⟨p, hp, e⟩ := List.mem_map.1 hmem
          exact absurd e (kfind_none hkf p hp)
      have hkm := kfind_mem hkf
      have hok := HS.out.ok _ hkm
      have hnum := HS.out.num _ hkm
      have hlen := HS.out.len _ hkm
      have hatl := HS.out.at_ _ hkm
      have hatn := HNN.out c
      dsimp only at hok hnum hlen hatl
      have hnew : newOf K vl c = pc c t (atClk vl c).toNat (runesB t).length := by unfold newOf; rw [hkf]; rfl
      rw [hnew] at HST
      have hatc := HAT.out c
      obtain ⟨n, hn⟩ : ∃ n : Nat, (atClk vl c).toNat = n := ⟨_, rfl⟩
      have hatn' : atClk vl c = (n : Int) := by omega
      rw [hatn'] at hatc hatl
      rw [hn] at HST
      clear hnew hn hatn hatn' hmem
      have hsz := runes_size hok
      have hS1w : S ≤ wr.heap.size := by have := hb.size; have := HSS.out; omega
      have hBr : Below w.heap.size w wr := hb2.trans (hb.mono hwS)
      obtain ⟨g, cg, hrv, hgl, hoc, _⟩ := OwnAt.one (HL.out.rows _ hkm)
      dsimp only at hrv hoc
      have hcg : 1 ≤ cg := by have := HL.out.rows _ hkm; dsimp only at this; rw [hrv] at this; exact OwnAt.oneCap this
      have HLK : Hid (∀ w' : World, Below w.heap.size w w' → (Instr.lookup 64 (.map (some L.m)) (.int .u64 c) false).run Tryz.prog w' = .ok (.slice (some ⟨g, 0, none⟩) 1 cg) w') := Lib.hid fun w' hb => by
        have := (HL.out.below hb).lookRow c
        rw [hkf, Option.map_some, Option.getD_some, hrv] at this
        exact this
      have hfd := fun w hoc hT => find_first g cg c t ((n : Int) + 1) w hoc (by omega) (by omega) hT
      have hlen0 := (HS.out)
      clear hlen0
      go_upto_region 5 with fail
      have hvr := SliceAt.below HV.out hBr
      go_upto_region 6 with (go_at_call 46; refine (hatc _ hvr).mono ?_; rintro e w3 ⟨rfl, hb3⟩)
      have hB3 : Below S w2 w3 := hb.trans (hb3.mono hS1w)
      have hBw3 : Below w.heap.size w w3 := belowTrans hBr hb3
      have ho3 : OwnAt S 35 22 encOp w3 u5 out := ownsRow_blk ho fun b e => hb3.block b (ownsRow_lt ho b e)
      have hs3 : sb < w3.heap.size := Nat.lt_of_lt_of_le hsb hBw3.size
      have hst3 := (HL.out.below hBw3).st
      have s0w : w3.cell? ⟨sb, 0, none⟩ = some (.map (some L.m)) := by simp [World.cell?, hst3]
      have s0 : ∀ s : BStep w3, s.val.cell? ⟨sb, 0, none⟩ = some (.map (some L.m)) := BStep.cell hs3 s0w
      have k1 : ∀ s : BStep w3, (Instr.lookup 64 (.map (some L.m)) (.int .u64 c) false).run Tryz.prog s.val = .ok (.slice (some ⟨g, 0, none⟩) 1 cg) s.val := fun s => HLK.out _ (belowTrans hBw3 s.h)
      have k2 : ∀ s : BStep w3, (Instr.slice 25 (.slice (some ⟨g, 0, none⟩) 1 cg) (some (.int .i64 0)) none none).run Tryz.prog s.val = .ok (.slice (some ⟨g, 0, none⟩) 1 cg) s.val := fun s => slice_zero hcg s.val
      have hTs : ∀ s : BStep w3, Tabs s.val := fun s => hT.below (belowTrans hBw3 s.h)
      have hos : ∀ s : BStep w3, OpCells s.val g 0 (kOp c t) := fun s => hoc.below (belowTrans hBw3 s.h) hgl
      have hnz : (n : Int) < 4096 := by omega
      have hnz0 : (0 : Int) ≤ (n : Int) := by omega
      clear hst3 s0w hvr hb3 hb ho hatc
      refine wp_region_b (by kernel_rfl) (by kernel_rfl) ?_
      repeat (first | go_big_quiet_skip | (go_big_quiet_want; first | (fail; go_frame; go_big_quiet_on) | (go_big_quiet_op; first | go_big_quiet_on | go_big_quiet_call ((go_at_call 47; exact callsB (hfd _ (hos _) (hTs _)))))))
      refine wpQuiet_nil ?_
      intro W' hC'
      have hBW' := BStep.of hC'
      have hBs : Below S w2 W' := hB3.trans (hBW'.mono (by have := hB3.size; have := HSS.out; omega))
      have hBx := belowTrans hBw3 hBW'
      have hox : OwnAt S 35 22 encOp W' u5 out := ownsRow_blk ho3 fun b e => hBW'.block b (ownsRow_lt ho3 b e)
      have HU : Hid (∀ b, u5.ownBlock = some b → S ≤ b) := Lib.hid fun b e => (World.ownsRow.lt ho3 b e).1
      have hocx := hoc.below hBx hgl
      have hglx := Nat.lt_of_lt_of_le hgl hBx.size
      have hTx := hT.below hBx
      have hSW : S ≤ W'.heap.size := by have := hBs.size; have := HSS.out; omega
      clear s0 k1 k2 hTs hos hC' hBW' hB3 hBw3 ho3 hs3 hfd hBr hoc x0 HLK hcg hS1w
      obtain ⟨P, hPd⟩ : ∃ P, pc c t n (runesB t).length = P := ⟨_, rfl⟩
      rw [hPd] at HST
      have HPD := Lib.hid hPd
      clear hPd
      go_wp2_with fail
      go_loopw [5, 42] (fun o z wx => (o = u5 ∧ z = .int .i64 0 ∧ wx = W') ∨ (z = .int .i64 1 ∧ OwnAt S 35 22 encOp wx o (out ++ [P]) ∧ Below S w2 wx)) (fun _ z _ => 1 - (intOf z).toNat)
      case atStart => exact .inl ⟨rfl, rfl, rfl⟩
      case round =>
        rcases hrel with ⟨rfl, rfl, rfl⟩ | ⟨rfl, ho9, hB9⟩
        · go_upto_region 9 with (first | (refine wpList_load_eq (T := 35) (v := opV (kOp c t)) rfl rfl rfl (load_op hocx) ?_) | (refine wpList_store_eq (T := 35) (v := opV (kOp c t)) rfl rfl rfl rfl (OpBox.store (OpBox.new wr opZero) (kOp c t)) ?_))
          go_frame
          have hbx : OpBox (putOp (wr.alloc (.cells (encOp opZero).toArray 35)) wr.heap.size (kOp c t)) wr.heap.size (kOp c t) := (OpBox.new wr opZero).put (kOp c t)
          have hBc : Below wr.heap.size wr (putOp (wr.alloc (.cells (encOp opZero).toArray 35)) wr.heap.size (kOp c t)) := below_putOp ((Below.refl _ _).alloc (Nat.le_refl _) _) (Nat.le_refl _) _
          obtain ⟨X, hX⟩ : ∃ X, wr.heap.size = X := ⟨_, rfl⟩
          have hX2 := Lib.hid hX
          obtain ⟨W, hW⟩ : ∃ W, putOp (wr.alloc (.cells (encOp opZero).toArray 35)) wr.heap.size (kOp c t) = W := ⟨_, rfl⟩
          rw [hW] at hBc
          rw [hW, hX] at hbx
          rw [hW, hX]
          have hSX : S ≤ X := by omega
          have hBW : Below S w2 W := hBs.trans (hBc.mono hSW)
          have hox2 : OwnAt S 35 22 encOp W u5 out := ownsRow_blk hox fun b e => hBc.block b (ownsRow_lt hox b e)
          have hTW : Tabs W := hTx.below hBc
          have huX : ∀ b, u5.ownBlock = some b → b ≠ X := fun b e => by have := ownsRow_lt hox b e; omega
          have HUX := Lib.hid huX
          have b1 : W.cell? ⟨X, 1, none⟩ = some (.int .u64 1) := hbx.cells 1 _ rfl
          clear hX hW hBc huX hox hBs hTx hocx hglx hBx hSW
          rcases Nat.lt_or_ge 0 n with hn | hn
          · have hd : decide ((1 : Int) ≤ (n : Int)) = true := by simp; omega
            have hlo := fun w hT => opsLen_any (kOp c t) w (by show t.size < _; omega) hT
            rw [kOp, tOp_len] at hlo
            have hcu := fun w hT => opsCut_t ⟨c, 1⟩ idZero idZero t n (runesB t).length w (by omega) (by omega) (Nat.le_refl _) (by show (0 : Int) ≤ 1; omega) (by show (1 : Int) + n < _; omega) hT
            change ∀ w, Tabs w → Calls Tryz.prog 48 #[opV (kOp c t)] w _ at hlo
            change ∀ w, Tabs w → Calls Tryz.prog 35 #[opV (kOp c t), .int .i64 n, .int .i64 ((runesB t).length : Int)] w fun x w' => x = .returned (.tuple #[opV (pc c t n (runesB t).length), .bool true]) ∧ Below w.heap.size w w' at hcu
            rw [HPD.out] at hcu
            have q1 : ∀ s : MStep (fun _ => False) W, s.val.cell? ⟨X, 1, none⟩ = some (.int .u64 1) := MStep.cell hbx.lt id b1
            have l1 : ∀ w', (∃ s : MStep (fun _ => False) W, w' = s.val) → (loadVar 35 ⟨X, 0, none⟩).run Tryz.prog w' = .ok (opV (kOp c t)) w' := by
              rintro _ ⟨s, rfl⟩
              exact OpBox.load ((s.h.block X hbx.lt id).trans hbx)
            have e3 : (n : Int) - 1 + 1 = n := by omega
            have hnp : (1 : Int) ≤ (n : Int) := by omega
            go_upto_region 10 with fail
            refine wp_region_flow6 12 [0, 1, 2, 3, 4, 5, 6, 7, 8] (.one 9 (.one 10 (.one 11 (.two 12 (.two 13 (.one 14 .nil) 14 (.one 13 .nil)) 13 (.one 12 (.one 14 .nil)))))) (fun w' => ∃ s : MStep (fun _ => False) W, w' = s.val) (by kernel_rfl) (by kernel_rfl) (fun _ _ d _ _ h => by cases d <;> exact h) (MStep.to (Mods.refl _ _).drew) ?_
            simp only [List.map_cons, List.map_nil, List.getElem?_cons_succ, List.getElem?_cons_zero, Option.getD_some]
            repeat (first | go_big_quiet_skip | (go_big_quiet_want; first | ((refine quiet_load 35 _ _ rfl rfl l1 ?_); go_frame; go_big_quiet_on) | (go_big_quiet_op; go_big_quiet_on)))
            refine wpQuiet_nil ?_
            have hTd : Tabs W.drew := hTW.below (Below.refl _ _).drew
            have hbd : Below W.heap.size W W.drew := (Below.refl _ _).drew
            refine wpTreeF_one rfl ?_; simp only [List.getElem_toArray, List.getElem_cons_succ, List.getElem_cons_zero]
            go_wp2_with (go_at_call 48; refine (hlo _ hTd).mono ?_; rintro e w5 ⟨rfl, hb5⟩)
            have hb5' := belowTrans hbd hb5
            refine ⟨MStep.to (Mods.of_below hb5'), ?_⟩
            have hcu5 := hcu w5 (hTd.below hb5)
            refine wpTreeF_one rfl ?_; simp only [List.getElem_toArray, List.getElem_cons_succ, List.getElem_cons_zero]
            go_wp2_with (go_at_call 35; refine hcu5.mono ?_; rintro e w6 ⟨rfl, hb6⟩)
            have hb6' := belowTrans hb5' hb6
            have hbx6 := hbx.below hb6' hbx.lt
            have hBW6 : Below S w2 w6 := hBW.trans (hb6'.mono (by have := hBW.size; have := HSS.out; omega))
            have hox6 : OwnAt S 35 22 encOp w6 u5 out := ownsRow_blk hox2 fun b e => hb6'.block b (ownsRow_lt hox2 b e)
            refine ⟨MStep.to (Mods.of_below hb6'), ?_⟩
            refine wpTreeF_one rfl ?_; simp only [List.getElem_toArray, List.getElem_cons_succ, List.getElem_cons_zero]
            go_wp2_with fail
            refine ⟨MStep.to (Mods.of_below hb6'), ?_⟩
            clear q1 l1 hlo hcu hcu5 hTd hbd hb5 hb5' hb6 hb6' e3
            have hbx7 : OpBox (putOp w6 X P) X P := hbx6.put P
            have hBW7 : Below S w2 (putOp w6 X P) := below_putOp hBW6 hSX P
            have hox7 : OwnAt S 35 22 encOp (putOp w6 X P) u5 out := ownsRow_blk hox6 fun b e => putOp_other (HUX.out b e)
            obtain ⟨W7, hW7⟩ : ∃ W7, putOp w6 X P = W7 := ⟨_, rfl⟩
            rw [hW7] at hbx7 hBW7 hox7
            clear hox6 hBW6 hox2 hBW b1 hTW
            refine wpTreeF_two ?_ ?_
            · refine wpTreeF_one rfl ?_; simp only [List.getElem_toArray, List.getElem_cons_succ, List.getElem_cons_zero]
              go_wp2_with fail
              refine wpTreeF_two ?_ ?_
              · skip
                refine wpTreeF_one rfl ?_; simp only [List.getElem_toArray, List.getElem_cons_succ, List.getElem_cons_zero]
                go_wp2_with fail
                refine wpTreeF_one rfl ?_; simp only [List.getElem_toArray, List.getElem_cons_succ, List.getElem_cons_zero]
                go_wp2_with (refine wpList_store_eq (T := 35) (v := opV P) rfl rfl rfl rfl (OpBox.store hbx6 P) ?_)
                refine wpTreeF_nil ?_
                try rw [hW7]
                go_upto_region 12 with (first | (refine wpList_load_eq (T := 35) (v := opV P) rfl rfl rfl hbx7.load ?_) | (refine wpList_sliceOp P rfl _ rfl rfl ?_) | (at_builtin; refine wpList_append_own_at _ rfl _ _ 25 rfl S 35 ix (opV opZero) 22 200 Tryz.underlying25 hix hz0 hz1 hz2 rfl (by decide) _ _ _ rfl (show World.ownsRow (W7.alloc _) S 35 22 u5 out.length (out.flatMap encOp) from World.ownsRow.alloc hox7 _) ⟨W7.heap.size, 0, none⟩ 1 1 (encOp P) rfl rfl ?ga1 ?ga2 ?ga3 ?ga4 ?ga5 ?_))
                case ga1 => exact fun k u hu => by rw [Addr.add_lit]; exact (OpBox.new W7 P).cells k u hu
                case ga2 => intro u hu; simp [encOp] at hu; rcases hu with h | h | h | h | h | h | h | h | h | h | h | h | h | h | h | h | h | h | h | h | h | h <;> (subst h; rfl)
                case ga3 => unfold maxLen; omega
                case ga4 => have := hBW7.size; have := HSS.out; first | omega | (simp; omega)
                case ga5 => have := hBW7.size; have := HSS.out; first | omega | (simp; omega)
                intro v' w9 hown' hgrow _ hblk
                have hB9 : Below S w2 w9 := (hBW7.alloc (by have := hBW7.size; have := HSS.out; omega) _).grown hgrow (by have := hBW7.size; have := HSS.out; simp; omega) (fun b e => HU.out b e)
                have ho9 : OwnAt S 35 22 encOp w9 v' (out ++ [P]) := by
                  unfold OwnAt
                  rw [List.length_append, List.flatMap_append]
                  simpa using hown'
                clear hown' hgrow hblk
                go_wp2_with fail
                go_roundw
                case rel => exact .inr ⟨rfl, ho9, hB9⟩
                case measure => decide
              · skip
                refine wpTreeF_one rfl ?_; simp only [List.getElem_toArray, List.getElem_cons_succ, List.getElem_cons_zero]
                go_wp2_with (refine wpList_store_eq (T := 35) (v := opV P) rfl rfl rfl rfl (OpBox.store hbx6 P) ?_)
                refine wpTreeF_one rfl ?_; simp only [List.getElem_toArray, List.getElem_cons_succ, List.getElem_cons_zero]
                go_wp2_with fail
                refine wpTreeF_nil ?_
                try rw [hW7]
                go_upto_region 12 with (first | (refine wpList_load_eq (T := 35) (v := opV P) rfl rfl rfl hbx7.load ?_) | (refine wpList_sliceOp P rfl _ rfl rfl ?_) | (at_builtin; refine wpList_append_own_at _ rfl _ _ 25 rfl S 35 ix (opV opZero) 22 200 Tryz.underlying25 hix hz0 hz1 hz2 rfl (by decide) _ _ _ rfl (show World.ownsRow (W7.alloc _) S 35 22 u5 out.length (out.flatMap encOp) from World.ownsRow.alloc hox7 _) ⟨W7.heap.size, 0, none⟩ 1 1 (encOp P) rfl rfl ?gb1 ?gb2 ?gb3 ?gb4 ?gb5 ?_))
                case gb1 => exact fun k u hu => by rw [Addr.add_lit]; exact (OpBox.new W7 P).cells k u hu
                case gb2 => intro u hu; simp [encOp] at hu; rcases hu with h | h | h | h | h | h | h | h | h | h | h | h | h | h | h | h | h | h | h | h | h | h <;> (subst h; rfl)
                case gb3 => unfold maxLen; omega
                case gb4 => have := hBW7.size; have := HSS.out; first | omega | (simp; omega)
                case gb5 => have := hBW7.size; have := HSS.out; first | omega | (simp; omega)
                intro v' w9 hown' hgrow _ hblk
                have hB9 : Below S w2 w9 := (hBW7.alloc (by have := hBW7.size; have := HSS.out; omega) _).grown hgrow (by have := hBW7.size; have := HSS.out; simp; omega) (fun b e => HU.out b e)
                have ho9 : OwnAt S 35 22 encOp w9 v' (out ++ [P]) := by
                  unfold OwnAt
                  rw [List.length_append, List.flatMap_append]
                  simpa using hown'
                clear hown' hgrow hblk
                go_wp2_with fail
                go_roundw
                case rel => exact .inr ⟨rfl, ho9, hB9⟩
                case measure => decide
            · skip
              refine wpTreeF_one rfl ?_; simp only [List.getElem_toArray, List.getElem_cons_succ, List.getElem_cons_zero]
              go_wp2_with fail
              refine wpTreeF_one rfl ?_; simp only [List.getElem_toArray, List.getElem_cons_succ, List.getElem_cons_zero]
              go_wp2_with fail
              refine wpTreeF_one rfl ?_; simp only [List.getElem_toArray, List.getElem_cons_succ, List.getElem_cons_zero]
              go_wp2_with (refine wpList_store_eq (T := 35) (v := opV P) rfl rfl rfl rfl (OpBox.store hbx6 P) ?_)
              refine wpTreeF_nil ?_
              try rw [hW7]
              go_upto_region 12 with (first | (refine wpList_load_eq (T := 35) (v := opV P) rfl rfl rfl hbx7.load ?_) | (refine wpList_sliceOp P rfl _ rfl rfl ?_) | (at_builtin; refine wpList_append_own_at _ rfl _ _ 25 rfl S 35 ix (opV opZero) 22 200 Tryz.underlying25 hix hz0 hz1 hz2 rfl (by decide) _ _ _ rfl (show World.ownsRow (W7.alloc _) S 35 22 u5 out.length (out.flatMap encOp) from World.ownsRow.alloc hox7 _) ⟨W7.heap.size, 0, none⟩ 1 1 (encOp P) rfl rfl ?gc1 ?gc2 ?gc3 ?gc4 ?gc5 ?_))
              case gc1 => exact fun k u hu => by rw [Addr.add_lit]; exact (OpBox.new W7 P).cells k u hu
              case gc2 => intro u hu; simp [encOp] at hu; rcases hu with h | h | h | h | h | h | h | h | h | h | h | h | h | h | h | h | h | h | h | h | h | h <;> (subst h; rfl)
              case gc3 => unfold maxLen; omega
              case gc4 => have := hBW7.size; have := HSS.out; first | omega | (simp; omega)
              case gc5 => have := hBW7.size; have := HSS.out; first | omega | (simp; omega)
              intro v' w9 hown' hgrow _ hblk
              have hB9 : Below S w2 w9 := (hBW7.alloc (by have := hBW7.size; have := HSS.out; omega) _).grown hgrow (by have := hBW7.size; have := HSS.out; simp; omega) (fun b e => HU.out b e)
              have ho9 : OwnAt S 35 22 encOp w9 v' (out ++ [P]) := by
                unfold OwnAt
                rw [List.length_append, List.flatMap_append]
                simpa using hown'
              clear hown' hgrow hblk
              go_wp2_with fail
              go_roundw
              case rel => exact .inr ⟨rfl, ho9, hB9⟩
              case measure => decide
          · have hd : decide ((1 : Int) ≤ (n : Int)) = false := by simp; omega
            go_upto_region 11 with fail
            have hP : P = kOp c t := by
              rw [← HPD.out, show n = 0 by omega]
              exact pc_whole c hok (Nat.le_refl _)
            rw [← hP] at hbx
            clear hP b1
            go_upto_region 12 with (first | (refine wpList_load_eq (T := 35) (v := opV P) rfl rfl rfl hbx.load ?_) | (refine wpList_sliceOp P rfl _ rfl rfl ?_) | (at_builtin; refine wpList_append_own_at _ rfl _ _ 25 rfl S 35 ix (opV opZero) 22 200 Tryz.underlying25 hix hz0 hz1 hz2 rfl (by decide) _ _ _ rfl (show World.ownsRow (W.alloc _) S 35 22 u5 out.length (out.flatMap encOp) from World.ownsRow.alloc hox2 _) ⟨W.heap.size, 0, none⟩ 1 1 (encOp P) rfl rfl ?g1 ?g2 ?g3 ?g4 ?g5 ?_))
            case g1 => exact fun k u hu => by rw [Addr.add_lit]; exact (OpBox.new W P).cells k u hu
            case g2 => intro u hu; simp [encOp] at hu; rcases hu with h | h | h | h | h | h | h | h | h | h | h | h | h | h | h | h | h | h | h | h | h | h <;> (subst h; rfl)
            case g3 => unfold maxLen; omega
            case g4 => have := hBW.size; have := HSS.out; first | omega | (simp; omega)
            case g5 => have := hBW.size; have := HSS.out; first | omega | (simp; omega)
            intro v' w9 hown' hgrow _ hblk
            have hB9 : Below S w2 w9 := (hBW.alloc (by have := hBW.size; have := HSS.out; omega) _).grown hgrow (by have := hBW.size; have := HSS.out; simp; omega) (fun b e => HU.out b e)
            have ho9 : OwnAt S 35 22 encOp w9 v' (out ++ [P]) := by
              unfold OwnAt
              rw [List.length_append, List.flatMap_append]
              simpa using hown'
            clear hown' hgrow hblk
            go_wp2_with fail
            go_roundw
            case rel => exact .inr ⟨rfl, ho9, hB9⟩
            case measure => decide
        · go_wp2_with fail
          exact ⟨⟨k + 1, by omega, by go_num, by rw [HST.out]; exact ho9, hB9⟩, by simp [intOf]; omega⟩
    · obtain rfl : k = ys.length := by omega
      have hltz : ¬ (ys.length : Int) < (ys.length : Int) := by omega
      rw [List.take_length] at ho
      have hbn : Below w.heap.size w wr := hb2.trans (hb.mono hwS)
      have hjl : JoinL (ys.map (newOf K vl)) := sinceJoin HS.out HNN.out HND.out HP.out HSO.out
      have hjn : (ys.map (newOf K vl)).length ≤ 12 := by rw [List.length_map]; exact hyl
      obtain ⟨zs, hzs⟩ : ∃ zs, ys.map (newOf K vl) = zs := ⟨_, rfl⟩
      rw [hzs] at hjl hjn ho
      have HZ := Lib.hid hzs
      clear hzs
      have hjo := opsJoin_any u5 zs wr (OwnAt.slice (k := 22) (enc := encOp) (fun _ => rfl) ho) hjl (by omega) (hT.below hbn)
      clear hjl ho
      go_wp2_with (go_at_call 49; refine hjo.mono ?_; rintro e w9 ⟨v9, rfl, ho9, hb9⟩)
      go_ret
      refine ⟨_, rfl, ys, HP.out, HSO.out, ?_, belowTrans hbn hb9⟩
      rw [HZ.out]
      exact ownsRow_base ho9 hbn.size
end Go.Proofs.YtaeebgljcdfolaaGreatDoor
