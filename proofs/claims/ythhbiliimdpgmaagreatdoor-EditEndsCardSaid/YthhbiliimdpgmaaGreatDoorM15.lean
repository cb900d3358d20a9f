/- As XFlow3: reads, then some in one order, then two of which either may be first. -/
import Derived.Test.YthhbiliimdpgmaaGreatDoorM08
import Derived.Test.YthhbiliimdpgmaaGreatDoorM14
import Derived.Test.YthhbiliimdpgmaaGreatDoorM06
import Derived.Test.YthhbiliimdpgmaaGreatDoorM10
namespace Go.Proofs.YthhbiliimdpgmaaGreatDoor
open Go.RowKit
section
variable {P : Program} {ops : Array Oper} {md : Region.Mode} {S : World → Prop} {Q : Exit → Act → World → Prop}

def wpSeqT (P : Program) (ops : Array Oper) (Q : Exit → Act → World → Prop) (S : World → Prop) (n : Nat) (K : Act → World → Prop) : List Nat → Act → World → Prop
  | [], a, w => K a w
  | i :: ms, a, w => wpOp P ops Q i (fun a' w' => (i < n → S w') ∧ wpSeqT P ops Q S n K ms a' w') a w
def preMB (md : Region.Mode) (ops : Array Oper) : List Nat → Array Bool → Bool
  | [], _ => true
  | i :: ms, listed => decide (Region.ready md ops listed = [i]) && preMB md ops ms (listed.setIfInBounds i true)
theorem wpAnyF_pre {n fuel : Nat} {K : Act → World → Prop} : ∀ (ms : List Nat) (listed : Array Bool) (a : Act) (w : World), preMB md ops ms listed = true → (∀ a w, K a w → wpAnyF P md ops Q S n fuel (listAll ms listed) a w) →
    wpSeqT P ops Q S n K ms a w → wpAnyF P md ops Q S n (fuel + ms.length) listed a w
  | [], _, a, w, _, hK, h => hK a w h
  | i :: ms, listed, a, w, hB, hK, h => by
    simp only [preMB, Bool.and_eq_true, decide_eq_true_eq] at hB
    refine ⟨fun h0 => (by rw [hB.1] at h0; cases h0), fun j hj => ?_⟩
    rw [hB.1] at hj
    obtain rfl : j = i := by simpa using hj
    exact wpOp_mono (fun a' w' h' => ⟨h'.1, wpAnyF_pre ms _ a' w' hB.2 hK h'.2⟩) h
theorem wpSeqT_step {n i : Nat} {ms : List Nat} {a : Act} {w : World} {o : Oper} {K : Act → World → Prop} (ho : ops[i]? = some o)
    (h : wpList P ops (fun e a' w' => match e with | .normal => (i < n → S w') ∧ wpSeqT P ops Q S n K ms a' w' | e => Q e a' w') [o] a w) : wpSeqT P ops Q S n K (i :: ms) a w := by
  unfold wpSeqT wpOp
  rw [ho]
  exact h
theorem wpSeqT_nil {n : Nat} {a : Act} {w : World} {K : Act → World → Prop} (h : K a w) : wpSeqT P ops Q S n K [] a w := h

def flow5B (md : Region.Mode) (ops : Array Oper) (n : Nat) (rs ps : List Nat) (i j : Nat) (ms1 ms2 : List Nat) : Bool :=
  Region.noSelect ops && tailT md ops n rs && readsB3 md ops rs (Array.replicate ops.size false) && preMB md ops ps (listAll rs (Array.replicate ops.size false)) &&
  decide (Region.ready md ops (listAll ps (listAll rs (Array.replicate ops.size false))) = [i, j]) && decide (ms1.length = ms2.length) &&
  seqMB md ops ms1 ((listAll ps (listAll rs (Array.replicate ops.size false))).setIfInBounds i true) && seqMB md ops ms2 ((listAll ps (listAll rs (Array.replicate ops.size false))).setIfInBounds j true) && decide (ms1.length + 1 + ps.length + rs.length = ops.size)
theorem wp_region_flow5 {id : Nat} {a : Act} {w : World} {l : List Oper} (n : Nat) (rs ps : List Nat) (i j : Nat) (ms1 ms2 : List Nat) (S : World → Prop) (hm : P.follows .mixedOrders = true) (hB : flow5B .any l.toArray n rs ps i j ms1 ms2 = true)
    (hQ : ∀ c a d v w, Q (.panic c) (Act.put a d v) w → Q (.panic c) a w) (hS : S w.drew)
    (h : wpQuiet P l.toArray S (fun a' => wpSeqT P l.toArray Q S n (fun a2 w2 => wpSeqF P l.toArray Q S n (i :: ms1) a2 w2 ∧ wpSeqF P l.toArray Q S n (j :: ms2) a2 w2) ps a' w.drew) (rs.map fun i => (l[i]?).getD default) a) : (Code.region id l.toArray true).wp P Q a w := by
  unfold flow5B at hB
  simp only [Bool.and_eq_true, decide_eq_true_eq] at hB
  obtain ⟨⟨⟨⟨⟨⟨⟨⟨h1, h2⟩, h3⟩, hp⟩, h4⟩, h5⟩, h6⟩, h7⟩, h8⟩ := hB
  refine wp_region_any hm (wpAny_of_flow (S := S) (n := n) _ _ _ _ ?_)
  suffices H : wpAnyF P .any l.toArray Q S n (ms1.length + 1 + ps.length + rs.length) (Array.replicate l.toArray.size false) a w.drew by rw [h8] at H; exact H
  refine wpAnyF_reads3 h1 hQ rs (ms1.length + 1 + ps.length) _ a w.drew (fun a' => wpSeqT P l.toArray Q S n (fun a2 w2 => wpSeqF P l.toArray Q S n (i :: ms1) a2 w2 ∧ wpSeqF P l.toArray Q S n (j :: ms2) a2 w2) ps a' w.drew) (Closed.none _) h2 h3 hS (fun a' h' => wpAnyF_pre ps _ a' _ hp (fun a2 w2 h2 => wpAnyF_two h4 h5 h6 h7 h2.1 h2.2) h') ?_
  simpa using h
end
end Go.Proofs.YthhbiliimdpgmaaGreatDoor
/- Walks: store.New, store.rest. -/
namespace Go.Proofs.YthhbiliimdpgmaaGreatDoor
open Go.RowKit Go.Lib

set_option maxHeartbeats 400000 in
theorem storeNew_any (w : World) :
    Calls Tryz.prog 13 #[] w fun e w' => e = .returned (.pointer (some ⟨w.heap.size + 1, 0, none⟩)) ∧ StoreIn w' (fun b => w.heap.size ≤ b) (w.heap.size + 1) [] [] [] ∧ Below w.heap.size w w' := by
  have hmm := @run_makeMap Tryz.prog
  go_enter Tryz.func13, Tryz.ntmps13
  go_wp2
  go_ret
  refine ⟨rfl, ⟨⟨w.heap.size, fun _ => .slice none 0 0, .slice none 0 0, .slice none 0 0⟩, ?_, ?_⟩, by (repeat (first | exact Below.refl _ _ | assumption | refine Below.alloc ?_ (by simp <;> omega) _ | refine Below.drew ?_ | refine below_drewN ?_ _ | refine Below.setCell ?_ (by simp <;> omega) _ | refine belowTrans ?_ (by assumption)))⟩
  · refine { st := ?_, map := ⟨#[], 0, ?_, rfl, by simp, by simp, by simp⟩, keys := by simp, rows := by simp, waits := OwnAt.nil, held := OwnAt.nil, rsep := by simp, wsep := by simp }
    · rw [alloc_heap_if, if_pos (by simp)]
    · rw [alloc_heap_if, if_neg (by simp), alloc_heap_if, if_pos rfl]
  · rintro b (rfl | rfl | ⟨p, hp, _⟩ | e | e)
    · simp
    · simp
    · simp at hp
    · cases e
    · cases e

set_option maxRecDepth 100000 in
set_option maxHeartbeats 4000000 in
theorem rest_new (F : Nat → Prop) (sb : Nat) (K : List (Int × ByteArray)) (Q : List QOp) (H : List QRng) (i l r : QId) (t : ByteArray) (w : World) (h : StoreIn w F sb K Q H) (hK : KSmall K) (hT : Tabs w) (hlt : kcount K i.c < i.k) :
    Calls Tryz.prog 116 #[.pointer (some ⟨sb, 0, none⟩), opV (tOp i l r t)] w fun e w' => e = .returned (.tuple #[opV (tOp i l r t), .bool true]) ∧ Below w.heap.size w w' := by
  have hkn := fun w h hT => known_any F sb K Q H i.c w h hK hT
  generalize kcount K i.c = n at hkn hlt
  have d1 : decide (n < i.k) = true := by simpa using hlt
  change Calls Tryz.prog 116 #[.pointer (some ⟨sb, 0, none⟩), .agg #[.int .u64 i.c, .int .u64 i.k, .int .i64 1, .int .u64 0, .int .u64 l.c, .int .u64 l.k, .int .u64 r.c, .int .u64 r.k, .string t, .int .i64 0, .int .i64 0, .float .f64 0, .string ⟨#[]⟩, .string ⟨#[]⟩, .int .u64 0, .int .u64 0, .int .u64 0, .int .u64 0, .bool false, .int .u64 0, .int .u64 0, .bool false]] w _
  go_enter Tryz.func116, Tryz.ntmps116
  go_upto_region 1 with fail
  obtain ⟨W, hW⟩ : ∃ W, (w.alloc (.cells (encOp (tOp i l r t)).toArray 35)).alloc (.cells (encOp opZero).toArray 35) = W := ⟨_, rfl⟩
  have hB : Below w.heap.size w W := by rw [← hW]; exact ((Below.refl _ _).alloc (Nat.le_refl _) _).alloc (by simp) _
  have hbx : OpBox W w.heap.size (tOp i l r t) := by rw [← hW]; exact (OpBox.new w (tOp i l r t)).below ((Below.refl _ _).alloc (Nat.le_refl _) _) (by simp)
  have hby : OpBox W (w.heap.size + 1) opZero := by rw [← hW]; have := OpBox.new (w.alloc (.cells (encOp (tOp i l r t)).toArray 35)) opZero; rwa [World.size_alloc] at this
  change Code.wp _ _ _ _ ((w.alloc (.cells (encOp (tOp i l r t)).toArray 35)).alloc (.cells (encOp opZero).toArray 35))
  rw [hW]
  clear hW
  have hz0 : w.heap.size < W.heap.size := hbx.lt
  have hz1 : w.heap.size + 1 < W.heap.size := hby.lt
  have q0 : W.cell? ⟨w.heap.size, 0, none⟩ = some (.int .u64 i.c) := hbx.cells 0 _ rfl
  go_upto_region 2 with (go_at_call 115; refine (hkn _ (h.below hB) (hT.below hB)).mono ?_; rintro e w1 ⟨rfl, hb1⟩)
  have hbx1 := hbx.below hb1 hz0
  have hby1 := hby.below hb1 hz1
  have hB1 := belowTrans hB hb1
  have hy1 := hby1.lt
  clear hbx hby hB hb1 hz0 hz1 q0 h hkn
  clear W
  have q1 : w1.cell? ⟨w.heap.size, 1, none⟩ = some (.int .u64 i.k) := hbx1.cells 1 _ rfl
  have hres := Lib.hid (hby1.put (tOp i l r t)).load
  go_wp2_with (first | (refine wpList_load_eq (T := 35) (v := opV (tOp i l r t)) rfl rfl rfl hbx1.load ?_) | (refine wpList_store_eq (T := 35) (v := opV (tOp i l r t)) rfl rfl rfl rfl (OpBox.store hby1 (tOp i l r t)) ?_))
  refine bodyPost_ret (v := .tuple #[opV (tOp i l r t), .bool true]) ?_ rfl ⟨rfl, below_putOp hB1 (by omega) _⟩
  have h9 := hres.out
  simp [results, Tryz.results116, asAddr, h9]
set_option maxRecDepth 100000 in
set_option maxHeartbeats 4000000 in
theorem rest_cut (F : Nat → Prop) (sb : Nat) (K : List (Int × ByteArray)) (Q : List QOp) (H : List QRng) (i l r : QId) (t : ByteArray) (f : Nat) (w : World) (h : StoreIn w F sb K Q H) (hK : KSmall K) (hT : Tabs w) (hs : t.size ≤ 1000000000000) (hi0 : 1 ≤ i.k)
    (hle : i.k ≤ kcount K i.c) (hf : (f : Int) = kcount K i.c - i.k + 1) (hf2 : f ≤ 4096) (hfN : f < (runesB t).length) (hi : i.k + f < 18446744073709551616) :
    Calls Tryz.prog 116 #[.pointer (some ⟨sb, 0, none⟩), opV (tOp i l r t)] w fun e w' => e = .returned (.tuple #[opV (cutT i l r t f (runesB t).length), .bool true]) ∧ Below w.heap.size w w' := by
  have hkn := fun w h hT => known_any F sb K Q H i.c w h hK hT
  have hcut := fun w hT => opsCut_t i l r t f (runesB t).length w hs hfN (Nat.le_refl _) (by omega) hi hT
  have hlen := fun w hT => opsLen_any (tOp i l r t) w (by show t.size < _; omega) hT
  rw [tOp_len] at hlen
  generalize kcount K i.c = n at hkn hle hf
  obtain rfl : n = i.k + f - 1 := by omega
  clear hf
  generalize cutT i l r t f (runesB t).length = C at hcut ⊢
  generalize (runesB t).length = N at hcut hfN hlen
  have d1 : decide (i.k + f - 1 < i.k) = false := by simp; omega
  change Calls Tryz.prog 116 #[.pointer (some ⟨sb, 0, none⟩), .agg #[.int .u64 i.c, .int .u64 i.k, .int .i64 1, .int .u64 0, .int .u64 l.c, .int .u64 l.k, .int .u64 r.c, .int .u64 r.k, .string t, .int .i64 0, .int .i64 0, .float .f64 0, .string ⟨#[]⟩, .string ⟨#[]⟩, .int .u64 0, .int .u64 0, .int .u64 0, .int .u64 0, .bool false, .int .u64 0, .int .u64 0, .bool false]] w _
  go_enter Tryz.func116, Tryz.ntmps116
  go_upto_region 1 with fail
  obtain ⟨W, hW⟩ : ∃ W, (w.alloc (.cells (encOp (tOp i l r t)).toArray 35)).alloc (.cells (encOp opZero).toArray 35) = W := ⟨_, rfl⟩
  have hB : Below w.heap.size w W := by rw [← hW]; exact ((Below.refl _ _).alloc (Nat.le_refl _) _).alloc (by simp) _
  have hbx : OpBox W w.heap.size (tOp i l r t) := by rw [← hW]; exact (OpBox.new w (tOp i l r t)).below ((Below.refl _ _).alloc (Nat.le_refl _) _) (by simp)
  have hby : OpBox W (w.heap.size + 1) opZero := by rw [← hW]; have := OpBox.new (w.alloc (.cells (encOp (tOp i l r t)).toArray 35)) opZero; rwa [World.size_alloc] at this
  change Code.wp _ _ _ _ ((w.alloc (.cells (encOp (tOp i l r t)).toArray 35)).alloc (.cells (encOp opZero).toArray 35))
  rw [hW]
  clear hW
  have hz0 : w.heap.size < W.heap.size := hbx.lt
  have hz1 : w.heap.size + 1 < W.heap.size := hby.lt
  have q0 : W.cell? ⟨w.heap.size, 0, none⟩ = some (.int .u64 i.c) := hbx.cells 0 _ rfl
  go_upto_region 2 with (go_at_call 115; refine (hkn _ (h.below hB) (hT.below hB)).mono ?_; rintro e w1 ⟨rfl, hb1⟩)
  have hbx1 := hbx.below hb1 hz0
  have hby1 := hby.below hb1 hz1
  have hB1 := belowTrans hB hb1
  have hx1 := hbx1.lt
  have hy1 := hby1.lt
  clear hbx hby hB hb1 hz0 hz1 q0 h hkn
  clear W
  have q1 : w1.cell? ⟨w.heap.size, 1, none⟩ = some (.int .u64 i.k) := hbx1.cells 1 _ rfl
  go_upto_region 4 with fail
  clear q1
  have q1 : ∀ s : MStep (fun _ => False) w1, s.val.cell? ⟨w.heap.size, 1, none⟩ = some (.int .u64 i.k) := MStep.cell hx1 id (hbx1.cells 1 _ rfl)
  have l1 : ∀ w', (∃ s : MStep (fun _ => False) w1, w' = s.val) → (loadVar 35 ⟨w.heap.size, 0, none⟩).run Tryz.prog w' = .ok (opV (tOp i l r t)) w' := by
    rintro _ ⟨s, rfl⟩
    exact OpBox.load ((s.h.block _ hx1 id).trans hbx1)
  have e1 : i.k + f - 1 - i.k + 1 = f := by omega
  have e2 : min (f : Int) 4096 = f := by omega
  refine wp_region_flow5 14 [0, 1, 2, 3, 4, 5, 6, 7, 8, 9] [10, 11] 12 13 [13, 14, 15] [12, 14, 15] (fun w' => ∃ s : MStep (fun _ => False) w1, w' = s.val) (by kernel_rfl) (by kernel_rfl) (fun _ _ d _ _ h => by cases d <;> exact h) (MStep.to (Mods.refl _ _).drew) ?_
  simp only [List.map_cons, List.map_nil, List.getElem?_cons_succ, List.getElem?_cons_zero, Option.getD_some]
  repeat (first | go_big_quiet_skip | (go_big_quiet_want; first | (refine quiet_load 35 _ _ rfl rfl l1 ?_; go_frame; go_big_quiet_on) | (go_big_quiet_op; go_big_quiet_on)))
  refine wpQuiet_nil ?_
  refine wpSeqT_step rfl ?_; simp only [List.getElem_toArray, List.getElem_cons_succ, List.getElem_cons_zero]
  go_wp2_with fail
  refine (hlen _ ((hT.below hB1).below (Below.refl _ _).drew)).mono ?_
  rintro e w2 ⟨rfl, hb2⟩
  have hb2' : Below w1.heap.size w1 w2 := ⟨hb2.os, hb2.tape, hb2.output, hb2.size, hb2.block⟩
  have hm2 := Mods.of_below (S := fun _ => False) hb2'
  go_wp2_with fail
  refine ⟨MStep.to hm2, ?_⟩
  refine wpSeqT_step rfl ?_; simp only [List.getElem_toArray, List.getElem_cons_succ, List.getElem_cons_zero]
  go_wp2_with fail
  refine (hcut _ ((hT.below hB1).below hb2')).mono ?_
  rintro e w3 ⟨rfl, hb3⟩
  have hb3' := belowTrans hb2' hb3
  have hm4 := Mods.of_below (S := fun _ => False) hb3'
  go_wp2_with fail
  refine ⟨MStep.to hm4, ?_⟩
  refine wpSeqT_nil ?_
  have hby3 := hby1.below hb3' hy1
  have hB3 := belowTrans hB1 hb3'
  have hres := Lib.hid (hby3.put C).load
  clear hb2 hb3 hm2 q1 l1 hbx1 hby1 hB1 hb2'
  refine ⟨?_, ?_⟩
  · refine wpSeqF_step rfl ?_; simp only [List.getElem_toArray, List.getElem_cons_succ, List.getElem_cons_zero]
    go_wp2_with fail
    refine ⟨MStep.to hm4, ?_⟩
    refine wpSeqF_step rfl ?_; simp only [List.getElem_toArray, List.getElem_cons_succ, List.getElem_cons_zero]
    go_wp2_with fail
    refine ⟨MStep.to hm4, ?_⟩
    refine wpSeqF_step rfl ?_; simp only [List.getElem_toArray, List.getElem_cons_succ, List.getElem_cons_zero]
    go_wp2_with (refine wpList_store_eq (T := 35) (v := opV C) rfl rfl rfl rfl (OpBox.store hby3 C) ?_)
    refine wpSeqF_step rfl ?_; simp only [List.getElem_toArray, List.getElem_cons_succ, List.getElem_cons_zero]
    go_wp2_with fail
    refine wpSeqF_nil ?_
    go_wp2_with fail
    refine bodyPost_ret (v := .tuple #[opV C, .bool true]) ?_ rfl ⟨rfl, below_putOp hB3 (by omega) _⟩
    have h9 := hres.out
    simp [results, Tryz.results116, asAddr, h9]
  · refine wpSeqF_step rfl ?_; simp only [List.getElem_toArray, List.getElem_cons_succ, List.getElem_cons_zero]
    go_wp2_with fail
    refine ⟨MStep.to hm4, ?_⟩
    refine wpSeqF_step rfl ?_; simp only [List.getElem_toArray, List.getElem_cons_succ, List.getElem_cons_zero]
    go_wp2_with fail
    refine ⟨MStep.to hm4, ?_⟩
    refine wpSeqF_step rfl ?_; simp only [List.getElem_toArray, List.getElem_cons_succ, List.getElem_cons_zero]
    go_wp2_with (refine wpList_store_eq (T := 35) (v := opV C) rfl rfl rfl rfl (OpBox.store hby3 C) ?_)
    refine wpSeqF_step rfl ?_; simp only [List.getElem_toArray, List.getElem_cons_succ, List.getElem_cons_zero]
    go_wp2_with fail
    refine wpSeqF_nil ?_
    go_wp2_with fail
    refine bodyPost_ret (v := .tuple #[opV C, .bool true]) ?_ rfl ⟨rfl, below_putOp hB3 (by omega) _⟩
    have h9 := hres.out
    simp [results, Tryz.results116, asAddr, h9]
end Go.Proofs.YthhbiliimdpgmaaGreatDoor
/- A *maps.Maps in memory. -/
namespace Go.Proofs.YthhbiliimdpgmaaGreatDoor
open Go.RowKit


/-- where its parts lie. -/
structure MLay where
  all : Nat
  inn : Nat
  hv : Value
  PL : List (QId × Nat)
  row : QId → ByteArray → Value

structure MapsAt (w : World) (bm : Nat) (L : MLay) (M : QMaps) : Prop where
  st : w.heap[bm]? = some (.cells #[.map (some L.all), .map (some L.inn), L.hv] 90 (0, 0))
  hid : ∃ H, OwnAt 0 95 3 encRng w L.hv H ∧ ∀ i, hasRngs H i = hasRngs M.hidden i
  all : MapK idV w L.all (M.ops.map fun o => (o.id, opV o))
  inn : MapK idV w L.inn (L.PL.map fun p => (p.1, .map (some p.2)))
  par : L.PL.map (·.1) = parents M.ops
  inner : ∀ p ∈ L.PL, MapK Value.string w p.2 ((keysAt M.ops p.1).map fun k => (k, L.row p.1 k))
  rows : ∀ p k, opsAt M.ops p k ≠ [] → OwnAt 0 35 22 encOp w (L.row p k) (opsAt M.ops p k)
  sep : (L.all :: L.inn :: L.PL.map (·.2)).Nodup
  rsep : ∀ p k p' k', opsAt M.ops p k ≠ [] → opsAt M.ops p' k' ≠ [] → (L.row p k).ownBlock = (L.row p' k').ownBlock → p = p' ∧ k = k'

/-- the blocks that it uses. -/
def MFoot (bm : Nat) (L : MLay) (M : QMaps) (b : Nat) : Prop :=
  b = bm ∨ b = L.all ∨ b = L.inn ∨ b ∈ L.PL.map (·.2) ∨ L.hv.ownBlock = some b ∨ ∃ p k, opsAt M.ops p k ≠ [] ∧ (L.row p k).ownBlock = some b

/-- a map object whose blocks are among F. -/
def MapsIn (w : World) (F : Nat → Prop) (bm : Nat) (M : QMaps) : Prop := ∃ L, MapsAt w bm L M ∧ ∀ b, MFoot bm L M b → F b

theorem MapsAt.keep {w w' : World} {bm : Nat} {L : MLay} {M : QMaps} (h : MapsAt w bm L M) (hb : ∀ b, MFoot bm L M b → w'.heap[b]? = w.heap[b]?) : MapsAt w' bm L M where
  st := (hb bm (.inl rfl)).trans h.st
  hid := by
    obtain ⟨H, h1, h2⟩ := h.hid
    exact ⟨H, ownsRow_blk h1 (fun b e => hb b (.inr (.inr (.inr (.inr (.inl e)))))), h2⟩
  all := h.all.blk (hb _ (.inr (.inl rfl)))
  inn := h.inn.blk (hb _ (.inr (.inr (.inl rfl))))
  par := h.par
  inner p hp := (h.inner p hp).blk (hb _ (.inr (.inr (.inr (.inl (List.mem_map.2 ⟨p, hp, rfl⟩))))))
  rows p k hne := ownsRow_blk (h.rows p k hne) (fun b e => hb b (.inr (.inr (.inr (.inr (.inr ⟨p, k, hne, e⟩))))))
  sep := h.sep
  rsep := h.rsep

theorem MapsAt.foot_lt {w : World} {bm : Nat} {L : MLay} {M : QMaps} (h : MapsAt w bm L M) : ∀ b, MFoot bm L M b → b < w.heap.size := by
  rintro b (rfl | rfl | rfl | hb | hb | ⟨p, k, hne, hb⟩)
  · exact (Array.getElem?_eq_some_iff.1 h.st).1
  · exact h.all.lt
  · exact h.inn.lt
  · obtain ⟨p, hp, rfl⟩ := List.mem_map.1 hb
    exact (h.inner p hp).lt
  · obtain ⟨H, h1, _⟩ := h.hid
    exact ownsRow_lt h1 b hb
  · exact ownsRow_lt (h.rows p k hne) b hb

theorem MapsAt.below {w w' : World} {bm : Nat} {L : MLay} {M : QMaps} (h : MapsAt w bm L M) (hb : Below w.heap.size w w') : MapsAt w' bm L M := h.keep fun b hf => hb.block b (h.foot_lt b hf)
theorem MapsIn.below {w w' : World} {F : Nat → Prop} {bm : Nat} {M : QMaps} (h : MapsIn w F bm M) (hb : Below w.heap.size w w') : MapsIn w' F bm M := by
  obtain ⟨L, h1, h2⟩ := h
  exact ⟨L, h1.below hb, h2⟩
/-- another object's step leaves it. -/
theorem MapsIn.mods {w w' : World} {F G : Nat → Prop} {bm : Nat} {M : QMaps} (h : MapsIn w F bm M) (hm : Mods G w w') (hd : ∀ b, F b → ¬ G b) : MapsIn w' F bm M := by
  obtain ⟨L, h1, h2⟩ := h
  exact ⟨L, h1.keep fun b hf => hm.block b (h1.foot_lt b hf) (hd b (h2 b hf)), h2⟩
end Go.Proofs.YthhbiliimdpgmaaGreatDoor
