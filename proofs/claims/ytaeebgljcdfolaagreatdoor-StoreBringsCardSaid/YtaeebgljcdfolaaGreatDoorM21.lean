/- Walks: store.New, store.rest. -/
import Derived.Test.YtaeebgljcdfolaaGreatDoorM20
namespace Go.Proofs.YtaeebgljcdfolaaGreatDoor
open Go.RowKit Go.Lib

set_option maxHeartbeats 400000 in
theorem storeNew_any (w : World) :
    Calls Tryz.prog 7 #[] w fun e w' => e = .returned (.pointer (some ⟨w.heap.size + 1, 0, none⟩)) ∧ StoreIn w' (fun b => w.heap.size ≤ b) (w.heap.size + 1) [] [] [] ∧ Below w.heap.size w w' := by
  have hmm := @run_makeMap Tryz.prog
  go_enter Tryz.func7, Tryz.ntmps7
  go_wp2
  go_ret
  refine ⟨rfl, ⟨⟨w.heap.size, fun _ => .slice none 0 0, .slice none 0 0, .slice none 0 0⟩, ?_, ?_⟩, by (repeat (first | exact Below.refl _ _ | assumption | refine Below.alloc ?_ (by simp <;> omega) _ | refine Below.drew ?_ | refine below_drewN ?_ _ | refine Below.setCell ?_ (by simp <;> omega) _ | refine belowTrans ?_ (by assumption)))⟩
  · refine { st := ?_, map := ⟨#[], 0, ?_, rfl, by simp, by simp, by simp⟩, keys := by simp, rows := by simp, waits := OwnAt.nil, held := OwnAt.nil, rsep := by simp, wsep := by simp }
    · rw [alloc_heap_if, if_pos (by simp)]
    · rw [alloc_heap_if, if_neg (by simp), alloc_heap_if, if_pos rfl]
  · rintro b (rfl | rfl | ⟨p, hp, _⟩ | e | e)
    · simp
    · simp
    · simp at hp
    · cases e
    · cases e

set_option maxRecDepth 100000 in
set_option maxHeartbeats 4000000 in
theorem rest_new (F : Nat → Prop) (sb : Nat) (K : List (Int × ByteArray)) (Q : List QOp) (H : List QRng) (i l r : QId) (t : ByteArray) (w : World) (h : StoreIn w F sb K Q H) (hK : KSmall K) (hT : Tabs w) (hlt : kcount K i.c < i.k) :
    Calls Tryz.prog 39 #[.pointer (some ⟨sb, 0, none⟩), opV (tOp i l r t)] w fun e w' => e = .returned (.tuple #[opV (tOp i l r t), .bool true]) ∧ Below w.heap.size w w' := by
  have hkn := fun w h hT => known_any F sb K Q H i.c w h hK hT
  generalize kcount K i.c = n at hkn hlt
  have d1 : decide (n < i.k) = true := by simpa using hlt
  change Calls Tryz.prog 39 #[.pointer (some ⟨sb, 0, none⟩), .agg #[.int .u64 i.c, .int .u64 i.k, .int .i64 1, .int .u64 0, .int .u64 l.c, .int .u64 l.k, .int .u64 r.c, .int .u64 r.k, .string t, .int .i64 0, .int .i64 0, .float .f64 0, .string ⟨#[]⟩, .string ⟨#[]⟩, .int .u64 0, .int .u64 0, .int .u64 0, .int .u64 0, .bool false, .int .u64 0, .int .u64 0, .bool false]] w _
  go_enter Tryz.func39, Tryz.ntmps39
  go_upto_region 1 with fail
  obtain ⟨W, hW⟩ : ∃ W, (w.alloc (.cells (encOp (tOp i l r t)).toArray 35)).alloc (.cells (encOp opZero).toArray 35) = W := ⟨_, rfl⟩
  have hB : Below w.heap.size w W := by rw [← hW]; exact ((Below.refl _ _).alloc (Nat.le_refl _) _).alloc (by simp) _
  have hbx : OpBox W w.heap.size (tOp i l r t) := by rw [← hW]; exact (OpBox.new w (tOp i l r t)).below ((Below.refl _ _).alloc (Nat.le_refl _) _) (by simp)
  have hby : OpBox W (w.heap.size + 1) opZero := by rw [← hW]; have := OpBox.new (w.alloc (.cells (encOp (tOp i l r t)).toArray 35)) opZero; rwa [World.size_alloc] at this
  change Code.wp _ _ _ _ ((w.alloc (.cells (encOp (tOp i l r t)).toArray 35)).alloc (.cells (encOp opZero).toArray 35))
  rw [hW]
  clear hW
  have hz0 : w.heap.size < W.heap.size := hbx.lt
  have hz1 : w.heap.size + 1 < W.heap.size := hby.lt
  have q0 : W.cell? ⟨w.heap.size, 0, none⟩ = some (.int .u64 i.c) := hbx.cells 0 _ rfl
  go_upto_region 2 with (go_at_call 33; refine (hkn _ (h.below hB) (hT.below hB)).mono ?_; rintro e w1 ⟨rfl, hb1⟩)
  have hbx1 := hbx.below hb1 hz0
  have hby1 := hby.below hb1 hz1
  have hB1 := belowTrans hB hb1
  have hy1 := hby1.lt
  clear hbx hby hB hb1 hz0 hz1 q0 h hkn
  clear W
  have q1 : w1.cell? ⟨w.heap.size, 1, none⟩ = some (.int .u64 i.k) := hbx1.cells 1 _ rfl
  have hres := Lib.hid (hby1.put (tOp i l r t)).load
  go_wp2_with (first | (refine wpList_load_eq (T := 35) (v := opV (tOp i l r t)) rfl rfl rfl hbx1.load ?_) | (refine wpList_store_eq (T := 35) (v := opV (tOp i l r t)) rfl rfl rfl rfl (OpBox.store hby1 (tOp i l r t)) ?_))
  refine bodyPost_ret (v := .tuple #[opV (tOp i l r t), .bool true]) ?_ rfl ⟨rfl, below_putOp hB1 (by omega) _⟩
  have h9 := hres.out
  simp [results, Tryz.results39, asAddr, h9]
set_option maxRecDepth 100000 in
set_option maxHeartbeats 4000000 in
theorem rest_cut (F : Nat → Prop) (sb : Nat) (K : List (Int × ByteArray)) (Q : List QOp) (H : List QRng) (i l r : QId) (t : ByteArray) (f : Nat) (w : World) (h : StoreIn w F sb K Q H) (hK : KSmall K) (hT : Tabs w) (hs : t.size ≤ 1000000000000) (hi0 : 1 ≤ i.k)
    (hle : i.k ≤ kcount K i.c) (hf : (f : Int) = kcount K i.c - i.k + 1) (hf2 : f ≤ 4096) (hfN : f < (runesB t).length) (hi : i.k + f < 18446744073709551616) :
    Calls Tryz.prog 39 #[.pointer (some ⟨sb, 0, none⟩), opV (tOp i l r t)] w fun e w' => e = .returned (.tuple #[opV (cutT i l r t f (runesB t).length), .bool true]) ∧ Below w.heap.size w w' := by
  have hkn := fun w h hT => known_any F sb K Q H i.c w h hK hT
  have hcut := fun w hT => opsCut_t i l r t f (runesB t).length w hs hfN (Nat.le_refl _) (by omega) hi hT
  have hlen := fun w hT => opsLen_any (tOp i l r t) w (by show t.size < _; omega) hT
  rw [tOp_len] at hlen
  generalize kcount K i.c = n at hkn hle hf
  obtain rfl : n = i.k + f - 1 := by omega
  clear hf
  generalize cutT i l r t f (runesB t).length = C at hcut ⊢
  generalize (runesB t).length = N at hcut hfN hlen
  have d1 : decide (i.k + f - 1 < i.k) = false := by simp; omega
  change Calls Tryz.prog 39 #[.pointer (some ⟨sb, 0, none⟩), .agg #[.int .u64 i.c, .int .u64 i.k, .int .i64 1, .int .u64 0, .int .u64 l.c, .int .u64 l.k, .int .u64 r.c, .int .u64 r.k, .string t, .int .i64 0, .int .i64 0, .float .f64 0, .string ⟨#[]⟩, .string ⟨#[]⟩, .int .u64 0, .int .u64 0, .int .u64 0, .int .u64 0, .bool false, .int .u64 0, .int .u64 0, .bool false]] w _
  go_enter Tryz.func39, Tryz.ntmps39
  go_upto_region 1 with fail
  obtain ⟨W, hW⟩ : ∃ W, (w.alloc (.cells (encOp (tOp i l r t)).toArray 35)).alloc (.cells (encOp opZero).toArray 35) = W := ⟨_, rfl⟩
  have hB : Below w.heap.size w W := by rw [← hW]; exact ((Below.refl _ _).alloc (Nat.le_refl _) _).alloc (by simp) _
  have hbx : OpBox W w.heap.size (tOp i l r t) := by rw [← hW]; exact (OpBox.new w (tOp i l r t)).below ((Below.refl _ _).alloc (Nat.le_refl _) _) (by simp)
  have hby : OpBox W (w.heap.size + 1) opZero := by rw [← hW]; have := OpBox.new (w.alloc (.cells (encOp (tOp i l r t)).toArray 35)) opZero; rwa [World.size_alloc] at this
  change Code.wp _ _ _ _ ((w.alloc (.cells (encOp (tOp i l r t)).toArray 35)).alloc (.cells (encOp opZero).toArray 35))
  rw [hW]
  clear hW
  have hz0 : w.heap.size < W.heap.size := hbx.lt
  have hz1 : w.heap.size + 1 < W.heap.size := hby.lt
  have q0 : W.cell? ⟨w.heap.size, 0, none⟩ = some (.int .u64 i.c) := hbx.cells 0 _ rfl
  go_upto_region 2 with (go_at_call 33; refine (hkn _ (h.below hB) (hT.below hB)).mono ?_; rintro e w1 ⟨rfl, hb1⟩)
  have hbx1 := hbx.below hb1 hz0
  have hby1 := hby.below hb1 hz1
  have hB1 := belowTrans hB hb1
  have hx1 := hbx1.lt
  have hy1 := hby1.lt
  clear hbx hby hB hb1 hz0 hz1 q0 h hkn
  clear W
  have q1 : w1.cell? ⟨w.heap.size, 1, none⟩ = some (.int .u64 i.k) := hbx1.cells 1 _ rfl
  go_upto_region 4 with fail
  clear q1
  have q1 : ∀ s : MStep (fun _ => False) w1, s.val.cell? ⟨w.heap.size, 1, none⟩ = some (.int .u64 i.k) := MStep.cell hx1 id (hbx1.cells 1 _ rfl)
  have l1 : ∀ w', (∃ s : MStep (fun _ => False) w1, w' = s.val) → (loadVar 35 ⟨w.heap.size, 0, none⟩).run Tryz.prog w' = .ok (opV (tOp i l r t)) w' := by
    rintro _ ⟨s, rfl⟩
    exact OpBox.load ((s.h.block _ hx1 id).trans hbx1)
  have e1 : i.k + f - 1 - i.k + 1 = f := by omega
  have e2 : min (f : Int) 4096 = f := by omega
  refine wp_region_flow5 14 [0, 1, 2, 3, 4, 5, 6, 7, 8, 9] [10, 11] 12 13 [13, 14, 15] [12, 14, 15] (fun w' => ∃ s : MStep (fun _ => False) w1, w' = s.val) (by kernel_rfl) (by kernel_rfl) (fun _ _ d _ _ h => by cases d <;> exact h) (MStep.to (Mods.refl _ _).drew) ?_
  simp only [List.map_cons, List.map_nil, List.getElem?_cons_succ, List.getElem?_cons_zero, Option.getD_some]
  repeat (first | go_big_quiet_skip | (go_big_quiet_want; first | (refine quiet_load 35 _ _ rfl rfl l1 ?_; go_frame; go_big_quiet_on) | (go_big_quiet_op; go_big_quiet_on)))
  refine wpQuiet_nil ?_
  refine wpSeqT_step rfl ?_; simp only [List.getElem_toArray, List.getElem_cons_succ, List.getElem_cons_zero]
  go_wp2_with fail
  refine (hlen _ ((hT.below hB1).below (Below.refl _ _).drew)).mono ?_
  rintro e w2 ⟨rfl, hb2⟩
  have hb2' : Below w1.heap.size w1 w2 := ⟨hb2.os, hb2.tape, hb2.output, hb2.size, hb2.block⟩
  have hm2 := Mods.of_below (S := fun _ => False) hb2'
  go_wp2_with fail
  refine ⟨MStep.to hm2, ?_⟩
  refine wpSeqT_step rfl ?_; simp only [List.getElem_toArray, List.getElem_cons_succ, List.getElem_cons_zero]
  go_wp2_with fail
  refine (hcut _ ((hT.below hB1).below hb2')).mono ?_
  rintro e w3 ⟨rfl, hb3⟩
  have hb3' := belowTrans hb2' hb3
  have hm4 := Mods.of_below (S := fun _ => False) hb3'
  go_wp2_with fail
  refine ⟨MStep.to hm4, ?_⟩
  refine wpSeqT_nil ?_
  have hby3 := hby1.below hb3' hy1
  have hB3 := belowTrans hB1 hb3'
  have hres := Lib.hid (hby3.put C).load
  clear hb2 hb3 hm2 q1 l1 hbx1 hby1 hB1 hb2'
  refine ⟨?_, ?_⟩
  · refine wpSeqF_step rfl ?_; simp only [List.getElem_toArray, List.getElem_cons_succ, List.getElem_cons_zero]
    go_wp2_with fail
    refine ⟨MStep.to hm4, ?_⟩
    refine wpSeqF_step rfl ?_; simp only [List.getElem_toArray, List.getElem_cons_succ, List.getElem_cons_zero]
    go_wp2_with fail
    refine ⟨MStep.to hm4, ?_⟩
    refine wpSeqF_step rfl ?_; simp only [List.getElem_toArray, List.getElem_cons_succ, List.getElem_cons_zero]
    go_wp2_with (refine wpList_store_eq (T := 35) (v := opV C) rfl rfl rfl rfl (OpBox.store hby3 C) ?_)
    refine wpSeqF_step rfl ?_; simp only [List.getElem_toArray, List.getElem_cons_succ, List.getElem_cons_zero]
    go_wp2_with fail
    refine wpSeqF_nil ?_
    go_wp2_with fail
    refine bodyPost_ret (v := .tuple #[opV C, .bool true]) ?_ rfl ⟨rfl, below_putOp hB3 (by omega) _⟩
    have h9 := hres.out
    simp [results, Tryz.results39, asAddr, h9]
  · refine wpSeqF_step rfl ?_; simp only [List.getElem_toArray, List.getElem_cons_succ, List.getElem_cons_zero]
    go_wp2_with fail
    refine ⟨MStep.to hm4, ?_⟩
    refine wpSeqF_step rfl ?_; simp only [List.getElem_toArray, List.getElem_cons_succ, List.getElem_cons_zero]
    go_wp2_with fail
    refine ⟨MStep.to hm4, ?_⟩
    refine wpSeqF_step rfl ?_; simp only [List.getElem_toArray, List.getElem_cons_succ, List.getElem_cons_zero]
    go_wp2_with (refine wpList_store_eq (T := 35) (v := opV C) rfl rfl rfl rfl (OpBox.store hby3 C) ?_)
    refine wpSeqF_step rfl ?_; simp only [List.getElem_toArray, List.getElem_cons_succ, List.getElem_cons_zero]
    go_wp2_with fail
    refine wpSeqF_nil ?_
    go_wp2_with fail
    refine bodyPost_ret (v := .tuple #[opV C, .bool true]) ?_ rfl ⟨rfl, below_putOp hB3 (by omega) _⟩
    have h9 := hres.out
    simp [results, Tryz.results39, asAddr, h9]
end Go.Proofs.YtaeebgljcdfolaaGreatDoor
/- A *store.Store's known texts grow: how that lies in memory. -/
namespace Go.Proofs.YtaeebgljcdfolaaGreatDoor
open Go.RowKit Go.Lib

/-- more of a client's text is known. -/
def kadd (K : List (Int × ByteArray)) (c : Int) (u : ByteArray) : List (Int × ByteArray) := match kfind K c with
  | some _ => K.map fun p => if p.1 = c then (p.1, p.2 ++ u) else p
  | none => K ++ [(c, u)]
theorem kfind_none {K : List (Int × ByteArray)} {c : Int} (h : kfind K c = none) : ∀ p ∈ K, p.1 ≠ c := by
  intro p hp e
  unfold kfind at h
  rw [Option.map_eq_none_iff, List.find?_eq_none] at h
  exact h p hp (by simpa using e)
theorem kadd_keys (K : List (Int × ByteArray)) (c : Int) (u : ByteArray) (h : (K.map (·.1)).Nodup) : ((kadd K c u).map (·.1)).Nodup := by
  unfold kadd
  split
  · rw [List.map_map]
    have : ((fun p : Int × ByteArray => p.1) ∘ fun p : Int × ByteArray => if p.1 = c then (p.1, p.2 ++ u) else p) = fun p => p.1 := by
      funext p
      simp only [Function.comp]
      split <;> rfl
    rw [this]; exact h
  · rename_i hn
    rw [List.map_append]
    refine List.nodup_append.2 ⟨h, by simp, fun a ha b hb e => ?_⟩
    obtain ⟨p, hp, rfl⟩ := List.mem_map.1 ha
    have hb2 : b = c := by simpa using hb
    exact kfind_none hn p hp (e.trans hb2)
theorem cells_ne {w : World} {a b : Nat} {c d : Array Value} {t t' : TypeId} {f f' : Nat × Nat} (h1 : w.heap[a]? = some (.cells c t f)) (h2 : w.heap[b]? = some (.cells d t' f')) (hne : t ≠ t') : a ≠ b := by
  rintro rfl
  rw [h1] at h2
  cases h2
  exact hne rfl
theorem ownsRow_obj {w : World} {base e size n : Nat} {v : Value} {xs : List Value} (h : w.ownsRow base e size v n xs) {b : Nat} (hb : v.ownBlock = some b) : ∃ cur, w.heap[b]? = some (.cells cur e (0, 0)) := by
  rcases h.2 with ⟨hv, _⟩ | ⟨g, cap, cur, hv, hg, hcur, _⟩
  · rw [hv] at hb; cases hb
  · rw [hv] at hb; cases hb; exact ⟨_, hcur⟩
theorem MapK.ne_cells {κ : Type} {enc : κ → Value} {w : World} {r b : Nat} {l : List (κ × Value)} {c : Array Value} {t : TypeId} {f : Nat × Nat} (h : MapK enc w r l) (hb : w.heap[b]? = some (.cells c t f)) : r ≠ b := by
  obtain ⟨es, clock, h1, _⟩ := h
  rintro rfl
  rw [h1] at hb; cases hb

theorem StoreAt.merge {w w' : World} {sb : Nat} {L : SLay} {K : List (Int × ByteArray)} {Q : List QOp} {H : List QRng} (h : StoreAt w sb L K Q H) {c : Int} {t0 u : ByteArray} (hc : kfind K c = some t0) {b : Nat} (hb : (L.row c).ownBlock = some b)
    (hw : ∀ k, k ≠ b → w'.heap[k]? = w.heap[k]?) (hn : OwnAt 0 35 22 encOp w' (L.row c) [kOp c (t0 ++ u)]) : StoreAt w' sb L (kadd K c u) Q H := by
  have hm := kfind_mem hc
  obtain ⟨cur, hcur⟩ := ownsRow_obj (h.rows _ hm) hb
  have hk : kadd K c u = K.map fun p => if p.1 = c then (p.1, p.2 ++ u) else p := by unfold kadd; rw [hc]
  have hmem : ∀ p ∈ kadd K c u, ∃ q ∈ K, p.1 = q.1 ∧ (q.1 = c → p.2 = q.2 ++ u) ∧ (q.1 ≠ c → p.2 = q.2) := by
    intro p hp
    rw [hk] at hp
    obtain ⟨q, hq, rfl⟩ := List.mem_map.1 hp
    refine ⟨q, hq, by split <;> rfl, fun e => by rw [if_pos e], fun e => by rw [if_neg e]⟩
  have huniq : ∀ q ∈ K, q.1 = c → q.2 = t0 := by
    intro q hq e
    have h1 := h.keys
    have : ∀ (l : List (Int × ByteArray)), (l.map (·.1)).Nodup → ∀ x ∈ l, ∀ y ∈ l, x.1 = y.1 → x = y := by
      intro l
      induction l with
      | nil => intro _ x hx; simp at hx
      | cons z l ih =>
        intro hnd x hx y hy exy
        rw [List.map_cons, List.nodup_cons] at hnd
        rcases List.mem_cons.1 hx with rfl | hx <;> rcases List.mem_cons.1 hy with rfl | hy
        · rfl
        · exact absurd (List.mem_map.2 ⟨y, ‹y ∈ l›, exy.symm⟩) hnd.1
        · exact absurd (List.mem_map.2 ⟨x, ‹x ∈ l›, exy⟩) hnd.1
        · exact ih hnd.2 x hx y hy exy
    have := this K h1 q hq (c, t0) hm e
    rw [this]
  refine { st := ?_, map := ?_, keys := kadd_keys K c u h.keys, rows := ?_, waits := ?_, held := ?_, rsep := ?_, wsep := ?_ }
  · exact (hw sb (cells_ne h.st hcur (by decide))).trans h.st
  · have e : (kadd K c u).map (fun p => (p.1, L.row p.1)) = K.map fun p => (p.1, L.row p.1) := by
      rw [hk, List.map_map]
      apply List.map_congr_left
      intro p _
      simp only [Function.comp]
      split <;> rfl
    rw [e]
    exact h.map.blk (hw _ (h.map.ne_cells hcur))
  · intro p hp
    obtain ⟨q, hq, e1, e2, e3⟩ := hmem p hp
    by_cases e : q.1 = c
    · rw [e1, e, e2 e, huniq q hq e]
      exact hn
    · rw [e1, e3 e]
      refine ownsRow_blk (h.rows q hq) fun g hg => hw g ?_
      rintro rfl
      exact e (h.rsep q hq _ hm (hg.trans hb.symm))
  · refine ownsRow_blk h.waits fun g hg => hw g ?_
    rintro rfl
    exact h.wsep _ hm (hb.trans hg.symm)
  · refine ownsRow_blk h.held fun g hg => hw g ?_
    obtain ⟨c2, hc2⟩ := ownsRow_obj h.held hg
    exact cells_ne hc2 hcur (by decide)
  · intro p hp q hq e
    obtain ⟨p', hp', e1, _⟩ := hmem p hp
    obtain ⟨q', hq', e2, _⟩ := hmem q hq
    rw [e1, e2] at e ⊢
    exact h.rsep p' hp' q' hq' e
  · intro p hp
    obtain ⟨p', hp', e1, _⟩ := hmem p hp
    rw [e1]
    exact h.wsep p' hp'

def SLay.with (L : SLay) (c : Int) (v : Value) : SLay := { L with row := fun x => if x = c then v else L.row x }
theorem StoreAt.fresh {w w' : World} {sb : Nat} {L : SLay} {K : List (Int × ByteArray)} {Q : List QOp} {H : List QRng} (h : StoreAt w sb L K Q H) {c : Int} {u : ByteArray} (hc : kfind K c = none) {v : Value} {g : Nat} (hv : v.ownBlock = some g) (hg : w.heap.size ≤ g)
    (hw : ∀ k, k < w.heap.size → k ≠ L.m → w'.heap[k]? = w.heap[k]?) (hmap : MapK u64V w' L.m (put (K.map fun p => (p.1, L.row p.1)) c v)) (hn : OwnAt 0 35 22 encOp w' v [kOp c u]) : StoreAt w' sb (L.with c v) (kadd K c u) Q H := by
  have hk : kadd K c u = K ++ [(c, u)] := by unfold kadd; rw [hc]
  have hne := kfind_none hc
  have hrow : ∀ p ∈ K, (L.with c v).row p.1 = L.row p.1 := fun p hp => if_neg (hne p hp)
  have hrc : (L.with c v).row c = v := if_pos rfl
  have hold : ∀ p ∈ K, ∀ b, (L.row p.1).ownBlock = some b → b < w.heap.size ∧ b ≠ L.m := fun p hp b e => by
    obtain ⟨cur, hcur⟩ := ownsRow_obj (h.rows p hp) e
    exact ⟨ownsRow_lt (h.rows p hp) b e, (h.map.ne_cells hcur).symm⟩
  have hsome : ∀ p ∈ K, ∃ b, (L.row p.1).ownBlock = some b := fun p hp => by
    obtain ⟨b, cap, e, _⟩ := OwnAt.one (h.rows p hp)
    rw [e]; exact ⟨b, rfl⟩
  rw [hk]
  refine { st := ?_, map := ?_, keys := ?_, rows := ?_, waits := ?_, held := ?_, rsep := ?_, wsep := ?_ }
  · exact (hw sb (Array.getElem?_eq_some_iff.1 h.st).1 (h.map.ne_cells h.st).symm).trans h.st
  · have e : (K ++ [(c, u)]).map (fun p => (p.1, (L.with c v).row p.1)) = put (K.map fun p => (p.1, L.row p.1)) c v := by
      have hl : look (K.map fun p => (p.1, L.row p.1)) c = none := by rw [look_kfind, hc]; rfl
      unfold put
      rw [hl, List.map_append]
      simp only [List.map_cons, List.map_nil, hrc]
      congr 1
      apply List.map_congr_left
      intro p hp
      rw [hrow p hp]
    rw [e]
    exact hmap
  · have := kadd_keys K c u h.keys
    rwa [hk] at this
  · intro p hp
    rcases List.mem_append.1 hp with hp | hp
    · rw [hrow p hp]
      exact ownsRow_blk (h.rows p hp) fun b e => hw b (hold p hp b e).1 (hold p hp b e).2
    · obtain rfl : p = (c, u) := by simpa using hp
      show OwnAt 0 35 22 encOp w' ((L.with c v).row c) [kOp c u]
      rw [hrc]; exact hn
  · refine ownsRow_blk h.waits fun b e => ?_
    obtain ⟨cur, hcur⟩ := ownsRow_obj h.waits e
    exact hw b (ownsRow_lt h.waits b e) (h.map.ne_cells hcur).symm
  · refine ownsRow_blk h.held fun b e => ?_
    obtain ⟨cur, hcur⟩ := ownsRow_obj h.held e
    exact hw b (ownsRow_lt h.held b e) (h.map.ne_cells hcur).symm
  · intro p hp q hq e
    rcases List.mem_append.1 hp with hp | hp <;> rcases List.mem_append.1 hq with hq | hq
    · rw [hrow p hp, hrow q hq] at e
      exact h.rsep p hp q hq e
    · obtain rfl : q = (c, u) := by simpa using hq
      rw [hrow p hp, hrc, hv] at e
      have := (hold p hp g e).1
      omega
    · obtain rfl : p = (c, u) := by simpa using hp
      rw [hrow q hq, hrc, hv] at e
      have := (hold q hq g e.symm).1
      omega
    · obtain rfl : p = (c, u) := by simpa using hp
      obtain rfl : q = (c, u) := by simpa using hq
      rfl
  · intro p hp
    rcases List.mem_append.1 hp with hp | hp
    · rw [hrow p hp]; exact h.wsep p hp
    · obtain rfl : p = (c, u) := by simpa using hp
      show ((L.with c v).row c).ownBlock ≠ L.wv.ownBlock
      rw [hrc, hv]
      intro e
      have := ownsRow_lt h.waits g e.symm
      omega
theorem SFoot.merge {sb : Nat} {L : SLay} {K : List (Int × ByteArray)} {c : Int} {t0 u : ByteArray} (hc : kfind K c = some t0) {b : Nat} (h : SFoot sb L (kadd K c u) b) : SFoot sb L K b := by
  rcases h with h | h | ⟨p, hp, e⟩ | h
  · exact .inl h
  · exact .inr (.inl h)
  · have hk : kadd K c u = K.map fun p => if p.1 = c then (p.1, p.2 ++ u) else p := by unfold kadd; rw [hc]
    rw [hk] at hp
    obtain ⟨q, hq, rfl⟩ := List.mem_map.1 hp
    refine .inr (.inr (.inl ⟨q, hq, ?_⟩))
    rw [← e]
    split <;> rfl
  · exact .inr (.inr (.inr h))
theorem SFoot.fresh {sb : Nat} {L : SLay} {K : List (Int × ByteArray)} {c : Int} {u : ByteArray} {v : Value} (hc : kfind K c = none) {b : Nat} (h : SFoot sb (L.with c v) (kadd K c u) b) : SFoot sb L K b ∨ v.ownBlock = some b := by
  rcases h with h | h | ⟨p, hp, e⟩ | h
  · exact .inl (.inl h)
  · exact .inl (.inr (.inl h))
  · have hk : kadd K c u = K ++ [(c, u)] := by unfold kadd; rw [hc]
    rw [hk] at hp
    rcases List.mem_append.1 hp with hp | hp
    · refine .inl (.inr (.inr (.inl ⟨p, hp, ?_⟩)))
      rw [← e]
      exact congrArg _ (if_neg (kfind_none hc p hp)).symm
    · obtain rfl : p = (c, u) := by simpa using hp
      exact .inr (by rw [← e]; exact congrArg _ (if_pos rfl).symm)
  · exact .inl (.inr (.inr (.inr h)))
end Go.Proofs.YtaeebgljcdfolaaGreatDoor
