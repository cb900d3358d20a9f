/- A *store.Store's waiting texts and their clocks change: how that lies in memory. -/
import Derived.Test.YthhbiliimdpgmaaGreatDoorM18
import Derived.Test.YthhbiliimdpgmaaGreatDoorM09
import Derived.Test.YthhbiliimdpgmaaGreatDoorM10
import Derived.Test.YthhbiliimdpgmaaGreatDoorM01
namespace Go.Proofs.YthhbiliimdpgmaaGreatDoor
open Go.RowKit Go.Lib

theorem StoreAt.waitsTo {w w' : World} {sb : Nat} {L : SLay} {K : List (Int × ByteArray)} {Q Q' : List QOp} {H : List QRng} (h : StoreAt w sb L K Q H) {v : Value}
    (hst : w'.heap[sb]? = some (.cells #[.map (some L.m), v, L.hv] 82 (0, 0)))
    (hw : ∀ b, b < w.heap.size → b ≠ sb → L.wv.ownBlock ≠ some b → w'.heap[b]? = w.heap[b]?)
    (hown : OwnAt 0 35 22 encOp w' v Q') (hsep : v.ownBlock = L.wv.ownBlock ∨ ∀ b, v.ownBlock = some b → w.heap.size ≤ b) : StoreAt w' sb { L with wv := v } K Q' H := by
  have hrs : ∀ p ∈ K, ∀ b, (L.row p.1).ownBlock = some b → b < w.heap.size ∧ b ≠ sb ∧ L.wv.ownBlock ≠ some b := fun p hp b e => by
    obtain ⟨cur, hcur⟩ := ownsRow_obj (h.rows p hp) e
    exact ⟨ownsRow_lt (h.rows p hp) b e, cells_ne hcur h.st (by decide), fun e2 => h.wsep p hp (e.trans e2.symm)⟩
  refine { st := hst, map := ?_, keys := h.keys, rows := ?_, waits := hown, held := ?_, rsep := h.rsep, wsep := ?_ }
  · refine h.map.blk (hw _ h.map.lt (h.map.ne_cells h.st) fun e => ?_)
    obtain ⟨cur, hcur⟩ := ownsRow_obj h.waits e
    exact h.map.ne_cells hcur rfl
  · intro p hp
    exact ownsRow_blk (h.rows p hp) fun b e => hw b (hrs p hp b e).1 (hrs p hp b e).2.1 (hrs p hp b e).2.2
  · refine ownsRow_blk h.held fun b e => ?_
    obtain ⟨cur, hcur⟩ := ownsRow_obj h.held e
    refine hw b (ownsRow_lt h.held b e) (cells_ne hcur h.st (by decide)) fun e2 => ?_
    obtain ⟨cur2, hcur2⟩ := ownsRow_obj h.waits e2
    exact cells_ne hcur hcur2 (by decide) rfl
  · intro p hp
    show (L.row p.1).ownBlock ≠ v.ownBlock
    rcases hsep with e | hge
    · rw [e]; exact h.wsep p hp
    · intro e
      obtain ⟨b, cap, hv, _⟩ := OwnAt.one (h.rows p hp)
      have e1 : (L.row p.1).ownBlock = some b := by rw [hv]; rfl
      have := (hrs p hp b e1).1
      have := hge b (e ▸ e1)
      omega
theorem StoreAt.heldTo {w w' : World} {sb : Nat} {L : SLay} {K : List (Int × ByteArray)} {Q : List QOp} {H H' : List QRng} (h : StoreAt w sb L K Q H) {v : Value}
    (hst : w'.heap[sb]? = some (.cells #[.map (some L.m), L.wv, v] 82 (0, 0)))
    (hw : ∀ b, b < w.heap.size → b ≠ sb → w'.heap[b]? = w.heap[b]?) (hown : OwnAt 0 95 3 encRng w' v H') : StoreAt w' sb { L with hv := v } K Q H' := by
  refine { st := hst, map := ?_, keys := h.keys, rows := ?_, waits := ?_, held := hown, rsep := h.rsep, wsep := h.wsep }
  · exact h.map.blk (hw _ h.map.lt (h.map.ne_cells h.st))
  · intro p hp
    refine ownsRow_blk (h.rows p hp) fun b e => ?_
    obtain ⟨cur, hcur⟩ := ownsRow_obj (h.rows p hp) e
    exact hw b (ownsRow_lt (h.rows p hp) b e) (cells_ne hcur h.st (by decide))
  · refine ownsRow_blk h.waits fun b e => ?_
    obtain ⟨cur, hcur⟩ := ownsRow_obj h.waits e
    exact hw b (ownsRow_lt h.waits b e) (cells_ne hcur h.st (by decide))
theorem SFoot.waitsTo {sb : Nat} {L : SLay} {K : List (Int × ByteArray)} {v : Value} {b : Nat} (h : SFoot sb { L with wv := v } K b) : SFoot sb L K b ∨ v.ownBlock = some b := by
  rcases h with h | h | h | h | h
  · exact .inl (.inl h)
  · exact .inl (.inr (.inl h))
  · exact .inl (.inr (.inr (.inl h)))
  · exact .inr h
  · exact .inl (.inr (.inr (.inr (.inr h))))
theorem SFoot.heldTo {sb : Nat} {L : SLay} {K : List (Int × ByteArray)} {v : Value} {b : Nat} (h : SFoot sb { L with hv := v } K b) : SFoot sb L K b ∨ v.ownBlock = some b := by
  rcases h with h | h | h | h | h
  · exact .inl (.inl h)
  · exact .inl (.inr (.inl h))
  · exact .inl (.inr (.inr (.inl h)))
  · exact .inl (.inr (.inr (.inr (.inl h))))
  · exact .inr h
/-- blocks other than the tables' are touched. -/
def TabFree (F : Nat → Prop) : Prop := ¬ F (Tryz.valid_ren.g 3) ∧ ¬ F (Tryz.valid_ren.g 4)
theorem Tabs.mods {F : Nat → Prop} {w w' : World} (h : Tabs w) (hm : Mods F w w') (hf : TabFree F) : Tabs w' := by
  have lt : ∀ {a : Addr} {v : Value}, w.cell? a = some v → a.block < w.heap.size := fun {a v} hc => by
    rcases Nat.lt_or_ge a.block w.heap.size with h' | h'
    · exact h'
    · simp [World.cell?, Array.getElem?_eq_none h'] at hc
  have key : ∀ {a : Addr} {v : Value}, w.cell? a = some v → ¬ F a.block → w'.cell? a = some v := fun {a v} hc hn => (World.cell?_of_block (w := w) (hm.block _ (lt hc) hn)).trans hc
  exact ⟨fun c hc => key (h.1 c hc) hf.1, fun i hi => ⟨key (h.2 i hi).1 hf.2, key (h.2 i hi).2 hf.2⟩⟩
/-- the blocks of a store that lie below are no others. -/
theorem StoreIn.low {w : World} {F : Nat → Prop} {sb : Nat} {K : List (Int × ByteArray)} {Q : List QOp} {H : List QRng} (h : StoreIn w F sb K Q H) : StoreIn w (fun b => F b ∧ b < w.heap.size) sb K Q H := by
  obtain ⟨L, h1, h2⟩ := h
  exact ⟨L, h1, fun b hb => ⟨h2 b hb, h1.foot_lt b hb⟩⟩
theorem StoreIn.to {w : World} {F G : Nat → Prop} {sb : Nat} {K : List (Int × ByteArray)} {Q : List QOp} {H : List QRng} (h : StoreIn w F sb K Q H) (hg : ∀ b, F b → b < w.heap.size → G b) : StoreIn w G sb K Q H := by
  obtain ⟨L, h1, h2⟩ := h
  exact ⟨L, h1, fun b hb => hg b (h2 b hb) (h1.foot_lt b hb)⟩
end Go.Proofs.YthhbiliimdpgmaaGreatDoor
/- Walks: one set of a key: value.Check of the zero value, ops.val, key, stamp, bare. -/
namespace Go.Proofs.YthhbiliimdpgmaaGreatDoor
open Go.RowKit Go.Lib

theorem cell_two (w : World) (c d : Array Value) (t u : TypeId) (i : Nat) : ((w.alloc (.cells c t)).alloc (.cells d u)).cell? ⟨w.heap.size, i, none⟩ = c[i]? ∧ ((w.alloc (.cells c t)).alloc (.cells d u)).cell? ⟨w.heap.size + 1, i, none⟩ = d[i]? := by
  refine ⟨?_, ?_⟩
  · simp only [World.cell?]
    rw [alloc_heap_if, if_neg (by simp), alloc_heap_if, if_pos rfl]
    simp
  · simp only [World.cell?]
    rw [alloc_heap_if, if_pos (by simp)]
    simp
theorem bits_zero (w : World) : Calls Tryz.prog 135 #[.float .f64 0] w fun e w' => e = .returned (.int .u64 0) ∧ w = w' := by
  have hb := fun w => run_f64bits 0 w
  have hn := isNaN_any 0
  have hz : nanB 0 = false := by decide
  rw [hz] at hn
  go_enter Tryz.func135, Tryz.ntmps135
  go_wp2_with (go_at_call 89; refine (hn _).mono ?_; rintro e w1 ⟨rfl, rfl⟩)
  go_ret
  exact ⟨rfl, rfl⟩
set_option maxRecDepth 100000 in
set_option maxHeartbeats 1000000 in
theorem valCheck_zero (w : World) : Calls Tryz.prog 91 #[.agg #[.int .i64 valZero.kind, .int .i64 valZero.n, .float .f64 valZero.f, .string valZero.s]] w fun e w' => e = .returned (.int .i64 0) ∧ Below w.heap.size w w' := by
  have hb : ∀ w : World, Calls Tryz.prog 135 #[.float .f64 0] w fun e w' => e = .returned (.int .u64 0) ∧ Below w.heap.size w w' := fun w => (bits_zero w).mono fun e w' ⟨h1, h2⟩ => ⟨h1, h2 ▸ Below.refl _ _⟩
  change Calls Tryz.prog 91 #[.agg #[.int .i64 0, .int .i64 0, .float .f64 0, .string ⟨#[]⟩]] w _
  go_enter Tryz.func91, Tryz.ntmps91
  go_wp2
  obtain ⟨W, hW⟩ : ∃ W, ((w.alloc (.cells #[.int .i64 0, .int .i64 0, .float .f64 0, .string ⟨#[]⟩] 31)).alloc (.cells #[.int .i64 0, .int .i64 0, .float .f64 0, .string ⟨#[]⟩] 31)) = W := ⟨_, rfl⟩
  have hB : Below w.heap.size w W := by rw [← hW]; (repeat (first | exact Below.refl _ _ | assumption | refine Below.alloc ?_ (by simp <;> omega) _ | refine Below.drew ?_ | refine below_drewN ?_ _ | refine Below.setCell ?_ (by simp <;> omega) _ | refine belowTrans ?_ (by assumption)))
  have hl : w.heap.size + 1 < W.heap.size := by rw [← hW]; simp
  have c1 : ∀ s : BStep W, s.val.cell? ⟨w.heap.size, 1, none⟩ = some (.int .i64 0) := BStep.cell (by show w.heap.size < _; omega) (by rw [← hW]; exact (cell_two w _ _ _ _ _).1)
  have c2 : ∀ s : BStep W, s.val.cell? ⟨w.heap.size, 2, none⟩ = some (.float .f64 0) := BStep.cell (by show w.heap.size < _; omega) (by rw [← hW]; exact (cell_two w _ _ _ _ _).1)
  have c3 : ∀ s : BStep W, s.val.cell? ⟨w.heap.size, 3, none⟩ = some (.string ⟨#[]⟩) := BStep.cell (by show w.heap.size < _; omega) (by rw [← hW]; exact (cell_two w _ _ _ _ _).1)
  have d1 : ∀ s : BStep W, s.val.cell? ⟨w.heap.size + 1, 1, none⟩ = some (.int .i64 0) := BStep.cell (by show w.heap.size + 1 < _; omega) (by rw [← hW]; exact (cell_two w _ _ _ _ _).2)
  have d2 : ∀ s : BStep W, s.val.cell? ⟨w.heap.size + 1, 2, none⟩ = some (.float .f64 0) := BStep.cell (by show w.heap.size + 1 < _; omega) (by rw [← hW]; exact (cell_two w _ _ _ _ _).2)
  have d3 : ∀ s : BStep W, s.val.cell? ⟨w.heap.size + 1, 3, none⟩ = some (.string ⟨#[]⟩) := BStep.cell (by show w.heap.size + 1 < _; omega) (by rw [← hW]; exact (cell_two w _ _ _ _ _).2)
  rw [hW]
  clear hW
  refine wp_region_b (by kernel_rfl) (by kernel_rfl) ?_
  repeat (first | go_big_quiet_skip | (go_big_quiet_want; first | (fail; go_frame; go_big_quiet_on) | (go_big_quiet_op; first | go_big_quiet_on | go_big_quiet_call ((go_at_call 135; exact callsB (hb _))))))
  refine wpQuiet_nil ?_
  intro W' hC'
  have hBW' := BStep.of hC'
  go_wp2
  go_ret
  exact ⟨rfl, belowTrans hB hBW'⟩
/-- the set of the law: key k of the root, null. -/
def setO (s : Int) : QOp := ⟨⟨4, 1⟩, 4, s, idZero, idZero, ByteArray.empty, valZero, ⟨#[107]⟩, idZero, idZero, false, idZero, false⟩
set_option maxRecDepth 100000 in
theorem opsVal_zero (b : Bool) (w : World) : Calls Tryz.prog 103 #[.agg #[.int .i64 valZero.kind, .int .i64 valZero.n, .float .f64 valZero.f, .string valZero.s], .bool b] w fun e w' => e = .returned (.bool true) ∧ Below w.heap.size w w' := by
  have hB : Below w.heap.size w (w.alloc (.cells #[.int .i64 0, .int .i64 0, .float .f64 0, .string ⟨#[]⟩] 31)) := by (repeat (first | exact Below.refl _ _ | assumption | refine Below.alloc ?_ (by simp <;> omega) _ | refine Below.drew ?_ | refine below_drewN ?_ _ | refine Below.setCell ?_ (by simp <;> omega) _ | refine belowTrans ?_ (by assumption)))
  change Calls Tryz.prog 103 #[.agg #[.int .i64 0, .int .i64 0, .float .f64 0, .string ⟨#[]⟩], .bool b] w _
  have hc : ∀ w : World, Calls Tryz.prog 91 #[.agg #[.int .i64 0, .int .i64 0, .float .f64 0, .string ⟨#[]⟩]] w fun e w' => e = .returned (.int .i64 0) ∧ Below w.heap.size w w' := valCheck_zero
  have hz : (w.alloc (.cells #[.int .i64 0, .int .i64 0, .float .f64 0, .string ⟨#[]⟩] 31)).cell? ⟨w.heap.size, 0, none⟩ = some (.int .i64 0) := by go_simp
  cases b with
  | false =>
    go_enter Tryz.func103, Tryz.ntmps103
    go_wp2_with (go_at_call 91; refine (hc _).mono ?_; rintro e w1 ⟨rfl, hb1⟩; have x0 := (hb1.cell (p := ⟨w.heap.size, 0, none⟩) (by simp)).trans hz)
    go_ret
    exact ⟨rfl, belowTrans hB hb1⟩
  | true =>
    go_enter Tryz.func103, Tryz.ntmps103
    go_wp2_with (go_at_call 91; refine (hc _).mono ?_; rintro e w1 ⟨rfl, hb1⟩; have x0 := (hb1.cell (p := ⟨w.heap.size, 0, none⟩) (by simp)).trans hz)
    go_ret
    exact ⟨rfl, belowTrans hB hb1⟩
theorem opsKey_k (w : World) (hT : Tabs w) : Calls Tryz.prog 104 #[.string ⟨#[107]⟩] w fun e w' => e = .returned (.bool true) ∧ Below w.heap.size w w' := by
  have hv := valid_any ⟨#[107]⟩ w (by decide) hT
  have hk : okB ⟨#[107]⟩ = true := by decide +kernel
  rw [hk] at hv
  go_enter Tryz.func104, Tryz.ntmps104
  go_wp2_with (go_at_call 92; refine hv.mono ?_; rintro e w1 ⟨rfl, hb1⟩)
  go_ret
  exact ⟨rfl, hb1⟩
theorem opsStamp_any (s : Int) (w : World) (h1 : 1 ≤ s) (h2 : s ≤ 9007199254740991) : Calls Tryz.prog 105 #[.int .u64 s] w fun e w' => e = .returned (.bool true) ∧ w = w' := by
  go_enter Tryz.func105, Tryz.ntmps105
  go_wp2
  go_ret
  exact ⟨rfl, rfl⟩
end Go.Proofs.YthhbiliimdpgmaaGreatDoor
/- Walk: ops.bare of the set. -/
namespace Go.Proofs.YthhbiliimdpgmaaGreatDoor
open Go.RowKit Go.Lib

theorem Mods.setCell {S : Nat → Prop} {w w' : World} (h : Mods S w w') {p : Addr} (hp : S p.block) (v : Value) : Mods S w (w'.setCell p v) :=
  ⟨h.os, h.tape, h.output, by simpa using h.size, fun k hk hs => (Below.heap_setCell _ _ _ _ (fun e => hs (by rw [e]; exact hp))).trans (h.block k hk hs)⟩
theorem OpBox.drew {w : World} {b : Nat} {o : QOp} (h : OpBox w b o) : OpBox w.drew b o := h
theorem OpBox.setKey {w : World} {b : Nat} {o : QOp} (h : OpBox w b o) (t : ByteArray) : OpBox (w.setCell ⟨b, 13, none⟩ (.string t)) b { o with key := t } := by
  unfold OpBox at *
  simp [World.setCell, Array.getElem?_modify, h, encOp]
theorem OpBox.setStamp {w : World} {b : Nat} {o : QOp} (h : OpBox w b o) (t : Int) : OpBox (w.setCell ⟨b, 3, none⟩ (.int .u64 t)) b { o with stamp := t } := by
  unfold OpBox at *
  simp [World.setCell, Array.getElem?_modify, h, encOp]
theorem OpBox.setP {w : World} {b : Nat} {o : QOp} (h : OpBox w b o) (i : QId) : OpBox ((w.setCell ⟨b, 14, none⟩ (.int .u64 i.c)).setCell ⟨b, 15, none⟩ (.int .u64 i.k)) b { o with parent := i } := by
  unfold OpBox at *
  simp [World.setCell, Array.getElem?_modify, h, encOp]
theorem OpBox.setV {w : World} {b : Nat} {o : QOp} (h : OpBox w b o) (v : QVal) :
    OpBox ((((w.setCell ⟨b, 9, none⟩ (.int .i64 v.kind)).setCell ⟨b, 10, none⟩ (.int .i64 v.n)).setCell ⟨b, 11, none⟩ (.float .f64 v.f)).setCell ⟨b, 12, none⟩ (.string v.s)) b { o with v := v } := by
  unfold OpBox at *
  simp [World.setCell, Array.getElem?_modify, h, encOp]
set_option maxRecDepth 100000 in
set_option maxHeartbeats 4000000 in
theorem bare_set (s : Int) (w : World) (hs1 : 1 ≤ s) (hs2 : s ≤ 9007199254740991) (hT : Tabs w) :
    Calls Tryz.prog 55 #[opV (setO s)] w fun e w' => e = .returned (.tuple #[opV (setO s), .bool true]) ∧ Below w.heap.size w w' := by
  have hvl : ∀ w, Calls Tryz.prog 103 #[.agg #[.int .i64 0, .int .i64 0, .float .f64 0, .string ⟨#[]⟩], .bool true] w fun e w' => e = .returned (.bool true) ∧ Below w.heap.size w w' := opsVal_zero true
  have hky := opsKey_k
  have hst := fun w => opsStamp_any s w hs1 hs2
  have hsf := store_float
  change Calls Tryz.prog 55 #[.agg #[.int .u64 (setO s).id.c, .int .u64 (setO s).id.k, .int .i64 (setO s).kind, .int .u64 (setO s).stamp, .int .u64 (setO s).left.c, .int .u64 (setO s).left.k, .int .u64 (setO s).right.c, .int .u64 (setO s).right.k, .string (setO s).text, .int .i64 (setO s).v.kind, .int .i64 (setO s).v.n, .float .f64 (setO s).v.f, .string (setO s).v.s, .string (setO s).key, .int .u64 (setO s).parent.c, .int .u64 (setO s).parent.k, .int .u64 (setO s).frm.c, .int .u64 (setO s).frm.k, .bool (setO s).frmA, .int .u64 (setO s).til.c, .int .u64 (setO s).til.k, .bool (setO s).tilA]] w _
  go_enter Tryz.func55, Tryz.ntmps55
  go_upto_region 1 with fail
  obtain ⟨W, hW⟩ : ∃ W, (w.alloc (.cells (encOp (setO s)).toArray 35)).alloc (.cells (encOp opZero).toArray 35) = W := ⟨_, rfl⟩
  have hB : Below w.heap.size w W := by rw [← hW]; exact ((Below.refl _ _).alloc (Nat.le_refl _) _).alloc (by simp) _
  have hbx : OpBox W w.heap.size (setO s) := by rw [← hW]; exact (OpBox.new w (setO s)).below ((Below.refl _ _).alloc (Nat.le_refl _) _) (by simp)
  have hby : OpBox W (w.heap.size + 1) opZero := by rw [← hW]; have := OpBox.new (w.alloc (.cells (encOp (setO s)).toArray 35)) opZero; rwa [World.size_alloc] at this
  change Code.wp _ _ _ _ ((w.alloc (.cells (encOp (setO s)).toArray 35)).alloc (.cells (encOp opZero).toArray 35))
  rw [hW]
  clear hW
  have hz0 : w.heap.size < W.heap.size := hbx.lt
  have hz1 : w.heap.size + 1 < W.heap.size := hby.lt
  have q0 := hbx.cells 0 _ rfl
  have q1 := hbx.cells 1 _ rfl
  have q2 := hbx.cells 2 _ rfl
  have q3 := hbx.cells 3 _ rfl
  have q4 := hbx.cells 4 _ rfl
  have q5 := hbx.cells 5 _ rfl
  have q6 := hbx.cells 6 _ rfl
  have q7 := hbx.cells 7 _ rfl
  have q8 := hbx.cells 8 _ rfl
  have q9 := hbx.cells 9 _ rfl
  have q10 := hbx.cells 10 _ rfl
  have q11 := hbx.cells 11 _ rfl
  have q12 := hbx.cells 12 _ rfl
  have q13 := hbx.cells 13 _ rfl
  have q14 := hbx.cells 14 _ rfl
  have q15 := hbx.cells 15 _ rfl
  have q16 := hbx.cells 16 _ rfl
  have q17 := hbx.cells 17 _ rfl
  have q18 := hbx.cells 18 _ rfl
  have q19 := hbx.cells 19 _ rfl
  have q20 := hbx.cells 20 _ rfl
  have q21 := hbx.cells 21 _ rfl
  have bz := OpBox.new W opZero
  have hb3 : Below W.heap.size W (putOp (W.alloc (.cells (encOp opZero).toArray 35)) W.heap.size { opZero with id := ⟨4, 1⟩, kind := 4 }) := below_putOp ((Below.refl _ _).alloc (Nat.le_refl _) _) (Nat.le_refl _) _
  have hbn := bz.put { opZero with id := ⟨4, 1⟩, kind := 4 }
  have Hb3 := Lib.hid hb3
  have Hbn := Lib.hid hbn
  clear hb3 hbn
  go_upto_region 2 with (refine wpList_store_eq (T := 35) (v := opV { opZero with id := ⟨4, 1⟩, kind := 4 }) rfl rfl rfl rfl (OpBox.store bz { opZero with id := ⟨4, 1⟩, kind := 4 }) ?_)
  have hb3 := Hb3.out
  have hbn := Hbn.out
  obtain ⟨W3, hW3⟩ : ∃ W3, putOp (W.alloc (.cells (encOp opZero).toArray 35)) W.heap.size { opZero with id := ⟨4, 1⟩, kind := 4 } = W3 := ⟨_, rfl⟩
  rw [hW3] at hb3 hbn ⊢
  clear hW3 Hb3 Hbn bz q0 q1 q2 q3 q4 q5 q6 q7 q8 q9 q10 q11 q12 q13 q14 q15 q16 q17 q18 q19 q20 q21
  have hbx3 := hbx.below hb3 hz0
  have hby3 := hby.below hb3 hz1
  obtain ⟨X, hX⟩ : ∃ X, W.heap.size = X := ⟨_, rfl⟩
  have hB3 := belowTrans hB hb3
  have hwX : w.heap.size + 1 < X := by omega
  rw [hX] at hbn ⊢
  clear hX hb3 hbx hby hB hz0 hz1
  have q2 : W3.cell? ⟨w.heap.size, 2, none⟩ = some (.int .i64 4) := hbx3.cells 2 _ rfl
  have q14 : W3.cell? ⟨w.heap.size, 14, none⟩ = some (.int .u64 0) := hbx3.cells 14 _ rfl
  have q15 : W3.cell? ⟨w.heap.size, 15, none⟩ = some (.int .u64 0) := hbx3.cells 15 _ rfl
  have x14 : W3.cell? ⟨X, 14, none⟩ = some (.int .u64 0) := hbn.cells 14 _ rfl
  have x15 : W3.cell? ⟨X, 15, none⟩ = some (.int .u64 0) := hbn.cells 15 _ rfl
  have f14 := hbn.f 14
  have f15 := hbn.f 15
  go_upto_region 18 with fail
  have hbn4 := hbn.setP idZero
  have hB4 := (hB3.setCell (p := ⟨X, 14, none⟩) (by show w.heap.size ≤ X; omega) (.int .u64 0)).setCell (p := ⟨X, 15, none⟩) (by show w.heap.size ≤ X; omega) (.int .u64 0)
  have hbx4 : OpBox ((W3.setCell ⟨X, 14, none⟩ (.int .u64 0)).setCell ⟨X, 15, none⟩ (.int .u64 0)) w.heap.size (setO s) := ((Below.heap_setCell _ _ _ _ (by show ¬ w.heap.size = X; omega)).trans (Below.heap_setCell _ _ _ _ (by show ¬ w.heap.size = X; omega))).trans hbx3
  have hby4 : OpBox ((W3.setCell ⟨X, 14, none⟩ (.int .u64 0)).setCell ⟨X, 15, none⟩ (.int .u64 0)) (w.heap.size + 1) opZero := ((Below.heap_setCell _ _ _ _ (by show ¬ w.heap.size + 1 = X; omega)).trans (Below.heap_setCell _ _ _ _ (by show ¬ w.heap.size + 1 = X; omega))).trans hby3
  change OpBox ((W3.setCell ⟨X, 14, none⟩ (.int .u64 0)).setCell ⟨X, 15, none⟩ (.int .u64 0)) X { opZero with id := ⟨4, 1⟩, kind := 4 } at hbn4
  generalize (W3.setCell ⟨X, 14, none⟩ (.int .u64 0)).setCell ⟨X, 15, none⟩ (.int .u64 0) = W4 at hbn4 hB4 hbx4 hby4 ⊢
  clear hbn hB3 hbx3 hby3 q2 q14 q15 x14 x15 f14 f15
  clear W3
  have q9 : W4.cell? ⟨w.heap.size, 9, none⟩ = some (.int .i64 0) := hbx4.cells 9 _ rfl
  have q10 : W4.cell? ⟨w.heap.size, 10, none⟩ = some (.int .i64 0) := hbx4.cells 10 _ rfl
  have q11 : W4.cell? ⟨w.heap.size, 11, none⟩ = some (.float .f64 0) := hbx4.cells 11 _ rfl
  have q12 : W4.cell? ⟨w.heap.size, 12, none⟩ = some (.string ⟨#[]⟩) := hbx4.cells 12 _ rfl
  go_upto_region 19 with (go_at_call 103; refine (hvl _).mono ?_; rintro e w5 ⟨rfl, hb5⟩)
  have hB5 := belowTrans hB4 hb5
  have hbx5 := hbx4.below hb5 hbx4.lt
  have hby5 := hby4.below hb5 hby4.lt
  have hbn5 := hbn4.below hb5 hbn4.lt
  clear q9 q10 q11 q12 hB4 hbx4 hby4 hbn4 hb5 hvl
  clear W4
  have hx5 := hbx5.lt
  have hy5 := hby5.lt
  have hn5 := hbn5.lt
  have hXw : w.heap.size ≠ X := by omega
  have q3 : ∀ t : MStep (fun b => b = X) w5, t.val.cell? ⟨w.heap.size, 3, none⟩ = some (.int .u64 s) := MStep.cell hx5 hXw (hbx5.cells 3 _ rfl)
  have q9 : ∀ t : MStep (fun b => b = X) w5, t.val.cell? ⟨w.heap.size, 9, none⟩ = some (.int .i64 0) := MStep.cell hx5 hXw (hbx5.cells 9 _ rfl)
  have q10 : ∀ t : MStep (fun b => b = X) w5, t.val.cell? ⟨w.heap.size, 10, none⟩ = some (.int .i64 0) := MStep.cell hx5 hXw (hbx5.cells 10 _ rfl)
  have q11 : ∀ t : MStep (fun b => b = X) w5, t.val.cell? ⟨w.heap.size, 11, none⟩ = some (.float .f64 0) := MStep.cell hx5 hXw (hbx5.cells 11 _ rfl)
  have q12 : ∀ t : MStep (fun b => b = X) w5, t.val.cell? ⟨w.heap.size, 12, none⟩ = some (.string ⟨#[]⟩) := MStep.cell hx5 hXw (hbx5.cells 12 _ rfl)
  have q13 : ∀ t : MStep (fun b => b = X) w5, t.val.cell? ⟨w.heap.size, 13, none⟩ = some (.string ⟨#[107]⟩) := MStep.cell hx5 hXw (hbx5.cells 13 _ rfl)
  refine wp_region_flow3 10 [0, 1, 2, 3, 4, 5, 6] [7, 8, 9, 10, 11] (fun w' => ∃ s : MStep (fun b => b = X) w5, w' = s.val) (by kernel_rfl) (by kernel_rfl) (fun _ _ d _ _ h => by cases d <;> exact h) (MStep.to (Mods.refl _ _).drew) ?_
  simp only [List.map_cons, List.map_nil, List.getElem?_cons_succ, List.getElem?_cons_zero, Option.getD_some]
  repeat (first | go_big_quiet_skip | (go_big_quiet_want; first | (fail; go_frame; go_big_quiet_on) | (go_big_quiet_op; go_big_quiet_on)))
  refine wpQuiet_nil ?_
  have x3 : w5.cell? ⟨X, 3, none⟩ = some (.int .u64 0) := hbn5.cells 3 _ rfl
  have x9 : w5.cell? ⟨X, 9, none⟩ = some (.int .i64 0) := hbn5.cells 9 _ rfl
  have x10 : w5.cell? ⟨X, 10, none⟩ = some (.int .i64 0) := hbn5.cells 10 _ rfl
  have x11 : w5.cell? ⟨X, 11, none⟩ = some (.float .f64 0) := hbn5.cells 11 _ rfl
  have x12 : w5.cell? ⟨X, 12, none⟩ = some (.string ⟨#[]⟩) := hbn5.cells 12 _ rfl
  have x13 : w5.cell? ⟨X, 13, none⟩ = some (.string ⟨#[]⟩) := hbn5.cells 13 _ rfl
  have f3 := hbn5.f 3
  have f9 := hbn5.f 9
  have f10 := hbn5.f 10
  have f11 := hbn5.f 11
  have f12 := hbn5.f 12
  have f13 := hbn5.f 13
  refine wpSeqF_step rfl ?_; simp only [List.getElem_toArray, List.getElem_cons_succ, List.getElem_cons_zero]
  go_wp2_with fail
  have hm7 : Mods (fun b => b = X) w5 (w5.setCell ⟨X, 13, none⟩ (.string ⟨#[107]⟩)).drew := ((Mods.refl (fun b => b = X) w5).setCell (p := ⟨X, 13, none⟩) rfl _).drew
  refine ⟨MStep.to hm7, ?_⟩
  refine wpSeqF_step rfl ?_; simp only [List.getElem_toArray, List.getElem_cons_succ, List.getElem_cons_zero]
  go_wp2_with fail
  refine ⟨MStep.to hm7, ?_⟩
  refine wpSeqF_step rfl ?_; simp only [List.getElem_toArray, List.getElem_cons_succ, List.getElem_cons_zero]
  go_wp2_with fail
  have hm9 := ((((((Mods.refl (fun b => b = X) w5).setCell (p := ⟨X, 13, none⟩) rfl (.string ⟨#[107]⟩)).setCell (p := ⟨X, 9, none⟩) rfl (.int .i64 0)).setCell (p := ⟨X, 10, none⟩) rfl (.int .i64 0)).setCell (p := ⟨X, 11, none⟩) rfl (.float .f64 0)).setCell (p := ⟨X, 12, none⟩) rfl (.string ⟨#[]⟩)).drew
  refine ⟨MStep.to hm9, ?_⟩
  refine wpSeqF_step rfl ?_; simp only [List.getElem_toArray, List.getElem_cons_succ, List.getElem_cons_zero]
  go_wp2_with fail
  refine wpSeqF_step rfl ?_; simp only [List.getElem_toArray, List.getElem_cons_succ, List.getElem_cons_zero]
  go_wp2_with fail
  refine wpSeqF_nil ?_
  have hbn7 : OpBox ((((((w5.setCell ⟨X, 13, none⟩ (.string ⟨#[107]⟩)).setCell ⟨X, 9, none⟩ (.int .i64 0)).setCell ⟨X, 10, none⟩ (.int .i64 0)).setCell ⟨X, 11, none⟩ (.float .f64 0)).setCell ⟨X, 12, none⟩ (.string ⟨#[]⟩)).setCell ⟨X, 3, none⟩ (.int .u64 s)).drew X (setO s) := by
    have h1 := hbn5.setKey ⟨#[107]⟩
    have h2 := h1.setV valZero
    have h3 := h2.setStamp s
    exact OpBox.drew h3
  have hm8 := (((((((Mods.refl (fun b => b = X) w5).setCell (p := ⟨X, 13, none⟩) rfl (.string ⟨#[107]⟩)).setCell (p := ⟨X, 9, none⟩) rfl (.int .i64 0)).setCell (p := ⟨X, 10, none⟩) rfl (.int .i64 0)).setCell (p := ⟨X, 11, none⟩) rfl (.float .f64 0)).setCell (p := ⟨X, 12, none⟩) rfl (.string ⟨#[]⟩)).setCell (p := ⟨X, 3, none⟩) rfl (.int .u64 s)).drew
  obtain ⟨W7, hW7⟩ : ∃ W7, ((((((w5.setCell ⟨X, 13, none⟩ (.string ⟨#[107]⟩)).setCell ⟨X, 9, none⟩ (.int .i64 0)).setCell ⟨X, 10, none⟩ (.int .i64 0)).setCell ⟨X, 11, none⟩ (.float .f64 0)).setCell ⟨X, 12, none⟩ (.string ⟨#[]⟩)).setCell ⟨X, 3, none⟩ (.int .u64 s)).drew = W7 := ⟨_, rfl⟩
  rw [hW7] at hbn7 hm8 ⊢
  have hbx7 : OpBox W7 w.heap.size (setO s) := (hm8.block _ hx5 (by omega)).trans hbx5
  have hby7 : OpBox W7 (w.heap.size + 1) opZero := (hm8.block _ hy5 (by omega)).trans hby5
  have hB7 : Below w.heap.size w W7 := hB5.trans ⟨hm8.os, hm8.tape, hm8.output, hm8.size, fun k hk => hm8.block k (Nat.lt_of_lt_of_le hk hB5.size) (by omega)⟩
  clear hW7 hm8 hm7 hm9 q3 q9 q10 q11 q12 q13 x3 x9 x10 x11 x12 x13 f3 f9 f10 f11 f12 f13 hbx5 hby5 hbn5 hx5 hy5 hn5 hB5
  clear w5
  have hx7 := hbx7.lt
  have p13 : W7.cell? ⟨w.heap.size, 13, none⟩ = some (.string ⟨#[107]⟩) := hbx7.cells 13 _ rfl
  have hkyW := hky W7 (hT.below hB7)
  go_upto_region 22 with (first | (go_at_call 104; refine hkyW.mono ?_; rintro e w8 ⟨rfl, hb8⟩; have p3 : w8.cell? ⟨w.heap.size, 3, none⟩ = some (.int .u64 s) := (hbx7.below hb8 hx7).cells 3 _ rfl) | (go_at_call 105; refine (hst _).mono ?_; rintro e w9 ⟨rfl, rfl⟩))
  have hbn8 := hbn7.below hb8 hbn7.lt
  have hby8 := hby7.below hb8 hby7.lt
  have hB8 := belowTrans hB7 hb8
  have hres := Lib.hid (hby8.put (setO s)).load
  clear hbn7 hby7 hB7 hbx7 hb8 p13 p3 hkyW
  go_wp2_with (first | (refine wpList_load_eq (T := 35) (v := opV (setO s)) rfl rfl rfl hbn8.load ?_) | (refine wpList_store_eq (T := 35) (v := opV (setO s)) rfl rfl rfl rfl (OpBox.store hby8 (setO s)) ?_))
  refine bodyPost_ret (v := .tuple #[opV (setO s), .bool true]) ?_ rfl ⟨rfl, below_putOp hB8 (by omega) _⟩
  have h9 := hres.out
  simp [results, Tryz.results55, asAddr, h9]
end Go.Proofs.YthhbiliimdpgmaaGreatDoor
