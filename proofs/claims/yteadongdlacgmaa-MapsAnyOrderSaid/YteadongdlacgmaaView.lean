/- Walk: maps.view. -/
import Derived.Test.YteadongdlacgmaaSorted
import Derived.Test.YteadongdlacgmaaSet
import Derived.Test.YteadongdlacgmaaEnt
namespace Go.Proofs.Yteadongdlacgmaa
open Go.RowKit

/-- what view hands back. -/
def ViewR (w : World) (l : List QEntry) (v : Value) (w' : World) : Prop := EntAt (fun b => w.heap.size ≤ b) w' v l ∧ Below w.heap.size w w'

/-- a row of entries that the call makes, with all that hangs on them. -/
structure RowsAt (base : Nat) (w : World) (v : Value) (es : List QRec) (l : List QEntry) : Prop where
  own : OwnAt base 56 6 encRec w v es
  len : es.length = l.length
  hd : ∀ (i : Nat) (e : QRec) (q : QEntry), es[i]? = some e → l[i]? = some q → q.key = e.key ∧ q.v = e.v
  kids : ∀ (i : Nat) (e : QRec) (q : QEntry), es[i]? = some e → l[i]? = some q → EntAt (fun b => base ≤ b ∧ b < w.heap.size ∧ v.ownBlock ≠ some b) w e.kids q.kids
theorem RowsAt.nil {base : Nat} {w : World} : RowsAt base w (.slice none 0 0) [] [] := ⟨OwnAt.nil, rfl, by simp, by simp⟩

theorem RowsAt.keep {base : Nat} {w w' : World} {v : Value} {es : List QRec} {l : List QEntry} (h : RowsAt base w v es l) (hs : w.heap.size ≤ w'.heap.size) (hb : ∀ b, base ≤ b → b < w.heap.size → w'.heap[b]? = w.heap[b]?) : RowsAt base w' v es l where
  own := ownsRow_blk h.own fun b e => hb b (World.ownsRow.lt h.own b e).1 (World.ownsRow.lt h.own b e).2
  len := h.len
  hd := h.hd
  kids i e q h1 h2 := ((h.kids i e q h1 h2).keep fun b hS _ => hb b hS.1 hS.2.1).mono fun b hS => ⟨hS.1, by have := hS.2.1; omega, hS.2.2⟩
theorem RowsAt.under {base : Nat} {w w' : World} {v : Value} {es : List QRec} {l : List QEntry} (h : RowsAt base w v es l) (hb : Below w.heap.size w w') : RowsAt base w' v es l := h.keep hb.size fun b _ h2 => hb.block b h2
theorem RowsAt.add {base : Nat} {W w' : World} {v v' : Value} {es : List QRec} {l : List QEntry} (h : RowsAt base W v es l) {e : QRec} {q : QEntry} (hq : q.key = e.key ∧ q.v = e.v)
    (hk : EntAt (fun b => base ≤ b ∧ b < W.heap.size ∧ v.ownBlock ≠ some b) W e.kids q.kids) (hown : OwnAt base 56 6 encRec w' v' (es ++ [e])) (hgrow : W.grownBy w' v.ownBlock)
    (hblk : v'.ownBlock = v.ownBlock ∨ v'.ownBlock = some W.heap.size) : RowsAt base w' v' (es ++ [e]) (l ++ [q]) := by
  have hS : ∀ b, (base ≤ b ∧ b < W.heap.size ∧ v.ownBlock ≠ some b) → base ≤ b ∧ b < w'.heap.size ∧ v'.ownBlock ≠ some b := fun b ⟨h1, h2, h3⟩ => ⟨h1, by have := hgrow.size; omega, by
    rcases hblk with e | e
    · rw [e]; exact h3
    · rw [e]; intro e2; have := Option.some.inj e2; omega⟩
  have hkp : ∀ {u : Value} {t : List QEntry}, EntAt (fun b => base ≤ b ∧ b < W.heap.size ∧ v.ownBlock ≠ some b) W u t → EntAt (fun b => base ≤ b ∧ b < w'.heap.size ∧ v'.ownBlock ≠ some b) w' u t :=
    fun hu => (hu.keep fun b hb _ => hgrow.block b hb.2.1 (fun e => hb.2.2 e.symm)).mono hS
  refine ⟨hown, by simp [h.len], fun i e' q' h1 h2 => ?_, fun i e' q' h1 h2 => ?_⟩
  · by_cases hi : i < es.length
    · rw [List.getElem?_append_left hi] at h1
      rw [List.getElem?_append_left (by rw [← h.len]; exact hi)] at h2
      exact h.hd i e' q' h1 h2
    · have hi2 : i = es.length := by have := (List.getElem?_eq_some_iff.1 h1).1; simp at this; omega
      subst hi2
      rw [h.len] at h2
      simp at h1 h2
      subst h1; subst h2
      exact hq
  · by_cases hi : i < es.length
    · rw [List.getElem?_append_left hi] at h1
      rw [List.getElem?_append_left (by rw [← h.len]; exact hi)] at h2
      exact hkp (h.kids i e' q' h1 h2)
    · have hi2 : i = es.length := by have := (List.getElem?_eq_some_iff.1 h1).1; simp at this; omega
      subst hi2
      rw [h.len] at h2
      simp at h1 h2
      subst h1; subst h2
      exact hkp hk
theorem infoEnt : (Try.prog.info? 56).map (fun i => (i.zero, i.size, i.bytes)) = some (some (.agg #[.string ⟨#[]⟩, .int .i64 0, .int .i64 0, .float .f64 0, .string ⟨#[]⟩, .slice none 0 0]), 6, 80) := by kernel_rfl
theorem entCells (w : World) (B : Nat) (x : QRec) (hB : B = w.heap.size) : ∀ j u, (encRec x)[j]? = some u → (w.alloc (.cells (encRec x).toArray 56)).cell? ((⟨B, 0, none⟩ : Addr).add j) = some u := by
  subst hB
  intro j u hu
  rw [Addr.add_lit, World.cell?, World.alloc_heap_new]
  simpa using hu
theorem entOne (x : QRec) (h : x.kids.oneCell' = true) : ∀ u ∈ encRec x, u.oneCell' = true := by
  intro u hu
  simp only [encRec, List.mem_cons, List.not_mem_nil, or_false] at hu
  rcases hu with rfl | rfl | rfl | rfl | rfl | rfl <;> first | rfl | exact h
theorem EntAt.oneCell {S : Nat → Prop} {w : World} {v : Value} {l : List QEntry} (h : EntAt S w v l) : v.oneCell' = true := by
  obtain ⟨own, _, _, _, _⟩ := h
  obtain ⟨p, m, cap, rfl⟩ := ownsRow_shape own
  rfl

set_option maxRecDepth 100000 in
set_option maxHeartbeats 4000000 in
theorem view_step (F : Nat → Prop) (bm : Nat) (M : QMaps) (kids : QId → List QEntry) (p : QId) (w : World) (hm : MapsIn w F bm M) (hsz : ∀ o ∈ M.ops, o.key.size ≤ maxLen) (hlen : M.ops.length ≤ 100000)
    (hkids : ∀ k o, M.get p k = some o → o.v.kind = 5 → ∀ W, Below w.heap.size w W → Calls Try.prog 24 #[.pointer (some ⟨bm, 0, none⟩), .agg #[.int .u64 o.id.c, .int .u64 o.id.k]] W (RetW (ViewR W (kids o.id)))) :
    Calls Try.prog 24 #[.pointer (some ⟨bm, 0, none⟩), .agg #[.int .u64 p.c, .int .u64 p.k]] w (RetW (ViewR w (viewWith M kids p))) := by
  obtain ⟨L, hL, hF⟩ := hm
  obtain ⟨vl, hvl⟩ : ∃ vl, viewWith M kids p = vl := ⟨_, rfl⟩
  rw [hvl]
  have hB0 : Below w.heap.size w (w.alloc (.cells #[.int .u64 p.c, .int .u64 p.k] 34)) := by (repeat (first | exact Below.refl _ _ | assumption | refine Below.alloc ?_ (by simp <;> omega) _ | refine Below.drew ?_ | refine below_drewN ?_ _ | refine Below.setCell ?_ (by simp <;> omega) _ | refine belowTrans ?_ (by assumption)))
  obtain ⟨ix, hix, hz0, hz1, hz2⟩ := info_parts infoEnt
  go_enter Try.func24, Try.ntmps24
  go_wp2_with fail
  obtain ⟨W, hW⟩ : ∃ W, w.alloc (.cells #[.int .u64 p.c, .int .u64 p.k] 34) = W := ⟨_, rfl⟩
  have b0 : W.heap[w.heap.size]? = some (.cells #[.int .u64 p.c, .int .u64 p.k] 34 (0, 0)) := by subst hW; (simp only [alloc_heap_if, World.size_alloc]; repeat (first | rw [if_pos rfl] | rw [if_pos trivial] | rw [if_pos (by omega)] | rw [if_neg (by omega)]))
  have hs : W.heap.size = w.heap.size + 1 := by subst hW; simp
  rw [hW] at hB0 ⊢
  clear hW
  have Hs := Lib.hid hs
  have hs1 : w.heap.size + 1 ≤ W.heap.size := by omega
  clear hs
  have hL1 := hL.below hB0
  have c0 : ∀ s : MStep (fun _ => False) W, s.val.cell? ⟨bm, 1, none⟩ = some (.map (some L.inn)) := MStep.cell (hL1.foot_lt _ (.inl rfl)) id (by simp [World.cell?, hL1.st])
  have i0 : ∀ s : MStep (fun _ => False) W, s.val.cell? ⟨w.heap.size, 0, none⟩ = some (.int .u64 p.c) := MStep.cell (by show w.heap.size < _; omega) id (by simp [World.cell?, b0])
  have i1 : ∀ s : MStep (fun _ => False) W, s.val.cell? ⟨w.heap.size, 1, none⟩ = some (.int .u64 p.k) := MStep.cell (by show w.heap.size < _; omega) id (by simp [World.cell?, b0])
  have k1 : ∀ s : MStep (fun _ => False) W, (Instr.lookup 66 (.map (some L.inn)) (.agg #[.int .u64 p.c, .int .u64 p.k]) false).run Try.prog s.val = .ok (.map (innBlk L p)) s.val :=
    fun s => look_inn (hL1.keep fun b hb => s.h.block b (hL1.foot_lt b hb) id) p
  refine wp_region_flow 10 [0, 1, 2, 3, 4, 5, 9] [6, 7, 8] (fun w' => ∃ s : MStep (fun _ => False) W, w' = s.val) (by kernel_rfl) (by kernel_rfl) (fun _ _ d _ _ h => by cases d <;> exact h) (MStep.to (Mods.refl _ _).drew) ?_
  simp only [List.map_cons, List.map_nil, List.getElem?_cons_succ, List.getElem?_cons_zero, Option.getD_some]
  repeat (first | go_big_quiet_skip | (go_big_quiet_want; first | (fail; go_frame; go_big_quiet_on) | (go_big_quiet_op; go_big_quiet_on)))
  refine wpQuiet_nil ?_
  refine wpSeqF_step rfl ?_; simp only [List.getElem_toArray, List.getElem_cons_succ, List.getElem_cons_zero]
  go_wp2_with (go_at_call 52; refine (mapsKeys_any _ _).mono ?_; rintro e w1 ⟨rfl, rfl⟩)
  refine ⟨MStep.to (((Mods.refl _ W).alloc _).drew), ?_⟩
  refine wpSeqF_step rfl ?_; simp only [List.getElem_toArray, List.getElem_cons_succ, List.getElem_cons_zero]
  obtain ⟨W1, hW1⟩ : ∃ W1, (W.alloc (.cells #[.map (innBlk L p)] 71)).drew = W1 := ⟨_, rfl⟩
  have hSrt : Calls Try.prog 51 #[.func (.func 68) #[] #[.pointer (some ⟨W.heap.size, 0, none⟩)]] W1 (RetW fun v w' => OwnAt W.heap.size 9 1 encStrB w' v (sortKeys (keysAt M.ops p)) ∧ Below W1.heap.size W1 w') := by
    rw [← hW1]
    exact sortedKeys_at (w := W.drew) (hL1.below ((Below.refl _ _).drew)) p hsz hlen
  have hB1 : Below W.heap.size W W1 := by rw [← hW1]; (repeat (first | exact Below.refl _ _ | assumption | refine Below.alloc ?_ (by simp <;> omega) _ | refine Below.drew ?_ | refine below_drewN ?_ _ | refine Below.setCell ?_ (by simp <;> omega) _ | refine belowTrans ?_ (by assumption)))
  rw [hW1]
  clear hW1
  go_wp2_with fail
  refine Calls.mono hSrt ?_
  rintro e w2 ⟨sv, rfl, hsv, hb2⟩
  have hB2 : Below W.heap.size W w2 := hB1.trans (hb2.mono hB1.size)
  go_wp2_with fail
  refine ⟨MStep.to (Mods.of_below hB2), ?_⟩
  obtain ⟨ks, hks⟩ : ∃ ks, sortKeys (keysAt M.ops p) = ks := ⟨_, rfl⟩
  rw [hks] at hsv
  have hv2 : vl = ks.filterMap (viewOne M kids p) := by rw [← hvl, ← hks]; rfl
  have Hv2 := Lib.hid hv2
  have hkl : ks.length ≤ 100000 := by rw [← hks, (sortKeys_perm _).length_eq]; exact Nat.le_trans (keysAt_length p M.ops) hlen
  clear hvl hks hv2 k1 c0 i0 i1 hSrt
  have hss := OwnAt.slice (k := 1) (enc := encStrB) (fun _ => rfl) hsv
  obtain ⟨q, ncap, rfl, hl9, hcell⟩ := hss.shape
  clear hss
  refine wpSeqF_step rfl ?_; simp only [List.getElem_toArray, List.getElem_cons_succ, List.getElem_cons_zero]
  go_wp2_with fail
  refine ⟨MStep.to (Mods.of_below hB2), ?_⟩
  refine wpSeqF_nil ?_
  have hC2 : Below w.heap.size w w2 := hB0.trans (hB2.mono hB0.size)
  have hs2 : w.heap.size + 1 ≤ w2.heap.size := by have := hB2.size; omega
  have b2 : w2.heap[w.heap.size]? = some (.cells #[.int .u64 p.c, .int .u64 p.k] 34 (0, 0)) := (hB2.block _ (by omega)).trans b0
  clear hB1 hb2 hB2 b0 hL1 hB0 hs1 Hs hsv
  clear W1
  go_wp2_with fail
  go_loopw [5, 20] (fun out i wr => ∃ (j : Nat) (es : List QRec), j ≤ ks.length ∧ i = .int .i64 j ∧ RowsAt w2.heap.size wr out es ((ks.take j).filterMap (viewOne M kids p)) ∧ Below w2.heap.size w2 wr) (fun _ i _ => ks.length - (intOf i).toNat)
  case atStart => exact ⟨0, [], Nat.zero_le _, rfl, RowsAt.nil, Below.refl _ _⟩
  case round =>
    obtain ⟨j, es, hj, rfl, hrow, hb⟩ := hrel
    by_cases hlt : j < ks.length
    · obtain ⟨k, hk⟩ : ∃ k, ks[j]? = some k := ⟨ks[j], by simp [hlt]⟩
      obtain ⟨b, off, rfl, hbl, hc⟩ := hcell j k hk
      have cK : wr.cell? ⟨b, off + j, none⟩ = some (.string k) := (hb.cell (p := ⟨b, off + j, none⟩) hbl).trans (by simpa using hc 0 _ rfl)
      have ht : ks.take (j + 1) = ks.take j ++ [k] := by rw [List.take_add_one, hk]; rfl
      have br : wr.heap[w.heap.size]? = some (.cells #[.int .u64 p.c, .int .u64 p.k] 34 (0, 0)) := (hb.block _ (by omega)).trans b2
      have p0 : wr.cell? ⟨w.heap.size, 0, none⟩ = some (.int .u64 p.c) := by simp [World.cell?, br]
      have p1 : wr.cell? ⟨w.heap.size, 1, none⟩ = some (.int .u64 p.k) := by simp [World.cell?, br]
      have hbw : Below w.heap.size w wr := hC2.trans (hb.mono hC2.size)
      have hMr : MapsIn wr F bm M := ⟨L, hL.below hbw, hF⟩
      go_wp2_with fail
      refine (get_any F bm M p k _ hMr).mono ?_
      rintro e w3 ⟨rfl, hb3⟩
      have hesl : es.length ≤ 100000 := by
        rw [hrow.len]
        refine Nat.le_trans (List.length_filterMap_le _ _) (Nat.le_trans (List.length_take_le _ _) ?_)
        omega
      obtain ⟨go, hgo⟩ : ∃ go, M.get p k = go := ⟨_, rfl⟩
      rw [hgo]
      have hb3w : Below w2.heap.size w2 w3 := hb.trans (hb3.mono hb.size)
      have bz : OpBox (w3.alloc (.cells #[.int .u64 opZero.id.c, .int .u64 opZero.id.k, .int .i64 opZero.kind, .int .u64 opZero.stamp, .int .u64 opZero.left.c, .int .u64 opZero.left.k, .int .u64 opZero.right.c, .int .u64 opZero.right.k, .string opZero.text, .int .i64 opZero.v.kind, .int .i64 opZero.v.n, .float .f64 opZero.v.f, .string opZero.v.s, .string opZero.key, .int .u64 opZero.parent.c, .int .u64 opZero.parent.k, .int .u64 opZero.frm.c, .int .u64 opZero.frm.k, .bool opZero.frmA, .int .u64 opZero.til.c, .int .u64 opZero.til.k, .bool opZero.tilA] 41)) w3.heap.size opZero := OpBox.new _ _
      have hrow3 : ∀ o, RowsAt w2.heap.size (putOp (w3.alloc (.cells #[.int .u64 opZero.id.c, .int .u64 opZero.id.k, .int .i64 opZero.kind, .int .u64 opZero.stamp, .int .u64 opZero.left.c, .int .u64 opZero.left.k, .int .u64 opZero.right.c, .int .u64 opZero.right.k, .string opZero.text, .int .i64 opZero.v.kind, .int .i64 opZero.v.n, .float .f64 opZero.v.f, .string opZero.v.s, .string opZero.key, .int .u64 opZero.parent.c, .int .u64 opZero.parent.k, .int .u64 opZero.frm.c, .int .u64 opZero.frm.k, .bool opZero.frmA, .int .u64 opZero.til.c, .int .u64 opZero.til.k, .bool opZero.tilA] 41)) w3.heap.size o) u5 es ((ks.take j).filterMap (viewOne M kids p)) := fun o =>
        hrow.under (below_putOp (hb3.alloc hb3.size _) hb3.size _)
      rcases go with _ | o
      · simp only [Option.getD_none, Option.isSome_none]
        have hz3 : w2.heap.size ≤ w3.heap.size := hb3w.size
        have hB4 : Below w2.heap.size w2 (putOp (w3.alloc (.cells #[.int .u64 opZero.id.c, .int .u64 opZero.id.k, .int .i64 opZero.kind, .int .u64 opZero.stamp, .int .u64 opZero.left.c, .int .u64 opZero.left.k, .int .u64 opZero.right.c, .int .u64 opZero.right.k, .string opZero.text, .int .i64 opZero.v.kind, .int .i64 opZero.v.n, .float .f64 opZero.v.f, .string opZero.v.s, .string opZero.key, .int .u64 opZero.parent.c, .int .u64 opZero.parent.k, .int .u64 opZero.frm.c, .int .u64 opZero.frm.k, .bool opZero.frmA, .int .u64 opZero.til.c, .int .u64 opZero.til.k, .bool opZero.tilA] 41)) w3.heap.size opZero) := below_putOp (hb3w.alloc hz3 _) hz3 _
        have hrow4 := hrow3 opZero
        go_wp2_with (refine wpList_store_eq (T := 41) rfl rfl rfl rfl (OpBox.store bz opZero) ?_)
        go_roundw
        case rel =>
          refine ⟨j + 1, es, by omega, by go_num, ?_, ?_⟩
          · rw [ht, List.filterMap_append]
            simp only [List.filterMap_cons, List.filterMap_nil]
            rw [show viewOne M kids p k = none by unfold viewOne; rw [hgo]]
            simp only [List.append_nil]
            exact hrow4
          · exact hB4
        case measure => simp [intOf]; omega
      · simp only [Option.getD_some, Option.isSome_some]
        have hz3 : w2.heap.size ≤ w3.heap.size := hb3w.size
        have hB4 : Below w2.heap.size w2 (putOp (w3.alloc (.cells #[.int .u64 opZero.id.c, .int .u64 opZero.id.k, .int .i64 opZero.kind, .int .u64 opZero.stamp, .int .u64 opZero.left.c, .int .u64 opZero.left.k, .int .u64 opZero.right.c, .int .u64 opZero.right.k, .string opZero.text, .int .i64 opZero.v.kind, .int .i64 opZero.v.n, .float .f64 opZero.v.f, .string opZero.v.s, .string opZero.key, .int .u64 opZero.parent.c, .int .u64 opZero.parent.k, .int .u64 opZero.frm.c, .int .u64 opZero.frm.k, .bool opZero.frmA, .int .u64 opZero.til.c, .int .u64 opZero.til.k, .bool opZero.tilA] 41)) w3.heap.size o) := below_putOp (hb3w.alloc hz3 _) hz3 _
        have hq := bz.put o
        have hz4 : (putOp (w3.alloc (.cells #[.int .u64 opZero.id.c, .int .u64 opZero.id.k, .int .i64 opZero.kind, .int .u64 opZero.stamp, .int .u64 opZero.left.c, .int .u64 opZero.left.k, .int .u64 opZero.right.c, .int .u64 opZero.right.k, .string opZero.text, .int .i64 opZero.v.kind, .int .i64 opZero.v.n, .float .f64 opZero.v.f, .string opZero.v.s, .string opZero.key, .int .u64 opZero.parent.c, .int .u64 opZero.parent.k, .int .u64 opZero.frm.c, .int .u64 opZero.frm.k, .bool opZero.frmA, .int .u64 opZero.til.c, .int .u64 opZero.til.k, .bool opZero.tilA] 41)) w3.heap.size o).heap.size = w3.heap.size + 1 := by simp
        have Hz4 := Lib.hid hz4
        have hrow4 := hrow3 o
        clear hz4
        have hsf := store_float
        cases h5 : (o.v.kind == 5)
        · go_wp2_with (first | (refine wpList_store_eq (T := 41) rfl rfl rfl rfl (OpBox.store bz o) ?_; generalize (putOp (w3.alloc (.cells #[.int .u64 opZero.id.c, .int .u64 opZero.id.k, .int .i64 opZero.kind, .int .u64 opZero.stamp, .int .u64 opZero.left.c, .int .u64 opZero.left.k, .int .u64 opZero.right.c, .int .u64 opZero.right.k, .string opZero.text, .int .i64 opZero.v.kind, .int .i64 opZero.v.n, .float .f64 opZero.v.f, .string opZero.v.s, .string opZero.key, .int .u64 opZero.parent.c, .int .u64 opZero.parent.k, .int .u64 opZero.frm.c, .int .u64 opZero.frm.k, .bool opZero.frmA, .int .u64 opZero.til.c, .int .u64 opZero.til.k, .bool opZero.tilA] 41)) w3.heap.size o) = W4 at hq hB4 Hz4 hrow4 ⊢; have q9 : W4.cell? ⟨w3.heap.size, 9, none⟩ = some (.int .i64 o.v.kind) := hq.cells 9 _ rfl; have q10 : W4.cell? ⟨w3.heap.size, 10, none⟩ = some (.int .i64 o.v.n) := hq.cells 10 _ rfl; have q11 : W4.cell? ⟨w3.heap.size, 11, none⟩ = some (.float .f64 o.v.f) := hq.cells 11 _ rfl; have q12 : W4.cell? ⟨w3.heap.size, 12, none⟩ = some (.string o.v.s) := hq.cells 12 _ rfl) | (go_at_call 22; refine (valClean_any o.v _).mono ?_; rintro e w5 ⟨rfl, hb5⟩; clear q9 q10 q11 q12; have hq5 := hq.below hb5 (by have := Hz4.out; omega); have q9 : w5.cell? ⟨w3.heap.size, 9, none⟩ = some (.int .i64 o.v.kind) := hq5.cells 9 _ rfl; have hlt5 : w3.heap.size < w5.heap.size := (by have := hb5.size; have := Hz4.out; omega); have hz5 : w2.heap.size ≤ w5.heap.size := (by omega); have hB5 : Below w2.heap.size w2 w5 := hB4.trans (hb5.mono hB4.size); have hr5 := hrow4.under hb5; have hn5 : ∀ b, u5.ownBlock = some b → b < w5.heap.size := (fun b e => (World.ownsRow.lt hr5.own b e).2); have hrow6 := (hrow4.under hb5).under ((Below.refl _ _).alloc (Nat.le_refl _) (.cells (encRec ⟨k, o.v.clean, .slice none 0 0⟩).toArray 56))) | (at_builtin; refine wpList_append_own_at _ rfl _ _ 44 rfl w2.heap.size 56 ix (.agg #[.string ⟨#[]⟩, .int .i64 0, .int .i64 0, .float .f64 0, .string ⟨#[]⟩, .slice none 0 0]) 6 80 Try.underlying44 hix hz0 hz1 hz2 rfl (by decide) _ _ _ rfl ((hrow6.own.alloc _)) ⟨w5.heap.size + 1, 0, none⟩ 1 1 (encRec ⟨k, o.v.clean, .slice none 0 0⟩) rfl rfl ?a1 ?a2 ?a3 ?a4 ?a5 ?_))
          case a1 => exact entCells _ _ ⟨k, o.v.clean, .slice none 0 0⟩ (by simp)
          case a2 => exact entOne _ rfl
          case a3 => unfold maxLen; omega
          case a4 => omega
          case a5 => simp; omega
          intro v' w8 hown8 hgrow8 hnil8 hblk8
          have hrow8 := RowsAt.add (hrow6.under ((Below.refl _ _).alloc (Nat.le_refl _) (.cells (encRec ⟨k, o.v.clean, .slice none 0 0⟩).toArray 56))) (e := ⟨k, o.v.clean, .slice none 0 0⟩) (q := .mk k o.v.clean []) ⟨rfl, rfl⟩ EntAt.nil (by unfold OwnAt; rw [List.length_append, List.flatMap_append]; simpa using hown8) hgrow8 (by rw [World.size_alloc, World.size_alloc]; exact hblk8)
          go_wp2_with fail
          go_roundw
          case rel =>
            refine ⟨j + 1, es ++ [⟨k, o.v.clean, .slice none 0 0⟩], by omega, by go_num, ?_, ?_⟩
            · rw [ht, List.filterMap_append]
              simp only [List.filterMap_cons, List.filterMap_nil]
              rw [show viewOne M kids p k = some (.mk k o.v.clean []) by unfold viewOne; rw [hgo]; simp at h5; simp [h5]]
              exact hrow8
            · exact ((hB5.alloc hz5 _).alloc (by simp; omega) _).grown hgrow8 (by simp; omega) (fun b e => (World.ownsRow.lt hrow6.own b e).1)
          case measure => simp [intOf]; omega
        · have H5 : Hid (o.v.kind = 5) := Lib.hid (by simpa using h5)
          go_wp2_with (first | (refine wpList_store_eq (T := 41) rfl rfl rfl rfl (OpBox.store bz o) ?_; generalize (putOp (w3.alloc (.cells #[.int .u64 opZero.id.c, .int .u64 opZero.id.k, .int .i64 opZero.kind, .int .u64 opZero.stamp, .int .u64 opZero.left.c, .int .u64 opZero.left.k, .int .u64 opZero.right.c, .int .u64 opZero.right.k, .string opZero.text, .int .i64 opZero.v.kind, .int .i64 opZero.v.n, .float .f64 opZero.v.f, .string opZero.v.s, .string opZero.key, .int .u64 opZero.parent.c, .int .u64 opZero.parent.k, .int .u64 opZero.frm.c, .int .u64 opZero.frm.k, .bool opZero.frmA, .int .u64 opZero.til.c, .int .u64 opZero.til.k, .bool opZero.tilA] 41)) w3.heap.size o) = W4 at hq hB4 Hz4 hrow4 ⊢; have q9 : W4.cell? ⟨w3.heap.size, 9, none⟩ = some (.int .i64 o.v.kind) := hq.cells 9 _ rfl; have q10 : W4.cell? ⟨w3.heap.size, 10, none⟩ = some (.int .i64 o.v.n) := hq.cells 10 _ rfl; have q11 : W4.cell? ⟨w3.heap.size, 11, none⟩ = some (.float .f64 o.v.f) := hq.cells 11 _ rfl; have q12 : W4.cell? ⟨w3.heap.size, 12, none⟩ = some (.string o.v.s) := hq.cells 12 _ rfl) | (go_at_call 22; refine (valClean_any o.v _).mono ?_; rintro e w5 ⟨rfl, hb5⟩; clear q9 q10 q11 q12; have hq5 := hq.below hb5 (by have := Hz4.out; omega); have q9 : w5.cell? ⟨w3.heap.size, 9, none⟩ = some (.int .i64 o.v.kind) := hq5.cells 9 _ rfl; have hlt5 : w3.heap.size < w5.heap.size := (by have := hb5.size; have := Hz4.out; omega); have hz5 : w2.heap.size ≤ w5.heap.size := (by omega); have hB5 : Below w2.heap.size w2 w5 := hB4.trans (hb5.mono hB4.size); have hr5 := hrow4.under hb5; have hn5 : ∀ b, u5.ownBlock = some b → b < w5.heap.size := (fun b e => (World.ownsRow.lt hr5.own b e).2); have hrow6 := (hrow4.under hb5).under ((Below.refl _ _).alloc (Nat.le_refl _) (.cells (encRec ⟨k, o.v.clean, .slice none 0 0⟩).toArray 56)); have q0 : w5.cell? ⟨w3.heap.size, 0, none⟩ = some (.int .u64 o.id.c) := hq5.cells 0 _ rfl; have q1 : w5.cell? ⟨w3.heap.size, 1, none⟩ = some (.int .u64 o.id.k) := hq5.cells 1 _ rfl))
          clear q9 q0 q1
          obtain ⟨W6, hW6⟩ : ∃ W6, w5.alloc (.cells (encRec ⟨k, o.v.clean, .slice none 0 0⟩).toArray 56) = W6 := ⟨_, rfl⟩
          have hx6 : W6.heap[w5.heap.size]? = some (.cells (encRec ⟨k, o.v.clean, .slice none 0 0⟩).toArray 56 (0, 0)) := by rw [← hW6]; exact heap_alloc_new w5 _
          have hB6 : Below w2.heap.size w2 W6 := by rw [← hW6]; exact hB5.alloc hz5 _
          have hs6 : W6.heap.size = w5.heap.size + 1 := by rw [← hW6]; simp
          have Hs6 := Lib.hid hs6
          have hb56 : Below w5.heap.size w5 W6 := by rw [← hW6]; (repeat (first | exact Below.refl _ _ | assumption | refine Below.alloc ?_ (by simp <;> omega) _ | refine Below.drew ?_ | refine below_drewN ?_ _ | refine Below.setCell ?_ (by simp <;> omega) _ | refine belowTrans ?_ (by assumption)))
          have hs6' : w5.heap.size < W6.heap.size := by omega
          rw [hW6] at hrow6
          change Calls _ _ _ (w5.alloc (.cells (encRec ⟨k, o.v.clean, .slice none 0 0⟩).toArray 56)) _
          rw [hW6]
          clear hs6 hW6 hq5 hb5 hrow4 hB5 hlt5
          refine Calls.mono (hkids k o hgo H5.out W6 (hC2.trans (hB6.mono hC2.size))) ?_
          rintro e w7 ⟨v7, rfl, hv7, hb7⟩
          have hx7 := (hb7.block _ hs6').trans hx6
          have hB7 : Below w2.heap.size w2 w7 := hB6.trans (hb7.mono hB6.size)
          have hrow7 := hrow6.under hb7
          have hz7 : w2.heap.size ≤ w7.heap.size := hB7.size
          have hz67 : W6.heap.size ≤ w7.heap.size := hb7.size
          have hn7 : u5.ownBlock ≠ some w5.heap.size := fun e => by have := hn5 _ e; omega
          obtain ⟨p7, m7, c7, rfl⟩ : ∃ p m c, v7 = .slice p m c := by
            obtain ⟨own, _, _, _, _⟩ := hv7
            exact ownsRow_shape own
          have f5 : w7.frozen? ⟨w5.heap.size, 5, none⟩ = false := by simp [World.frozen?, hx7]
          have e0 : w7.cell? ⟨w5.heap.size, 0, none⟩ = some (.string k) := by simp [World.cell?, hx7, encRec]
          have e1 : w7.cell? ⟨w5.heap.size, 1, none⟩ = some (.int .i64 o.v.clean.kind) := by simp [World.cell?, hx7, encRec]
          have e2 : w7.cell? ⟨w5.heap.size, 2, none⟩ = some (.int .i64 o.v.clean.n) := by simp [World.cell?, hx7, encRec]
          have e3 : w7.cell? ⟨w5.heap.size, 3, none⟩ = some (.float .f64 o.v.clean.f) := by simp [World.cell?, hx7, encRec]
          have e4 : w7.cell? ⟨w5.heap.size, 4, none⟩ = some (.string o.v.clean.s) := by simp [World.cell?, hx7, encRec]
          have e5 : w7.cell? ⟨w5.heap.size, 5, none⟩ = some (.slice none 0 0) := by simp [World.cell?, hx7, encRec]
          have hrow9 : RowsAt w2.heap.size (w7.setCell ⟨w5.heap.size, 5, none⟩ (.slice p7 m7 c7)) u5 es ((ks.take j).filterMap (viewOne M kids p)) := hr5.keep (by simp; omega) fun b _ hb => by
            rw [Below.heap_setCell _ _ _ _ (by show b ≠ w5.heap.size; omega), hb7.block b (by omega), hb56.block b hb]
          go_wp2_with (at_builtin; refine wpList_append_own_at _ rfl _ _ 44 rfl w2.heap.size 56 ix (.agg #[.string ⟨#[]⟩, .int .i64 0, .int .i64 0, .float .f64 0, .string ⟨#[]⟩, .slice none 0 0]) 6 80 Try.underlying44 hix hz0 hz1 hz2 rfl (by decide) _ _ _ rfl ((hrow9.own.alloc _)) ⟨w7.heap.size, 0, none⟩ 1 1 (encRec ⟨k, o.v.clean, .slice p7 m7 c7⟩) rfl rfl ?b1 ?b2 ?b3 ?b4 ?b5 ?_)
          case b1 => exact entCells (w7.setCell ⟨w5.heap.size, 5, none⟩ (.slice p7 m7 c7)) _ ⟨k, o.v.clean, .slice p7 m7 c7⟩ (by simp)
          case b2 => exact entOne _ rfl
          case b3 => unfold maxLen; omega
          case b4 => omega
          case b5 => simp; omega
          intro v' w8 hown8 hgrow8 hnil8 hblk8
          have hkid : EntAt (fun b => w2.heap.size ≤ b ∧ b < ((w7.setCell ⟨w5.heap.size, 5, none⟩ (.slice p7 m7 c7)).alloc (.cells (encRec ⟨k, o.v.clean, .slice p7 m7 c7⟩).toArray 56)).heap.size ∧ u5.ownBlock ≠ some b) ((w7.setCell ⟨w5.heap.size, 5, none⟩ (.slice p7 m7 c7)).alloc (.cells (encRec ⟨k, o.v.clean, .slice p7 m7 c7⟩).toArray 56)) (.slice p7 m7 c7) (kids o.id) := by
            refine (hv7.lt.keep fun b hb hlt => ?_).mono fun b hb => ⟨by have := hb.1; omega, by rw [World.size_alloc, World.size_setCell]; have := hb.2; omega, fun e => ?_⟩
            · rw [Below.heap_alloc _ _ _ (by rw [World.size_setCell]; exact hb.2), Below.heap_setCell _ _ _ _ (by show b ≠ w5.heap.size; have := hb.1; omega)]
            · have h1 := hn5 _ e; have h2 := hb.1; omega
          have hrow8 := RowsAt.add (hrow9.under ((Below.refl _ _).alloc (Nat.le_refl _) (.cells (encRec ⟨k, o.v.clean, .slice p7 m7 c7⟩).toArray 56))) (e := ⟨k, o.v.clean, .slice p7 m7 c7⟩) (q := .mk k o.v.clean (kids o.id)) ⟨rfl, rfl⟩ hkid (by unfold OwnAt; rw [List.length_append, List.flatMap_append]; simpa using hown8) hgrow8 (by rw [World.size_alloc, World.size_setCell]; exact hblk8)
          go_wp2_with fail
          go_roundw
          case rel =>
            refine ⟨j + 1, es ++ [⟨k, o.v.clean, .slice p7 m7 c7⟩], by omega, by go_num, ?_, ?_⟩
            · rw [ht, List.filterMap_append]
              simp only [List.filterMap_cons, List.filterMap_nil]
              rw [show viewOne M kids p k = some (.mk k o.v.clean (kids o.id)) by unfold viewOne; rw [hgo]; simp only [if_pos H5.out]]
              exact hrow8
            · exact (((hB7.setCell (show w2.heap.size ≤ w5.heap.size from hz5) _).alloc (by simp; omega) _).grown hgrow8 (by simp; omega) (fun b e => (World.ownsRow.lt hrow9.own b e).1))
          case measure => simp [intOf]; omega
    · obtain rfl : j = ks.length := by omega
      rw [List.take_length, ← Hv2.out] at hrow
      have hend : RetW (ViewR w vl) (.returned u5) wr := ⟨u5, rfl, .mk (ownsRow_base hrow.own (Nat.zero_le _)) (fun b e => by have := (World.ownsRow.lt hrow.own b e).1; omega) hrow.len hrow.hd (fun i e q h1 h2 => (hrow.kids i e q h1 h2).mono fun b hb => by have := hb.1; omega), hC2.trans (hb.mono hC2.size)⟩
      go_wp2_with fail
      go_ret
      exact hend

/-- all that is in a map, whatever its depth. -/
theorem viewN_any (F : Nat → Prop) (bm : Nat) (M : QMaps) (hw : MWf M.ops) (hsz : ∀ o ∈ M.ops, o.key.size ≤ maxLen) (hlen : M.ops.length ≤ 100000) : ∀ (n i : Nat) (p : QId) (w : World), MapsIn w F bm M → From M.ops i p → M.ops.length ≤ i + n →
    Calls Try.prog 24 #[.pointer (some ⟨bm, 0, none⟩), .agg #[.int .u64 p.c, .int .u64 p.k]] w (RetW (ViewR w (M.viewN (n + 1) p)))
  | 0, i, p, w, hm, hf, hn => by
    rw [← viewWith_viewN]
    refine view_step F bm M (M.viewN 0) p w hm hsz hlen fun k o hg _ _ _ => ?_
    have := (From.kid hw hf hg).1
    omega
  | n + 1, i, p, w, hm, hf, hn => by
    rw [← viewWith_viewN]
    refine view_step F bm M (M.viewN (n + 1)) p w hm hsz hlen fun k o hg _ W hW => ?_
    exact viewN_any F bm M hw hsz hlen n (i + 1) o.id W (hm.below hW) (From.kid hw hf hg).2 (by omega)

set_option maxHeartbeats 400000 in
theorem view_any (F : Nat → Prop) (bm : Nat) (M : QMaps) (w : World) (hm : MapsIn w F bm M) (hw : MWf M.ops) (hsz : ∀ o ∈ M.ops, o.key.size ≤ maxLen) (hlen : M.ops.length ≤ 100000) :
    Calls Try.prog 13 #[.pointer (some ⟨bm, 0, none⟩)] w (RetW (ViewR w M.view)) := by
  go_enter Try.func13, Try.ntmps13
  go_wp2_with fail
  refine Calls.mono (viewN_any F bm M hw hsz hlen M.ops.length 0 idZero _ hm (From.zero _ _) (by omega)) ?_
  rintro e w1 ⟨v, rfl, hv⟩
  have hend : RetW (ViewR w M.view) (.returned v) w1 := ⟨v, rfl, hv⟩
  go_wp2_with fail
  go_ret
  exact hend
end Go.Proofs.Yteadongdlacgmaa
