/- Walk: maps.Find. -/
import Derived.Test.YteadongdlacgmaaGetW
namespace Go.Proofs.Yteadongdlacgmaa
open Go.RowKit

def encStrB (k : ByteArray) : List Value := [.string k]

theorem findFrom_snoc (M : QMaps) : ∀ (ks : List ByteArray) (i : QId), M.findFrom i ks = ks.foldl (fun (r : Option QId) k => r.bind fun i => match M.get i k with | some o => if o.v.kind = 5 then some o.id else none | none => none) (some i)
  | [], i => rfl
  | k :: ks, i => by
    rw [List.foldl_cons]
    unfold QMaps.findFrom
    have hn : ∀ ks : List ByteArray, ks.foldl (fun (r : Option QId) k => r.bind fun i => match M.get i k with | some o => if o.v.kind = 5 then some o.id else none | none => none) none = none := by
      intro ks
      induction ks with
      | nil => rfl
      | cons k ks ih => rw [List.foldl_cons]; exact ih
    cases h : M.get i k with
    | none => simp only [Option.bind_some, h]; exact (hn ks).symm
    | some o =>
      simp only [Option.bind_some, h]
      by_cases hk : o.v.kind = 5
      · rw [if_pos hk, if_pos hk]; exact findFrom_snoc M ks o.id
      · rw [if_neg hk, if_neg hk]; exact (hn ks).symm

theorem idset0 {W : World} {b : Nat} {x y u : Value} {t : TypeId} (h : W.heap[b]? = some (.cells #[x, y] t (0, 0))) : (W.setCell ⟨b, 0, none⟩ u).cell? ⟨b, 0, none⟩ = some u := by
  simp [World.cell?, World.setCell, Array.getElem?_modify, h]
theorem idset1 {W : World} {b : Nat} {x y u v : Value} {t : TypeId} (h : W.heap[b]? = some (.cells #[x, y] t (0, 0))) : ((W.setCell ⟨b, 0, none⟩ u).setCell ⟨b, 1, none⟩ v).cell? ⟨b, 1, none⟩ = some v := by
  simp [World.cell?, World.setCell, Array.getElem?_modify, h]

set_option maxHeartbeats 400000 in
theorem find_any (F : Nat → Prop) (bm : Nat) (M : QMaps) (sv : Value) (ks : List ByteArray) (w : World) (hm : MapsIn w F bm M) (hl : SliceAt 1 encStrB w sv ks) :
    Calls Try.prog 16 #[.pointer (some ⟨bm, 0, none⟩), sv] w fun e w' => e = .returned (.tuple #[.agg #[.int .u64 ((M.findFrom idZero ks).getD idZero).c, .int .u64 ((M.findFrom idZero ks).getD idZero).k], .bool (M.findFrom idZero ks).isSome]) ∧ Below w.heap.size w w' := by
  obtain ⟨q, ncap, rfl⟩ : ∃ q n, sv = .slice q ks.length n := by
    rcases hl with ⟨h, h'⟩ | ⟨b, off, cap, h, _⟩
    · exact ⟨_, _, by rw [h, h']; rfl⟩
    · exact ⟨_, _, h⟩
  obtain ⟨res, hre⟩ : ∃ res, M.findFrom idZero ks = res := ⟨_, rfl⟩
  rw [hre]
  have hB0 : Below w.heap.size w ((w.alloc (.cells #[.int .u64 0, .int .u64 0] 34)).alloc (.cells #[.int .u64 0, .int .u64 0] 34)) := by (repeat (first | exact Below.refl _ _ | assumption | refine Below.alloc ?_ (by simp <;> omega) _ | refine Below.drew ?_ | refine below_drewN ?_ _ | refine Below.setCell ?_ (by simp <;> omega) _ | refine belowTrans ?_ (by assumption)))
  go_enter Try.func16, Try.ntmps16
  go_wp2_with fail
  obtain ⟨W, hW⟩ : ∃ W, (w.alloc (.cells #[.int .u64 0, .int .u64 0] 34)).alloc (.cells #[.int .u64 0, .int .u64 0] 34) = W := ⟨_, rfl⟩
  have c0 : W.heap[w.heap.size]? = some (.cells #[.int .u64 0, .int .u64 0] 34 (0, 0)) := by subst hW; (simp only [alloc_heap_if, World.size_alloc]; repeat (first | rw [if_pos rfl] | rw [if_pos trivial] | rw [if_pos (by omega)] | rw [if_neg (by omega)]))
  have c1 : W.heap[w.heap.size + 1]? = some (.cells #[.int .u64 0, .int .u64 0] 34 (0, 0)) := by subst hW; (simp only [alloc_heap_if, World.size_alloc]; repeat (first | rw [if_pos rfl] | rw [if_pos trivial] | rw [if_pos (by omega)] | rw [if_neg (by omega)]))
  have hs : W.heap.size = w.heap.size + 2 := by subst hW; simp
  rw [hW] at hB0 ⊢
  clear hW
  go_loopw [13] (fun i wr => ∃ (j : Nat) (x : QId), j ≤ ks.length ∧ i = .int .i64 j ∧ M.findFrom x (ks.drop j) = res ∧ Below w.heap.size w wr ∧ w.heap.size + 2 ≤ wr.heap.size ∧ wr.heap[w.heap.size]? = some (.cells #[.int .u64 0, .int .u64 0] 34 (0, 0)) ∧ wr.heap[w.heap.size + 1]? = some (.cells #[.int .u64 x.c, .int .u64 x.k] 34 (0, 0))) (fun i _ => ks.length - (intOf i).toNat)
  case atStart => exact ⟨0, idZero, Nat.zero_le _, rfl, hre, hB0, by omega, c0, c1⟩
  case round =>
    obtain ⟨j, x, hj, rfl, hx, hb, hs, g0, g1⟩ := hrel
    have e0 : wr.cell? ⟨w.heap.size + 1, 0, none⟩ = some (.int .u64 x.c) := by simp [World.cell?, g1]
    have e1 : wr.cell? ⟨w.heap.size + 1, 1, none⟩ = some (.int .u64 x.k) := by simp [World.cell?, g1]
    by_cases hlt : j < ks.length
    · obtain ⟨k, hk⟩ : ∃ k, ks[j]? = some k := ⟨ks[j], by simp [hlt]⟩
      have hd : ks.drop j = k :: ks.drop (j + 1) := by
        rw [List.drop_eq_getElem_cons hlt]
        rw [List.getElem?_eq_getElem hlt] at hk
        rw [Option.some.inj hk]
      rw [hd] at hx
      obtain ⟨b, off, rfl, hn, hbl, hcell⟩ : ∃ b off, q = some ⟨b, off, none⟩ ∧ ks.length ≤ 9223372036854775807 ∧ b < w.heap.size ∧ w.cell? ⟨b, off + j * 1, none⟩ = some (.string k) := by
        rcases hl with ⟨_, h⟩ | ⟨b, off, cap, h, hn, hbl, hc⟩
        · rw [h] at hlt; simp at hlt
        · cases h; exact ⟨b, off, rfl, hn, hbl, hc j k hk 0 _ rfl⟩
      have hcw : wr.cell? ⟨b, off + j, none⟩ = some (.string k) := by
        rw [hb.cell (p := ⟨b, _, none⟩) hbl]; simpa using hcell
      have nG := fun w' (h : Below w.heap.size w w') => get_any F bm M x k w' (hm.below h)
      unfold QMaps.findFrom at hx
      have after : ∀ (w3 : World) (o : QOp), Below wr.heap.size wr w3 → let W4 := putOp (w3.alloc (.cells (encOp opZero).toArray 41)) w3.heap.size o
          Below w.heap.size w W4 ∧ w.heap.size + 2 ≤ W4.heap.size ∧ W4.heap[w.heap.size]? = some (.cells #[.int .u64 0, .int .u64 0] 34 (0, 0)) ∧ W4.heap[w.heap.size + 1]? = some (.cells #[.int .u64 x.c, .int .u64 x.k] 34 (0, 0)) ∧ OpBox W4 w3.heap.size o := by
        intro w3 o h3
        have hb3 := belowTrans hb h3
        have h4 : Below w3.heap.size w3 (putOp (w3.alloc (.cells (encOp opZero).toArray 41)) w3.heap.size o) := below_putOp ((Below.refl _ _).alloc (Nat.le_refl _) _) (Nat.le_refl _) _
        have s3 := h3.size
        exact ⟨belowTrans hb3 h4, by rw [putOp_size, World.size_alloc]; omega, (h4.block _ (by omega)).trans ((h3.block _ (by omega)).trans g0), (h4.block _ (by omega)).trans ((h3.block _ (by omega)).trans g1), (OpBox.new w3 opZero).put o⟩
      rcases hg : M.get x k with _ | o
      · have hr : res = none := by rw [hg] at hx; exact hx.symm
        subst hr
        simp only [hg, Option.getD_none, Option.isSome_none] at nG
        clear hx hre
        go_wp2_with (first | (go_at_call 18; refine (nG _ hb).mono ?_; rintro e w3 ⟨rfl, hb3⟩; have bz : OpBox (w3.alloc (.cells (encOp opZero).toArray 41)) w3.heap.size opZero := OpBox.new _ _) | ((refine wpList_store_at 41 (by rfl) (by rfl) ?_; refine ⟨_, _, rfl, OpBox.store bz opZero, ?_⟩); obtain ⟨a1, a2, a3, a4, a5⟩ := after w3 opZero hb3; obtain ⟨W4, hW4⟩ : ∃ W4, putOp (w3.alloc (.cells (encOp opZero).toArray 41)) w3.heap.size opZero = W4 := ⟨_, rfl⟩; rw [hW4] at a1 a2 a3 a4 a5 ⊢; clear hW4; have d0 : W4.cell? ⟨w.heap.size, 0, none⟩ = some (.int .u64 0) := (by simp [World.cell?, a3]); have d1 : W4.cell? ⟨w.heap.size, 1, none⟩ = some (.int .u64 0) := (by simp [World.cell?, a3]); have d2 : W4.frozen? ⟨w.heap.size, 0, none⟩ = false := (by simp [World.frozen?, a3]); have d3 : W4.frozen? ⟨w.heap.size, 1, none⟩ = false := (by simp [World.frozen?, a3])))
        refine bodyPost_ret (v := .tuple #[.agg #[.int .u64 idZero.c, .int .u64 idZero.k], .bool false]) (by simp [results, Try.results16, go_sem, idZero, idset0 a3, idset1 a3]) rfl ⟨rfl, (a1.setCell (Nat.le_refl _) _).setCell (Nat.le_refl _) _⟩
      · simp only [hg, Option.getD_some, Option.isSome_some] at nG
        rw [hg] at hx
        cases hkd : (o.v.kind == 5)
        · have hne : ¬ o.v.kind = 5 := by simpa using hkd
          have hkd2 : (o.v.kind != 5) = true := by simpa using hne
          have hr : res = none := by simpa [hne] using hx.symm
          subst hr
          clear hx hre
          go_wp2_with (first | (go_at_call 18; refine (nG _ hb).mono ?_; rintro e w3 ⟨rfl, hb3⟩; have bz : OpBox (w3.alloc (.cells (encOp opZero).toArray 41)) w3.heap.size opZero := OpBox.new _ _) | ((refine wpList_store_at 41 (by rfl) (by rfl) ?_; refine ⟨_, _, rfl, OpBox.store bz o, ?_⟩); obtain ⟨a1, a2, a3, a4, a5⟩ := after w3 o hb3; obtain ⟨W4, hW4⟩ : ∃ W4, putOp (w3.alloc (.cells (encOp opZero).toArray 41)) w3.heap.size o = W4 := ⟨_, rfl⟩; rw [hW4] at a1 a2 a3 a4 a5 ⊢; clear hW4; have d0 : W4.cell? ⟨w.heap.size, 0, none⟩ = some (.int .u64 0) := (by simp [World.cell?, a3]); have d1 : W4.cell? ⟨w.heap.size, 1, none⟩ = some (.int .u64 0) := (by simp [World.cell?, a3]); have d5 : W4.cell? ⟨w3.heap.size, 9, none⟩ = some (.int .i64 o.v.kind) := (a5.cells 9 _ rfl); have d2 : W4.frozen? ⟨w.heap.size, 0, none⟩ = false := (by simp [World.frozen?, a3]); have d3 : W4.frozen? ⟨w.heap.size, 1, none⟩ = false := (by simp [World.frozen?, a3])))
          refine bodyPost_ret (v := .tuple #[.agg #[.int .u64 idZero.c, .int .u64 idZero.k], .bool false]) (by simp [results, Try.results16, go_sem, idZero, idset0 a3, idset1 a3]) rfl ⟨rfl, (a1.setCell (Nat.le_refl _) _).setCell (Nat.le_refl _) _⟩
        · have hq : o.v.kind = 5 := by simpa using hkd
          have hkd2 : (o.v.kind != 5) = false := by simp [hq]
          have hx' : M.findFrom o.id (ks.drop (j + 1)) = res := by simpa [hq] using hx
          clear hx
          go_wp2_with (first | (go_at_call 18; refine (nG _ hb).mono ?_; rintro e w3 ⟨rfl, hb3⟩; have bz : OpBox (w3.alloc (.cells (encOp opZero).toArray 41)) w3.heap.size opZero := OpBox.new _ _) | ((refine wpList_store_at 41 (by rfl) (by rfl) ?_; refine ⟨_, _, rfl, OpBox.store bz o, ?_⟩); obtain ⟨a1, a2, a3, a4, a5⟩ := after w3 o hb3; obtain ⟨W4, hW4⟩ : ∃ W4, putOp (w3.alloc (.cells (encOp opZero).toArray 41)) w3.heap.size o = W4 := ⟨_, rfl⟩; rw [hW4] at a1 a2 a3 a4 a5 ⊢; clear hW4; have d0 : W4.cell? ⟨w.heap.size, 0, none⟩ = some (.int .u64 0) := (by simp [World.cell?, a3]); have d1 : W4.cell? ⟨w.heap.size, 1, none⟩ = some (.int .u64 0) := (by simp [World.cell?, a3]); have d5 : W4.cell? ⟨w3.heap.size, 9, none⟩ = some (.int .i64 o.v.kind) := (a5.cells 9 _ rfl); have d6 : W4.cell? ⟨w3.heap.size, 0, none⟩ = some (.int .u64 o.id.c) := (a5.cells 0 _ rfl); have d7 : W4.cell? ⟨w3.heap.size, 1, none⟩ = some (.int .u64 o.id.k) := (a5.cells 1 _ rfl); have d8 : W4.cell? ⟨w.heap.size + 1, 0, none⟩ = some (.int .u64 x.c) := (by simp [World.cell?, a4]); have d9 : W4.cell? ⟨w.heap.size + 1, 1, none⟩ = some (.int .u64 x.k) := (by simp [World.cell?, a4]); have d10 : W4.frozen? ⟨w.heap.size + 1, 0, none⟩ = false := (by simp [World.frozen?, a4]); have d11 : W4.frozen? ⟨w.heap.size + 1, 1, none⟩ = false := (by simp [World.frozen?, a4]); have d2 : W4.frozen? ⟨w.heap.size, 0, none⟩ = false := (by simp [World.frozen?, a3]); have d3 : W4.frozen? ⟨w.heap.size, 1, none⟩ = false := (by simp [World.frozen?, a3])))
          go_roundw
          case rel =>
            refine ⟨j + 1, o.id, by omega, by go_num, hx', (a1.setCell (Nat.le_succ _) _).setCell (Nat.le_succ _) _, by simpa using a2, ?_, ?_⟩
            · rw [Below.heap_setCell _ _ _ _ (by simp), Below.heap_setCell _ _ _ _ (by simp)]; exact a3
            · simp [World.setCell, Array.getElem?_modify, a4]
          case measure => simp [intOf]; omega
    · have hje : j = ks.length := by omega
      subst hje
      rw [List.drop_length] at hx
      have hr : res = some x := hx.symm
      subst hr
      have hlt2 : ¬ ((ks.length : Int) < ks.length) := by omega
      have d0 : wr.cell? ⟨w.heap.size, 0, none⟩ = some (.int .u64 0) := by simp [World.cell?, g0]
      have d1 : wr.cell? ⟨w.heap.size, 1, none⟩ = some (.int .u64 0) := by simp [World.cell?, g0]
      have d2 : wr.frozen? ⟨w.heap.size, 0, none⟩ = false := by simp [World.frozen?, g0]
      have d3 : wr.frozen? ⟨w.heap.size, 1, none⟩ = false := by simp [World.frozen?, g0]
      go_wp2_with fail
      refine bodyPost_ret (v := .tuple #[.agg #[.int .u64 x.c, .int .u64 x.k], .bool true]) (by simp [results, Try.results16, go_sem, idset0 g0, idset1 g0]) rfl ⟨rfl, (hb.setCell (Nat.le_refl _) _).setCell (Nat.le_refl _) _⟩
end Go.Proofs.Yteadongdlacgmaa
