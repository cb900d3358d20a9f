/- Walk: maps.Find. -/
import Derived.Test.YthhbiliimdpgmaaGreatDoorM30
import Derived.Test.YthhbiliimdpgmaaGreatDoorM17
import Derived.Test.YthhbiliimdpgmaaGreatDoorM18
namespace Go.Proofs.YthhbiliimdpgmaaGreatDoor
open Go.RowKit

def encStrB (k : ByteArray) : List Value := [.string k]

theorem findFrom_snoc (M : QMaps) : ∀ (ks : List ByteArray) (i : QId), M.findFrom i ks = ks.foldl (fun (r : Option QId) k => r.bind fun i => match M.get i k with | some o => if o.v.kind = 5 then some o.id else none | none => none) (some i)
  | [], i => rfl
  | k :: ks, i => by
    rw [List.foldl_cons]
    unfold QMaps.findFrom
    have hn : ∀ ks : List ByteArray, ks.foldl (fun (r : Option QId) k => r.bind fun i => match M.get i k with | some o => if o.v.kind = 5 then some o.id else none | none => none) none = none := by
      intro ks
      induction ks with
      | nil => rfl
      | cons k ks ih => rw [List.foldl_cons]; exact ih
    cases h : M.get i k with
    | none => simp only [Option.bind_some, h]; exact (hn ks).symm
    | some o =>
      simp only [Option.bind_some, h]
      by_cases hk : o.v.kind = 5
      · rw [if_pos hk, if_pos hk]; exact findFrom_snoc M ks o.id
      · rw [if_neg hk, if_neg hk]; exact (hn ks).symm

theorem idset0 {W : World} {b : Nat} {x y u : Value} {t : TypeId} (h : W.heap[b]? = some (.cells #[x, y] t (0, 0))) : (W.setCell ⟨b, 0, none⟩ u).cell? ⟨b, 0, none⟩ = some u := by
  simp [World.cell?, World.setCell, Array.getElem?_modify, h]
theorem idset1 {W : World} {b : Nat} {x y u v : Value} {t : TypeId} (h : W.heap[b]? = some (.cells #[x, y] t (0, 0))) : ((W.setCell ⟨b, 0, none⟩ u).setCell ⟨b, 1, none⟩ v).cell? ⟨b, 1, none⟩ = some v := by
  simp [World.cell?, World.setCell, Array.getElem?_modify, h]

set_option maxHeartbeats 400000 in
theorem find_any (F : Nat → Prop) (bm : Nat) (M : QMaps) (sv : Value) (ks : List ByteArray) (w : World) (hm : MapsIn w F bm M) (hl : SliceAt 1 encStrB w sv ks) :
    Calls Tryz.prog 52 #[.pointer (some ⟨bm, 0, none⟩), sv] w fun e w' => e = .returned (.tuple #[.agg #[.int .u64 ((M.findFrom idZero ks).getD idZero).c, .int .u64 ((M.findFrom idZero ks).getD idZero).k], .bool (M.findFrom idZero ks).isSome]) ∧ Below w.heap.size w w' := by
  obtain ⟨q, ncap, rfl⟩ : ∃ q n, sv = .slice q ks.length n := by
    rcases hl with ⟨h, h'⟩ | ⟨b, off, cap, h, _⟩
    · exact ⟨_, _, by rw [h, h']; rfl⟩
    · exact ⟨_, _, h⟩
  obtain ⟨res, hre⟩ : ∃ res, M.findFrom idZero ks = res := ⟨_, rfl⟩
  rw [hre]
  have hB0 : Below w.heap.size w ((w.alloc (.cells #[.int .u64 0, .int .u64 0] 28)).alloc (.cells #[.int .u64 0, .int .u64 0] 28)) := by (repeat (first | exact Below.refl _ _ | assumption | refine Below.alloc ?_ (by simp <;> omega) _ | refine Below.drew ?_ | refine below_drewN ?_ _ | refine Below.setCell ?_ (by simp <;> omega) _ | refine belowTrans ?_ (by assumption)))
  go_enter Tryz.func52, Tryz.ntmps52
  go_wp2_with fail
  obtain ⟨W, hW⟩ : ∃ W, (w.alloc (.cells #[.int .u64 0, .int .u64 0] 28)).alloc (.cells #[.int .u64 0, .int .u64 0] 28) = W := ⟨_, rfl⟩
  have c0 : W.heap[w.heap.size]? = some (.cells #[.int .u64 0, .int .u64 0] 28 (0, 0)) := by subst hW; (simp only [alloc_heap_if, World.size_alloc]; repeat (first | rw [if_pos rfl] | rw [if_pos trivial] | rw [if_pos (by omega)] | rw [if_neg (by omega)]))
  have c1 : W.heap[w.heap.size + 1]? = some (.cells #[.int .u64 0, .int .u64 0] 28 (0, 0)) := by subst hW; (simp only [alloc_heap_if, World.size_alloc]; repeat (first | rw [if_pos rfl] | rw [if_pos trivial] | rw [if_pos (by omega)] | rw [if_neg (by omega)]))
  have hs : W.heap.size = w.heap.size + 2 := by subst hW; simp
  rw [hW] at hB0 ⊢
  clear hW
  go_loopw [13] (fun i wr => ∃ (j : Nat) (x : QId), j ≤ ks.length ∧ i = .int .i64 j ∧ M.findFrom x (ks.drop j) = res ∧ Below w.heap.size w wr ∧ w.heap.size + 2 ≤ wr.heap.size ∧ wr.heap[w.heap.size]? = some (.cells #[.int .u64 0, .int .u64 0] 28 (0, 0)) ∧ wr.heap[w.heap.size + 1]? = some (.cells #[.int .u64 x.c, .int .u64 x.k] 28 (0, 0))) (fun i _ => ks.length - (intOf i).toNat)
  case atStart => exact ⟨0, idZero, Nat.zero_le _, rfl, hre, hB0, by omega, c0, c1⟩
  case round =>
    obtain ⟨j, x, hj, rfl, hx, hb, hs, g0, g1⟩ := hrel
    have e0 : wr.cell? ⟨w.heap.size + 1, 0, none⟩ = some (.int .u64 x.c) := by simp [World.cell?, g1]
    have e1 : wr.cell? ⟨w.heap.size + 1, 1, none⟩ = some (.int .u64 x.k) := by simp [World.cell?, g1]
    by_cases hlt : j < ks.length
    · obtain ⟨k, hk⟩ : ∃ k, ks[j]? = some k := ⟨ks[j], by simp [hlt]⟩
      have hd : ks.drop j = k :: ks.drop (j + 1) := by
        rw [List.drop_eq_getElem_cons hlt]
        rw [List.getElem?_eq_getElem hlt] at hk
        rw [Option.some.inj hk]
      rw [hd] at hx
      obtain ⟨b, off, rfl, hn, hbl, hcell⟩ : ∃ b off, q = some ⟨b, off, none⟩ ∧ ks.length ≤ 9223372036854775807 ∧ b < w.heap.size ∧ w.cell? ⟨b, off + j * 1, none⟩ = some (.string k) := by
        rcases hl with ⟨_, h⟩ | ⟨b, off, cap, h, hn, hbl, hc⟩
        · rw [h] at hlt; simp at hlt
        · cases h; exact ⟨b, off, rfl, hn, hbl, hc j k hk 0 _ rfl⟩
      have hcw : wr.cell? ⟨b, off + j, none⟩ = some (.string k) := by
        rw [hb.cell (p := ⟨b, _, none⟩) hbl]; simpa using hcell
      have nG := fun w' (h : Below w.heap.size w w') => get_any F bm M x k w' (hm.below h)
      unfold QMaps.findFrom at hx
      have after : ∀ (w3 : World) (o : QOp), Below wr.heap.size wr w3 → let W4 := putOp (w3.alloc (.cells (encOp opZero).toArray 35)) w3.heap.size o
          Below w.heap.size w W4 ∧ w.heap.size + 2 ≤ W4.heap.size ∧ W4.heap[w.heap.size]? = some (.cells #[.int .u64 0, .int .u64 0] 28 (0, 0)) ∧ W4.heap[w.heap.size + 1]? = some (.cells #[.int .u64 x.c, .int .u64 x.k] 28 (0, 0)) ∧ OpBox W4 w3.heap.size o := by
        intro w3 o h3
        have hb3 := belowTrans hb h3
        have h4 : Below w3.heap.size w3 (putOp (w3.alloc (.cells (encOp opZero).toArray 35)) w3.heap.size o) := below_putOp ((Below.refl _ _).alloc (Nat.le_refl _) _) (Nat.le_refl _) _
        have s3 := h3.size
        exact ⟨belowTrans hb3 h4, by rw [putOp_size, World.size_alloc]; omega, (h4.block _ (by omega)).trans ((h3.block _ (by omega)).trans g0), (h4.block _ (by omega)).trans ((h3.block _ (by omega)).trans g1), (OpBox.new w3 opZero).put o⟩
      rcases hg : M.get x k with _ | o
      · have hr : res = none := by rw [hg] at hx; exact hx.symm
        subst hr
        simp only [hg, Option.getD_none, Option.isSome_none] at nG
        clear hx hre
        go_wp2_with (first | (go_at_call 99; refine (nG _ hb).mono ?_; rintro e w3 ⟨rfl, hb3⟩; have bz : OpBox (w3.alloc (.cells (encOp opZero).toArray 35)) w3.heap.size opZero := OpBox.new _ _) | ((refine wpList_store_at 35 (by rfl) (by rfl) ?_; refine ⟨_, _, rfl, OpBox.store bz opZero, ?_⟩); obtain ⟨a1, a2, a3, a4, a5⟩ := after w3 opZero hb3; obtain ⟨W4, hW4⟩ : ∃ W4, putOp (w3.alloc (.cells (encOp opZero).toArray 35)) w3.heap.size opZero = W4 := ⟨_, rfl⟩; rw [hW4] at a1 a2 a3 a4 a5 ⊢; clear hW4; have d0 : W4.cell? ⟨w.heap.size, 0, none⟩ = some (.int .u64 0) := (by simp [World.cell?, a3]); have d1 : W4.cell? ⟨w.heap.size, 1, none⟩ = some (.int .u64 0) := (by simp [World.cell?, a3]); have d2 : W4.frozen? ⟨w.heap.size, 0, none⟩ = false := (by simp [World.frozen?, a3]); have d3 : W4.frozen? ⟨w.heap.size, 1, none⟩ = false := (by simp [World.frozen?, a3])))
        refine bodyPost_ret (v := .tuple #[.agg #[.int .u64 idZero.c, .int .u64 idZero.k], .bool false]) (by simp [results, Tryz.results52, go_sem, idZero, idset0 a3, idset1 a3]) rfl ⟨rfl, (a1.setCell (Nat.le_refl _) _).setCell (Nat.le_refl _) _⟩
      · simp only [hg, Option.getD_some, Option.isSome_some] at nG
        rw [hg] at hx
        cases hkd : (o.v.kind == 5)
        · have hne : ¬ o.v.kind = 5 := by simpa using hkd
          have hkd2 : (o.v.kind != 5) = true := by simpa using hne
          have hr : res = none := by simpa [hne] using hx.symm
          subst hr
          clear hx hre
          go_wp2_with (first | (go_at_call 99; refine (nG _ hb).mono ?_; rintro e w3 ⟨rfl, hb3⟩; have bz : OpBox (w3.alloc (.cells (encOp opZero).toArray 35)) w3.heap.size opZero := OpBox.new _ _) | ((refine wpList_store_at 35 (by rfl) (by rfl) ?_; refine ⟨_, _, rfl, OpBox.store bz o, ?_⟩); obtain ⟨a1, a2, a3, a4, a5⟩ := after w3 o hb3; obtain ⟨W4, hW4⟩ : ∃ W4, putOp (w3.alloc (.cells (encOp opZero).toArray 35)) w3.heap.size o = W4 := ⟨_, rfl⟩; rw [hW4] at a1 a2 a3 a4 a5 ⊢; clear hW4; have d0 : W4.cell? ⟨w.heap.size, 0, none⟩ = some (.int .u64 0) := (by simp [World.cell?, a3]); have d1 : W4.cell? ⟨w.heap.size, 1, none⟩ = some (.int .u64 0) := (by simp [World.cell?, a3]); have d5 : W4.cell? ⟨w3.heap.size, 9, none⟩ = some (.int .i64 o.v.kind) := (a5.cells 9 _ rfl); have d2 : W4.frozen? ⟨w.heap.size, 0, none⟩ = false := (by simp [World.frozen?, a3]); have d3 : W4.frozen? ⟨w.heap.size, 1, none⟩ = false := (by simp [World.frozen?, a3])))
          refine bodyPost_ret (v := .tuple #[.agg #[.int .u64 idZero.c, .int .u64 idZero.k], .bool false]) (by simp [results, Tryz.results52, go_sem, idZero, idset0 a3, idset1 a3]) rfl ⟨rfl, (a1.setCell (Nat.le_refl _) _).setCell (Nat.le_refl _) _⟩
        · have hq : o.v.kind = 5 := by simpa using hkd
          have hkd2 : (o.v.kind != 5) = false := by simp [hq]
          have hx' : M.findFrom o.id (ks.drop (j + 1)) = res := by simpa [hq] using hx
          clear hx
          go_wp2_with (first | (go_at_call 99; refine (nG _ hb).mono ?_; rintro e w3 ⟨rfl, hb3⟩; have bz : OpBox (w3.alloc (.cells (encOp opZero).toArray 35)) w3.heap.size opZero := OpBox.new _ _) | ((refine wpList_store_at 35 (by rfl) (by rfl) ?_; refine ⟨_, _, rfl, OpBox.store bz o, ?_⟩); obtain ⟨a1, a2, a3, a4, a5⟩ := after w3 o hb3; obtain ⟨W4, hW4⟩ : ∃ W4, putOp (w3.alloc (.cells (encOp opZero).toArray 35)) w3.heap.size o = W4 := ⟨_, rfl⟩; rw [hW4] at a1 a2 a3 a4 a5 ⊢; clear hW4; have d0 : W4.cell? ⟨w.heap.size, 0, none⟩ = some (.int .u64 0) := (by simp [World.cell?, a3]); have d1 : W4.cell? ⟨w.heap.size, 1, none⟩ = some (.int .u64 0) := (by simp [World.cell?, a3]); have d5 : W4.cell? ⟨w3.heap.size, 9, none⟩ = some (.int .i64 o.v.kind) := (a5.cells 9 _ rfl); have d6 : W4.cell? ⟨w3.heap.size, 0, none⟩ = some (.int .u64 o.id.c) := (a5.cells 0 _ rfl); have d7 : W4.cell? ⟨w3.heap.size, 1, none⟩ = some (.int .u64 o.id.k) := (a5.cells 1 _ rfl); have d8 : W4.cell? ⟨w.heap.size + 1, 0, none⟩ = some (.int .u64 x.c) := (by simp [World.cell?, a4]); have d9 : W4.cell? ⟨w.heap.size + 1, 1, none⟩ = some (.int .u64 x.k) := (by simp [World.cell?, a4]); have d10 : W4.frozen? ⟨w.heap.size + 1, 0, none⟩ = false := (by simp [World.frozen?, a4]); have d11 : W4.frozen? ⟨w.heap.size + 1, 1, none⟩ = false := (by simp [World.frozen?, a4]); have d2 : W4.frozen? ⟨w.heap.size, 0, none⟩ = false := (by simp [World.frozen?, a3]); have d3 : W4.frozen? ⟨w.heap.size, 1, none⟩ = false := (by simp [World.frozen?, a3])))
          go_roundw
          case rel =>
            refine ⟨j + 1, o.id, by omega, by go_num, hx', (a1.setCell (Nat.le_succ _) _).setCell (Nat.le_succ _) _, by simpa using a2, ?_, ?_⟩
            · rw [Below.heap_setCell _ _ _ _ (by simp), Below.heap_setCell _ _ _ _ (by simp)]; exact a3
            · simp [World.setCell, Array.getElem?_modify, a4]
          case measure => simp [intOf]; omega
    · have hje : j = ks.length := by omega
      subst hje
      rw [List.drop_length] at hx
      have hr : res = some x := hx.symm
      subst hr
      have hlt2 : ¬ ((ks.length : Int) < ks.length) := by omega
      have d0 : wr.cell? ⟨w.heap.size, 0, none⟩ = some (.int .u64 0) := by simp [World.cell?, g0]
      have d1 : wr.cell? ⟨w.heap.size, 1, none⟩ = some (.int .u64 0) := by simp [World.cell?, g0]
      have d2 : wr.frozen? ⟨w.heap.size, 0, none⟩ = false := by simp [World.frozen?, g0]
      have d3 : wr.frozen? ⟨w.heap.size, 1, none⟩ = false := by simp [World.frozen?, g0]
      go_wp2_with fail
      refine bodyPost_ret (v := .tuple #[.agg #[.int .u64 x.c, .int .u64 x.k], .bool true]) (by simp [results, Tryz.results52, go_sem, idset0 g0, idset1 g0]) rfl ⟨rfl, (hb.setCell (Nat.le_refl _) _).setCell (Nat.le_refl _) _⟩
end Go.Proofs.YthhbiliimdpgmaaGreatDoor
/- Walks: vector.At, Ranges of clocks that are clean already. -/
namespace Go.Proofs.YthhbiliimdpgmaaGreatDoor
open Go.RowKit Go.Lib

/-- a client's clock. -/
def atClk (l : List QId) (c : Int) : Int := match l.find? fun x => decide (x.c = c) with
  | some x => x.k
  | none => 0
theorem atClk_some {l : List QId} {c : Int} {k : Nat} {x : QId} (hx : l[k]? = some x) (hc : x.c = c) (hno : ∀ j, j < k → ∀ y, l[j]? = some y → y.c ≠ c) : atClk l c = x.k := by
  unfold atClk
  have : l.find? (fun x => decide (x.c = c)) = some x := by
    rw [List.find?_eq_some_iff_getElem]
    obtain ⟨h1, h2⟩ := List.getElem?_eq_some_iff.1 hx
    refine ⟨by simpa using hc, k, h1, h2, fun j hj => ?_⟩
    have := hno j hj (l[j]'(by omega)) (by simp)
    simpa using this
  rw [this]
theorem atClk_none {l : List QId} {c : Int} (hno : ∀ j, j < l.length → ∀ y, l[j]? = some y → y.c ≠ c) : atClk l c = 0 := by
  unfold atClk
  have : l.find? (fun x => decide (x.c = c)) = none := by
    rw [List.find?_eq_none]
    intro x hx
    obtain ⟨j, hj⟩ := List.mem_iff_getElem?.1 hx
    have := hno j (List.getElem?_eq_some_iff.1 hj).1 x hj
    simpa using this
  rw [this]
set_option maxRecDepth 100000 in
set_option maxHeartbeats 4000000 in
theorem vat_any (sv : Value) (l : List QId) (c : Int) (w : World) (hl : SliceAt 2 encIdv w sv l) (hc : CleanClk l) (hn : l.length ≤ 19) :
    Calls Tryz.prog 28 #[sv, .int .u64 c] w fun e w' => e = .returned (.int .u64 (atClk l c)) ∧ Below w.heap.size w w' := by
  have hcl := vclean_any sv l w hl hc hn
  have hY := fun k x => @atClk_some l c k x
  have hN := @atClk_none l c
  have HY := Lib.hid hY
  have HN := Lib.hid hN
  clear hY hN
  generalize atClk l c = A at HY HN ⊢
  clear hl hc
  go_enter Tryz.func28, Tryz.ntmps28
  go_upto_region 2 with (go_at_call 27; refine hcl.mono ?_; rintro e w1 ⟨v1, rfl, ho1, hb1⟩; obtain ⟨p, cap, rfl⟩ := ownsRow_len ho1)
  have hl1 : SliceAt 2 encIdv w1 (.slice p l.length cap) l := OwnAt.slice (k := 2) (enc := encIdv) (fun _ => rfl) ho1
  clear hcl ho1
  go_loopw [10] (fun i wr => ∃ k : Nat, k ≤ l.length ∧ i = .int .i64 k ∧ (∀ j, j < k → ∀ y, l[j]? = some y → y.c ≠ c) ∧ Below w1.heap.size w1 wr) (fun i _ => l.length - (intOf i).toNat)
  case atStart => exact ⟨0, Nat.zero_le _, rfl, fun j hj => absurd hj (Nat.not_lt_zero _), Below.refl _ _⟩
  case round =>
    obtain ⟨k, hk, rfl, hno, hb⟩ := hrel
    have HNO := Lib.hid hno
    clear hno
    by_cases hlt : k < l.length
    · have hltz : (k : Int) < (l.length : Int) := by omega
      have hlr := hl1.below hb
      obtain ⟨b, off, rfl⟩ : ∃ b off, p = some ⟨b, off, none⟩ := by
        rcases hlr with ⟨_, h⟩ | ⟨b0, off, _, h, _⟩
        · rw [h] at hlt; simp at hlt
        · cases h; exact ⟨_, _, rfl⟩
      obtain ⟨hcc, _, x0, x1⟩ := clkCells hlr (k := k) (x := l[k]) (by simp)
      clear hcc
      have hxk : l[k]? = some l[k] := by simp
      generalize l[k] = x at x0 x1 hxk
      have HXK := Lib.hid hxk
      clear hxk hlr
      by_cases hxc : x.c = c
      · have e1 : (x.c == c) = true := by simpa using hxc
        have hA := Lib.hid (HY.out k x HXK.out hxc HNO.out)
        have hbn : Below w.heap.size w (wr.alloc (.cells #[.int .u64 x.c, .int .u64 x.k] 78)) := (belowTrans hb1 hb).alloc (by have := hb1.size; have := hb.size; omega) _
        clear hxc
        go_wp2_with fail
        go_ret
        exact ⟨(congrArg (fun z => Ending.returned (.int .u64 z)) hA.out).symm, hbn⟩
      · have e1 : (x.c == c) = false := by simpa using hxc
        have hbn : Below w1.heap.size w1 (wr.alloc (.cells #[.int .u64 x.c, .int .u64 x.k] 78)) := hb.alloc (by have := hb.size; omega) _
        have HXC := Lib.hid hxc
        clear hxc
        go_wp2_with fail
        go_roundw
        case rel =>
          refine ⟨k + 1, by omega, by go_num, fun j hj y hy => ?_, hbn⟩
          by_cases hjk : j = k
          · subst hjk
            rw [HXK.out] at hy
            cases hy
            exact HXC.out
          · exact HNO.out j (by omega) y hy
        case measure => simp [intOf]; omega
    · obtain rfl : k = l.length := by omega
      have hltz : ¬ (l.length : Int) < (l.length : Int) := by omega
      have hA := Lib.hid (HN.out HNO.out)
      have hbn := belowTrans hb1 hb
      go_wp2_with fail
      go_ret
      exact ⟨(congrArg (fun z => Ending.returned (.int .u64 z)) hA.out).symm, hbn⟩
end Go.Proofs.YthhbiliimdpgmaaGreatDoor
/- Walks: edit.Next, and quireref7.At of nothing. -/
namespace Go.Proofs.YthhbiliimdpgmaaGreatDoor
open Go.RowKit Go.Shelf Go.Lib

theorem editNext_any (n : Nat) (c : Int) (l : List QId) (w : World) (hv : Calls Tryz.prog 11 #[.pointer (some ⟨n + 11, 0, none⟩)] w (RetW (VecR l w))) (hc : CleanClk l) (hn : l.length ≤ 19) (hw : IntKind.u64.wrap (atClk l c + 1) = atClk l c + 1) :
    Calls Tryz.prog 12 #[.pointer (some ⟨n + 11, 0, none⟩), .int .u64 c] w fun e w' => e = .returned (.int .u64 (atClk l c + 1)) ∧ Below w.heap.size w w' := by
  have hat := fun sv w1 (hl : SliceAt 2 encIdv w1 sv l) => vat_any sv l c w1 hl hc hn
  go_enter Tryz.func12, Tryz.ntmps12
  go_wp2_with (first | (go_at_call 11; refine hv.mono ?_; rintro e w1 ⟨v1, rfl, ho1, hb1⟩) | (go_at_call 28; refine (hat _ _ (OwnAt.slice (k := 2) (enc := encIdv) (fun _ => rfl) ho1)).mono ?_; rintro e w2 ⟨rfl, hb2⟩))
  go_ret
  exact ⟨rfl, belowTrans hb1 hb2⟩
theorem refAt_none (p : Option Addr) (cap : Nat) (c : Int) (w : World) : Calls Tryz.prog 10 #[.slice p 0 cap, .int .u64 c] w fun e w' => e = .returned (.int .u64 0) ∧ Below w.heap.size w w' := by
  go_enter Tryz.func10, Tryz.ntmps10
  go_wp2
  go_loopw [5, 6] (fun r i wr => r = .int .u64 0 ∧ i = .int .i64 0 ∧ wr = w) (fun _ _ _ => 0)
  case atStart => exact ⟨rfl, rfl, rfl⟩
  case round =>
    obtain ⟨rfl, rfl, rfl⟩ := hrel
    go_wp2
    go_ret
    exact ⟨rfl, Below.refl _ _⟩
end Go.Proofs.YthhbiliimdpgmaaGreatDoor
