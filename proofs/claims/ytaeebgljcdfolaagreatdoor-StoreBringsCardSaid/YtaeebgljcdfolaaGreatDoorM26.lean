/- The keys of a store's map (numbers), sorted: maps.Keys, slices.AppendSeq, Collect, Sort, Sorted. -/
import Derived.Test.YtaeebgljcdfolaaGreatDoorM20
import Derived.Test.YtaeebgljcdfolaaGreatDoorM04
import Derived.Shelf.SlIterI.Sorted
namespace Go.Proofs.YtaeebgljcdfolaaGreatDoor
open Go.RowKit Go.Maps Go.Sort Go.Shelf

def keyRU : Value → Option (DataW Unit × List MemPlace) := fun _ => some (.nil, [])
def keyLU (ks : List Int) : List (Lit × DataW Unit) := ks.map fun k => (Lit.int .u64 k, DataW.nil)
def keyDU (ks : List Int) : DataW Unit := .map ((keyLU ks).foldr DataW.insert [])
theorem undU : Tryz.prog.underlying 26 = some (.int .u64) := by kernel_rfl
def u64B (k : Int) : Prop := 0 ≤ k ∧ k < 18446744073709551616
theorem u64_wf {k : Int} (h : u64B k) : (Lit.int .u64 k).wf = true := WalkArith.wf_u64 (by unfold u64B at h; omega)

theorem mapK_ownsU {w : World} {r : Nat} {ks : List Int} {f : Int → Value} (h : MapK u64V w r (ks.map fun k => (k, f k))) (hsz : ∀ k ∈ ks, u64B k) (hlen : ks.length ≤ maxLen) :
    w.ownsMap Tryz.prog 26 keyRU r ks.length (keyDU ks) := by
  obtain ⟨es, clock, hb, hl, hs⟩ := h
  have hlen' : es.toList.length = ks.length := by
    have := congrArg List.length hl
    simpa using this
  have hkeys : es.toList.map (·.key) = ks.map u64V := by
    have := congrArg (List.map Prod.fst) hl
    simpa [List.map_map, Function.comp_def] using this
  have hrd : ∀ x ∈ es.toList, ∃ k ∈ ks, x.key = u64V k := by
    intro x hx
    have : x.key ∈ es.toList.map (·.key) := List.mem_map.2 ⟨x, hx, rfl⟩
    rw [hkeys] at this
    obtain ⟨k, hk, e⟩ := List.mem_map.1 this
    exact ⟨k, hk, e.symm⟩
  have hk1 : ∀ (x : MapEntry) (k : Int), x.key = u64V k → u64B k → WideElems.rd Tryz.prog 26 keyRU x = some (.int .u64 k, .nil) := by
    intro x k hx hs
    unfold WideElems.rd
    have : keyOf Tryz.prog 26 x.key = some (.int .u64 k) := by
      rw [hx]
      exact keyOf_int_mk undU (u64_wf hs)
    rw [this]
    rfl
  refine ⟨es, clock, hb, ⟨?_, hs, ?_⟩, ?_, ?_⟩
  · have : es.size = ks.length := by simpa using hlen'
    omega
  · intro x hx
    obtain ⟨k, hk, e⟩ := hrd x hx
    exact ⟨_, hk1 x k e (hsz k hk)⟩
  · have : es.size = ks.length := by simpa using hlen'
    omega
  · unfold keyDU
    congr 2
    have : ∀ (l : List MapEntry) (ks : List Int), l.map (·.key) = ks.map u64V → (∀ k ∈ ks, u64B k) → keyLU ks = l.map (WideElems.rg Tryz.prog 26 keyRU) := by
      intro l
      induction l with
      | nil => intro ks h _; cases ks with
        | nil => rfl
        | cons => simp at h
      | cons x l ih =>
        intro ks h hz
        cases ks with
        | nil => simp at h
        | cons k ks =>
          simp only [List.map_cons, List.cons.injEq] at h
          have h2 := ih ks h.2 fun k hk => hz k (by simp [hk])
          unfold keyLU at h2 ⊢
          rw [List.map_cons, List.map_cons, ← h2]
          have h3 : WideElems.rg Tryz.prog 26 keyRU x = (Lit.int .u64 k, DataW.nil) := by
            rw [WideElems.rg, hk1 x k h.1 (hz k (by simp))]
            rfl
          rw [h3]
    exact this _ _ hkeys hsz
theorem keyDU_has (ks : List Int) (x : Int) : Maps.has (keyDU ks) (.int .u64 x) = true ↔ x ∈ ks := by
  unfold keyDU
  rw [has_eq, List.any_eq_true]
  have hp := WideShapes.sorted_perm (keyLU ks)
  constructor
  · rintro ⟨p, hp', hs⟩
    have := hp.mem_iff.1 hp'
    obtain ⟨k, hk, rfl⟩ := List.mem_map.1 this
    have : k = x := by simpa [Lit.sameKey] using hs
    exact this ▸ hk
  · intro hx
    exact ⟨_, hp.mem_iff.2 (List.mem_map.2 ⟨x, hx, rfl⟩), by simp [Lit.sameKey]⟩
theorem keyDU_size (ks : List Int) : Maps.size (keyDU ks) = ks.length := by
  unfold keyDU Maps.size
  have := (WideShapes.sorted_perm (keyLU ks)).length_eq
  unfold keyLU at this
  rw [List.length_map] at this
  exact this
/-- no key twice; a key has come just where the map has it and it is no longer to come. -/
def CollU (ks : List Int) (left : Lit → Bool) (ss : List Int) : Prop := ss.Nodup ∧ ∀ x, x ∈ ss ↔ (x ∈ ks ∧ left (.int .u64 x) = false)
theorem CollU.start (ks : List Int) : CollU ks (Maps.has (keyDU ks)) [] := by
  refine ⟨List.nodup_nil, fun x => ?_⟩
  have := keyDU_has ks x
  cases h : Maps.has (keyDU ks) (.int .u64 x)
  · rw [h] at this; simp at this; simp [this]
  · simp
theorem CollU.step {ks : List Int} {left : Lit → Bool} {ss : List Int} (h : CollU ks left ss) {x : Int} (hlk : left (.int .u64 x) = true) (hx : x ∈ ks) : CollU ks (fun z => left z && !z.sameKey (.int .u64 x)) (ss ++ [x]) := by
  have hnew : x ∉ ss := fun hx => by have := ((h.2 x).1 hx).2; rw [hlk] at this; cases this
  refine ⟨List.nodup_append.2 ⟨h.1, by simp, fun a ha b hb => by simp at hb; subst hb; exact fun e => hnew (e ▸ ha)⟩, fun y => ?_⟩
  by_cases hy : y = x
  · subst hy; simp [hx, Lit.sameKey]
  · simp [h.2 y, hy, Lit.sameKey]
theorem CollU.perm {ks : List Int} {left : Lit → Bool} {ss : List Int} (h : CollU ks left ss) (hn : ks.Nodup) (hl : ∀ kl, left kl = false) : ss.Perm ks :=
  (List.perm_ext_iff_of_nodup h.1 hn).2 fun x => by rw [h.2 x, hl]; simp

set_option maxRecDepth 100000 in
set_option maxHeartbeats 2000000 in
/-- the iterator over the keys, for every loop body that leaves maps and iterators alone. -/
theorem keysU1_in (n : Nat) (hn : 3 ≤ n) (l Bm b : Nat) (ks : List Int) (hnd : ks.Nodup) (J Jx : List Int → World → Prop)
    (hY : ∀ pre x W, J pre W → pre.length < ks.length → YieldAt Fence.wide (n - 1) Tryz.prog l #[.int .u64 x] W fun e W' =>
      (e = .returned (.bool true) ∧ J (pre ++ [x]) W' ∧ KeepsWalks W W') ∨ (e = .returned (.bool false) ∧ Jx (pre ++ [x]) W'))
    (W : World) (hJ : AbidesFrom W.heap.size J) (hm : W.cell? ⟨Bm, 0, none⟩ = some (.map (some b))) (hown : W.ownsMap Tryz.prog 26 keyRU b ks.length (keyDU ks)) (h0 : J [] W) :
    CallsIn Fence.wide n Tryz.prog 71 #[.func (.yield l) #[] #[], .pointer (some ⟨Bm, 0, none⟩)] W fun e W' => (∃ v, e = .returned v) ∧
      ((∃ ys, ys.Perm ks ∧ J ys W') ∨ (∃ pre, True ∧ Jx pre W')) := by
  have hn1 : 1 ≤ n := by omega
  have hsz := keyDU_size ks
  have HSZ := Lib.hid hsz
  clear hsz
  refine callsIn_of_wp Tryz.func71 rfl trivial ?_ rfl
  simp only [Tryz.ntmps71, List.size_toArray, List.length_cons, List.length_nil, Nat.reduceAdd, Nat.reduceSub, Array.replicate_succ, Array.replicate_zero, List.push_toArray, List.append_toArray, List.nil_append, List.cons_append]
  gi_wp2_with (first | (gi_at_range; refine wpListIn_range_own _ rfl _ 64 rfl 26 25 (int_keyed undU) (by kernel_rfl) keyRU b ks.length (keyDU ks) rfl hown ?_; intro w0 hrg0 hg0 hs0) | gi_in)
  go_frame
  gi_loopw [3] (fun _ wr => ∃ (left : Lit → Bool) (cnt : Nat) (ss : List Int), wr.ranges Tryz.prog 26 keyRU b W.heap.size ks.length (keyDU ks) left cnt ∧ ss.length + cnt ≤ ks.length ∧ CollU ks left ss ∧ J ss wr)
    (fun _ wr => wr.rangeLeft b W.heap.size)
  case atStart =>
    exact ⟨_, _, [], hrg0, by rw [HSZ.out]; simp, CollU.start ks, hJ [] W w0 none h0 hg0 (fun r e => by cases e)⟩
  case round =>
    obtain ⟨left, cnt, ss, hrg, hcs, hC, hJs⟩ := hrel
    gi_wp2_with (first | (gi_at_next; refine wpListIn_next_ranges _ rfl _ rfl 26 (int_keyed undU) keyRU (Value.int .u64) id (fun key kl hk => by obtain ⟨x, hx, _⟩ := Maps.keyOf_int_inv undU hk; exact ⟨x, hx⟩) (fun v _ _ => ⟨v, rfl⟩) b W.heap.size ks.length _ _ _ rfl hrg ?_ ?_) | gi_in)
    · intro hc0 hl0
      gi_wp2
      go_end0
      exact ⟨⟨_, rfl⟩, .inl ⟨ss, hC.perm hnd hl0, hJs⟩⟩
    · intro x c kl yd yp w2 cnt2 hkey hlk hv hat hrg2 hlt hg2 hs2 hen
      obtain ⟨x', ex, rfl, _⟩ := Maps.keyOf_int_inv undU hkey
      obtain rfl : x = x' := by simpa using ex
      have hxk : x ∈ ks := (keyDU_has ks x).1 (has_true_of_atKey hat)
      have hJ2 : J ss w2 := hJ ss wr w2 (some W.heap.size) hJs hg2 (fun r e => by cases e; exact ⟨Nat.le_refl _, hrg.iter_walk⟩)
      obtain ⟨fn, tmps, assign, body, hy, hR⟩ := hY ss x w2 hJ2 (by omega)
      clear hs2 hY
      gi_wp2
      refine hR.mono ?_
      rintro e W3 (⟨rfl, hJ3, hk3⟩ | ⟨rfl, hJx3⟩)
      · gi_wp2
        have hrg3 := hrg2.of_walks hk3
        go_roundw
        case rel => exact ⟨_, cnt2, ss ++ [x], hrg3, by simp; omega, hC.step hlk hxk, hJ3⟩
        case measure => rw [hrg3.left_eq, hrg.left_eq]; exact hlt
      · gi_wp2
        refine bodyPost_ret (results_none rfl _ _ _) rfl ?_
        exact ⟨⟨_, rfl⟩, .inr ⟨_, trivial, hJx3⟩⟩
theorem keysU_stops (n : Nat) (hn : 3 ≤ n) (Bm b : Nat) (ks : List Int) (f : Int → Value) (hnd : ks.Nodup) (hsz : ∀ k ∈ ks, u64B k) (hlen : ks.length ≤ maxLen) (w : World) (hBm : Bm < w.heap.size) (hm : w.cell? ⟨Bm, 0, none⟩ = some (.map (some b)))
    (h : MapK u64V w b (ks.map fun k => (k, f k))) :
    SeqStopsK Fence.wide n Tryz.prog 71 #[.pointer (some ⟨Bm, 0, none⟩)] (fun x : Int => #[.int .u64 x]) KeepsWalks (fun ys => ys.Perm ks) (fun _ => True) ks.length w := fun L J Jx W hW hJ _ hY h0 =>
  keysU1_in n hn L Bm b ks hnd J Jx hY W hJ ((hW.cell (p := ⟨Bm, 0, none⟩) hBm).trans hm) (mapK_ownsU (h.blk (hW.block _ h.lt)) hsz hlen) h0
end Go.Proofs.YtaeebgljcdfolaaGreatDoor
