/- Walks: Copy of a sequence without units; ranging over an empty map. -/
import Derived.Test.YthhbiliimdpgmaaGreatDoorM16
import Derived.Test.YthhbiliimdpgmaaGreatDoorM08
import Derived.Test.YthhbiliimdpgmaaGreatDoorM05
import Derived.Test.YthhbiliimdpgmaaGreatDoorM10
import Derived.Maps.AppendAt
import Derived.Test.YthhbiliimdpgmaaGreatDoorM06
import Derived.Test.YthhbiliimdpgmaaGreatDoorM07
namespace Go.Proofs.YthhbiliimdpgmaaGreatDoor
open Go.RowKit Go.Lib

theorem run_range0 {P : Program} {T K E : TypeId} (ht : P.underlying T = some (.map K E)) {w : World} {m : Nat} {es : Array MapEntry} {clock : Nat} (h : w.heap[m]? = some (.map es clock)) :
    (Instr.range T (.map (some m))).run P w = .ok (.pointer (some ⟨w.heap.size, 0, none⟩)) (w.alloc (.mapIter (some m) clock #[] clock)) := by
  simp only [Instr.range, Sem.run_bind, run_underlying ht, Result.andThen, MapKept.run_getObj_map h, Sem.run_pure]
  rfl
theorem run_next0 {P : Program} {T : TypeId} {w : World} {r m since last clock : Nat} (hr : w.heap[r]? = some (.mapIter (some m) since #[] last)) (h : w.heap[m]? = some (.map #[] clock)) :
    (Instr.next (.pointer (some ⟨r, 0, none⟩)) false T).run P w = .ok (.tuple #[.bool false]) w := by
  simp [Instr.next, Result.andThen, Sem.run_bind, getObj, Sem.run, hr, h, Question.forced]
/-- a sequence without units at b, its maps at m and m'. -/
def SeqE (W : World) (b : Nat) : Prop := ∃ m m', W.heap[b]? = some (.cells #[.map (some m), noS, noS, .map (some m'), .bool true] 87 (0, 0))
theorem seqNew_any (w : World) : Calls Tryz.prog 14 #[] w fun e w' => e = .returned (.pointer (some ⟨w.heap.size + 2, 0, none⟩)) ∧ w'.heap[w.heap.size + 2]? = some (.cells #[.map (some w.heap.size), noS, noS, .map (some (w.heap.size + 1)), .bool true] 87 (0, 0)) ∧ Below w.heap.size w w' := by
  have hmm := @run_makeMap Tryz.prog
  go_enter Tryz.func14, Tryz.ntmps14
  go_wp2
  go_ret
  exact ⟨rfl, by rw [alloc_heap_if, if_pos (by simp)]; rfl, by (repeat (first | exact Below.refl _ _ | assumption | refine Below.alloc ?_ (by simp <;> omega) _ | refine Below.drew ?_ | refine below_drewN ?_ _ | refine Below.setCell ?_ (by simp <;> omega) _ | refine belowTrans ?_ (by assumption)))⟩
theorem twins_none (Y : Nat) (w : World) : Calls Tryz.prog 175 #[.slice none 0 0, .pointer (some ⟨Y, 0, none⟩)] w fun e w' => e = .returned (.slice none 0 0) ∧ w = w' := by
  go_enter Tryz.func175, Tryz.ntmps175
  go_wp2
  go_loopw [4, 9] (fun o z wr => o = .slice none 0 0 ∧ z = .int .i64 0 ∧ wr = w) (fun _ _ _ => 0)
  case atStart => exact ⟨rfl, rfl, rfl⟩
  case round =>
    obtain ⟨rfl, rfl, rfl⟩ := hrel
    go_wp2
    go_ret
    exact ⟨rfl, rfl⟩
set_option maxRecDepth 100000 in
set_option maxHeartbeats 1000000 in
theorem seqCopy_none (n : Nat) (w : World) (hs : SeqZ n w) :
    Calls Tryz.prog 137 #[.pointer (some ⟨n + 6, 0, none⟩)] w fun e w' => ∃ b, e = .returned (.pointer (some ⟨b, 0, none⟩)) ∧ SeqE w' b ∧ Below w.heap.size w w' := by
  have hmm := @run_makeMap Tryz.prog
  have hmf : ∀ (fn : Fn) (first cap : Array Value) (w : World), (Instr.makeFunc fn first cap).run Tryz.prog w = .ok (.func fn first cap) w := fun _ _ _ _ => rfl
  have c1 : w.cell? ⟨n + 6, 1, none⟩ = some (.slice none 0 0) := by simp [World.cell?, hs.sq, noS]
  have c2 : w.cell? ⟨n + 6, 2, none⟩ = some (.slice none 0 0) := by simp [World.cell?, hs.sq, noS]
  have hnl : n + 6 < w.heap.size := (Array.getElem?_eq_some_iff.1 hs.sq).1
  go_enter Tryz.func137, Tryz.ntmps137
  go_upto_region 2 with (go_at_call 14; refine (seqNew_any _).mono ?_; rintro e w1 ⟨rfl, hn1, hb1⟩)
  go_upto_region 3 with fail
  have hB : Below w.heap.size w ((w1.alloc (.map #[] 0)).alloc (.cells #[.map (some w1.heap.size)] 234)) := by
    have h := hb1.size
    exact (hb1.alloc h _).alloc (by simp; omega) _
  have hYm : ((w1.alloc (.map #[] 0)).alloc (.cells #[.map (some w1.heap.size)] 234)).heap[w1.heap.size]? = some (.map #[] 0) := by rw [alloc_heap_if, if_neg (by simp), alloc_heap_if, if_pos rfl]
  have hYb : ((w1.alloc (.map #[] 0)).alloc (.cells #[.map (some w1.heap.size)] 234)).cell? ⟨w1.heap.size + 1, 0, none⟩ = some (.map (some w1.heap.size)) := by go_simp
  have hc : ((w1.alloc (.map #[] 0)).alloc (.cells #[.map (some w1.heap.size)] 234)).heap[w.heap.size + 2]? = some (.cells #[.map (some w.heap.size), noS, noS, .map (some (w.heap.size + 1)), .bool true] 87 (0, 0)) := by
    have h := (Array.getElem?_eq_some_iff.1 hn1).1
    rw [alloc_heap_if, if_neg (by simp; omega), alloc_heap_if, if_neg (by omega)]
    exact hn1
  have hYl : w1.heap.size + 1 < ((w1.alloc (.map #[] 0)).alloc (.cells #[.map (some w1.heap.size)] 234)).heap.size := by simp
  generalize (w1.alloc (.map #[] 0)).alloc (.cells #[.map (some w1.heap.size)] 234) = W at hB hYm hYb hc hYl ⊢
  generalize w1.heap.size = Y at hYm hYb hYl ⊢
  have k1 := (hB.cell (p := ⟨n + 6, 1, none⟩) hnl).trans c1
  have k2 := (hB.cell (p := ⟨n + 6, 2, none⟩) hnl).trans c2
  have hrng := run_range0 (P := Tryz.prog) (T := 234) (K := 202) (E := 202) (by kernel_rfl) hYm
  have hnx : ∀ T, (Instr.next (.pointer (some ⟨W.heap.size, 0, none⟩)) false T).run Tryz.prog (W.alloc (.mapIter (some Y) 0 #[] 0)) = .ok (.tuple #[.bool false]) (W.alloc (.mapIter (some Y) 0 #[] 0)) := fun T => run_next0 (by rw [alloc_heap_if, if_pos rfl]) (by rw [alloc_heap_if, if_neg (by omega)]; exact hYm)
  clear c1 c2 hn1 hb1
  go_upto_region 4 with fail
  go_loopw [18] (fun z wr => z = .int .i64 0 ∧ wr = W) (fun _ _ => 0)
  case atStart => exact ⟨rfl, rfl⟩
  case round =>
    obtain ⟨rfl, rfl⟩ := hrel
    go_upto_region 13 with fail
    have hB2 : Below w.heap.size w (wr.alloc (.mapIter (some Y) 0 #[] 0)) := hB.alloc hB.size _
    have hcl := (Array.getElem?_eq_some_iff.1 hc).1
    have hc2 : (wr.alloc (.mapIter (some Y) 0 #[] 0)).heap[w.heap.size + 2]? = some (.cells #[.map (some w.heap.size), noS, noS, .map (some (w.heap.size + 1)), .bool true] 87 (0, 0)) := by rw [alloc_heap_if, if_neg (by omega)]; exact hc
    have j2 : (wr.alloc (.mapIter (some Y) 0 #[] 0)).cell? ⟨n + 6, 2, none⟩ = some (.slice none 0 0) := (((Below.refl wr.heap.size wr).alloc (Nat.le_refl _) _).cell (p := ⟨n + 6, 2, none⟩) (by show n + 6 < _; have := hB.size; omega)).trans k2
    have htw := twins_none (Y + 1)
    generalize wr.alloc (.mapIter (some Y) 0 #[] 0) = W2 at hB2 hc2 hnx j2 ⊢
    generalize wr.heap.size = Z at hnx ⊢
    have s1 : W2.cell? ⟨w.heap.size + 2, 1, none⟩ = some (.slice none 0 0) := by simp [World.cell?, hc2, noS]
    have s2 : W2.cell? ⟨w.heap.size + 2, 2, none⟩ = some (.slice none 0 0) := by simp [World.cell?, hc2, noS]
    have s4 : W2.cell? ⟨w.heap.size + 2, 4, none⟩ = some (.bool true) := by simp [World.cell?, hc2, noS]
    have f2 : W2.frozen? ⟨w.heap.size + 2, 2, none⟩ = false := by simp [World.frozen?, hc2]
    have f4 : W2.frozen? ⟨w.heap.size + 2, 4, none⟩ = false := by simp [World.frozen?, hc2]
    go_loopw [] (fun ws => ws = W2) (fun _ => 0)
    case atStart => rfl
    case round =>
      obtain rfl := hrel
      go_wp2_with (go_at_call 175; refine (htw _).mono ?_; rintro e w5 ⟨rfl, rfl⟩)
      go_ret
      refine ⟨_, rfl, ⟨w.heap.size, w.heap.size + 1, ?_⟩, (hB2.setCell (p := ⟨w.heap.size + 2, 2, none⟩) (by show w.heap.size ≤ w.heap.size + 2; omega) _).setCell (p := ⟨w.heap.size + 2, 4, none⟩) (by show w.heap.size ≤ w.heap.size + 2; omega) _⟩
      simp [World.setCell, Array.getElem?_modify, hc2, noS]
end Go.Proofs.YthhbiliimdpgmaaGreatDoor
/- Walk: At of a sequence without units. -/
namespace Go.Proofs.YthhbiliimdpgmaaGreatDoor
open Go.RowKit Go.Lib

theorem seqAt_none (b : Nat) (i : Int) (w : World) (hb : b < w.heap.size) (h : w.cell? ⟨b, 1, none⟩ = some (.slice none 0 0)) (hi : 0 ≤ i) :
    Calls Tryz.prog 96 #[.pointer (some ⟨b, 0, none⟩), .int .i64 i] w fun e w' => e = .returned (.tuple #[.agg #[.int .u64 0, .int .u64 0, .int .u64 0, .int .u64 0, .int .u64 0, .int .u64 0], .bool false]) ∧ Below w.heap.size w w' := by
  have d1 : decide (i < 0) = false := by simp; omega
  have d2 : decide (0 ≤ i) = true := by simpa using hi
  go_enter Tryz.func96, Tryz.ntmps96
  go_wp2
  refine bodyPost_ret (v := .tuple #[.agg #[.int .u64 0, .int .u64 0, .int .u64 0, .int .u64 0, .int .u64 0, .int .u64 0], .bool false]) ?_ rfl ⟨rfl, by (repeat (first | exact Below.refl _ _ | assumption | refine Below.alloc ?_ (by simp <;> omega) _ | refine Below.drew ?_ | refine below_drewN ?_ _ | refine Below.setCell ?_ (by simp <;> omega) _ | refine belowTrans ?_ (by assumption)))⟩
  simp [results, Tryz.results96, go_sem]
end Go.Proofs.YthhbiliimdpgmaaGreatDoor
/- As XFlow3: reads, then whatever orders there are, as a tree. -/
namespace Go.Proofs.YthhbiliimdpgmaaGreatDoor
open Go.RowKit
section
variable {P : Program} {ops : Array Oper} {md : Region.Mode} {S : World → Prop} {Q : Exit → Act → World → Prop}

/-- the orders: one operation that is ready, or two. -/
inductive OT where
  | nil : OT
  | one (i : Nat) (t : OT) : OT
  | two (i : Nat) (t : OT) (j : Nat) (u : OT) : OT
def OT.len : OT → Nat
  | .nil => 0
  | .one _ t => t.len + 1
  | .two _ t _ _ => t.len + 1
def wpTreeF (P : Program) (ops : Array Oper) (Q : Exit → Act → World → Prop) (S : World → Prop) (n : Nat) : OT → Act → World → Prop
  | .nil, a, w => Q .normal a w
  | .one i t, a, w => wpOp P ops Q i (fun a' w' => (i < n → S w') ∧ wpTreeF P ops Q S n t a' w') a w
  | .two i t j u, a, w => wpOp P ops Q i (fun a' w' => (i < n → S w') ∧ wpTreeF P ops Q S n t a' w') a w ∧ wpOp P ops Q j (fun a' w' => (j < n → S w') ∧ wpTreeF P ops Q S n u a' w') a w
def treeB (md : Region.Mode) (ops : Array Oper) : OT → Array Bool → Bool
  | .nil, listed => (Region.ready md ops listed).isEmpty
  | .one i t, listed => decide (Region.ready md ops listed = [i]) && treeB md ops t (listed.setIfInBounds i true)
  | .two i t j u, listed => decide (Region.ready md ops listed = [i, j]) && decide (t.len = u.len) && treeB md ops t (listed.setIfInBounds i true) && treeB md ops u (listed.setIfInBounds j true)
theorem wpAnyF_tree {n : Nat} : ∀ (t : OT) (listed : Array Bool) (a : Act) (w : World), treeB md ops t listed = true → wpTreeF P ops Q S n t a w → wpAnyF P md ops Q S n t.len listed a w
  | .nil, listed, a, w, hB, h => ⟨by simpa [treeB] using hB, h⟩
  | .one i t, listed, a, w, hB, h => by
    simp only [treeB, Bool.and_eq_true, decide_eq_true_eq] at hB
    refine ⟨fun h0 => (by rw [hB.1] at h0; cases h0), fun j hj => ?_⟩
    rw [hB.1] at hj
    obtain rfl : j = i := by simpa using hj
    exact wpOp_mono (fun a' w' h' => ⟨h'.1, wpAnyF_tree t _ a' w' hB.2 h'.2⟩) h
  | .two i t j u, listed, a, w, hB, h => by
    simp only [treeB, Bool.and_eq_true, decide_eq_true_eq] at hB
    obtain ⟨⟨⟨h1, h2⟩, h3⟩, h4⟩ := hB
    refine ⟨fun h0 => (by rw [h1] at h0; cases h0), fun k hk => ?_⟩
    rw [h1] at hk
    rcases List.mem_cons.1 hk with rfl | hk
    · exact wpOp_mono (fun a' w' h' => ⟨h'.1, wpAnyF_tree t _ a' w' h3 h'.2⟩) h.1
    · obtain rfl : k = j := by simpa using hk
      refine wpOp_mono (fun a' w' h' => ⟨h'.1, ?_⟩) h.2
      show wpAnyF P md ops Q S n t.len _ a' w'
      rw [h2]
      exact wpAnyF_tree u _ a' w' h4 h'.2
def flow6B (md : Region.Mode) (ops : Array Oper) (n : Nat) (rs : List Nat) (t : OT) : Bool :=
  Region.noSelect ops && tailT md ops n rs && readsB3 md ops rs (Array.replicate ops.size false) && treeB md ops t (listAll rs (Array.replicate ops.size false)) && decide (t.len + rs.length = ops.size)
theorem wp_region_flow6 {id : Nat} {a : Act} {w : World} {l : List Oper} (n : Nat) (rs : List Nat) (t : OT) (S : World → Prop) (hm : P.follows .mixedOrders = true) (hB : flow6B .any l.toArray n rs t = true)
    (hQ : ∀ c a d v w, Q (.panic c) (Act.put a d v) w → Q (.panic c) a w) (hS : S w.drew)
    (h : wpQuiet P l.toArray S (fun a' => wpTreeF P l.toArray Q S n t a' w.drew) (rs.map fun i => (l[i]?).getD default) a) : (Code.region id l.toArray true).wp P Q a w := by
  unfold flow6B at hB
  simp only [Bool.and_eq_true, decide_eq_true_eq] at hB
  obtain ⟨⟨⟨⟨h1, h2⟩, h3⟩, h4⟩, h5⟩ := hB
  refine wp_region_any hm (wpAny_of_flow (S := S) (n := n) _ _ _ _ ?_)
  suffices H : wpAnyF P .any l.toArray Q S n (t.len + rs.length) (Array.replicate l.toArray.size false) a w.drew by rw [h5] at H; exact H
  refine wpAnyF_reads3 h1 hQ rs t.len _ a w.drew (fun a' => wpTreeF P l.toArray Q S n t a' w.drew) (Closed.none _) h2 h3 hS (fun a' h' => wpAnyF_tree t _ a' _ h4 h') ?_
  simpa using h
theorem wpOpF_step {n i : Nat} {a : Act} {w : World} {o : Oper} {K : Act → World → Prop} (ho : ops[i]? = some o)
    (h : wpList P ops (fun e a' w' => match e with | .normal => (i < n → S w') ∧ K a' w' | e => Q e a' w') [o] a w) : wpOp P ops Q i (fun a' w' => (i < n → S w') ∧ K a' w') a w := by
  unfold wpOp
  simp only [ho]
  unfold wpList at h
  split
  · rename_i hw
    rw [if_pos hw] at h
    exact h
  · rename_i hw
    rw [if_neg hw] at h
    exact h
theorem wpTreeF_one {n i : Nat} {t : OT} {a : Act} {w : World} {o : Oper} (ho : ops[i]? = some o)
    (h : wpList P ops (fun e a' w' => match e with | .normal => (i < n → S w') ∧ wpTreeF P ops Q S n t a' w' | e => Q e a' w') [o] a w) : wpTreeF P ops Q S n (.one i t) a w := wpOpF_step ho h
theorem wpTreeF_two {n i j : Nat} {t u : OT} {a : Act} {w : World} (h1 : wpTreeF P ops Q S n (.one i t) a w) (h2 : wpTreeF P ops Q S n (.one j u) a w) : wpTreeF P ops Q S n (.two i t j u) a w := ⟨h1, h2⟩
theorem wpTreeF_nil {n : Nat} {a : Act} {w : World} (h : Q .normal a w) : wpTreeF P ops Q S n .nil a w := h
end
end Go.Proofs.YthhbiliimdpgmaaGreatDoor
/- As XFlow6: reads may come in between; any orders of what makes and writes, as a tree. -/
namespace Go.Proofs.YthhbiliimdpgmaaGreatDoor
open Go.RowKit
section
variable {P : Program} {ops : Array Oper} {md : Region.Mode} {S : World → Prop} {Q : Exit → Act → World → Prop}

/-- reads, or one operation that is ready, or two, or three. -/
inductive RT where
  | nil : RT
  | rd (rs : List Nat) (t : RT) : RT
  | one (i : Nat) (t : RT) : RT
  | two (i : Nat) (t : RT) (j : Nat) (u : RT) : RT
  | three (i : Nat) (t : RT) (j : Nat) (u : RT) (k : Nat) (v : RT) : RT
def RT.len : RT → Nat
  | .nil => 0
  | .rd rs t => t.len + rs.length
  | .one _ t => t.len + 1
  | .two _ t _ _ => t.len + 1
  | .three _ t _ _ _ _ => t.len + 1
def wpRT (P : Program) (ops : Array Oper) (Q : Exit → Act → World → Prop) (S : World → Prop) : RT → Act → World → Prop
  | .nil, a, w => Q .normal a w
  | .rd rs t, a, w => wpQuiet P ops S (fun a' => wpRT P ops Q S t a' w) (rs.map fun i => (ops[i]?).getD default) a
  | .one i t, a, w => wpOp P ops Q i (fun a' w' => S w' ∧ wpRT P ops Q S t a' w') a w
  | .two i t j u, a, w => wpOp P ops Q i (fun a' w' => S w' ∧ wpRT P ops Q S t a' w') a w ∧ wpOp P ops Q j (fun a' w' => S w' ∧ wpRT P ops Q S u a' w') a w
  | .three i t j u k v, a, w => wpOp P ops Q i (fun a' w' => S w' ∧ wpRT P ops Q S t a' w') a w ∧ wpOp P ops Q j (fun a' w' => S w' ∧ wpRT P ops Q S u a' w') a w ∧ wpOp P ops Q k (fun a' w' => S w' ∧ wpRT P ops Q S v a' w') a w
def rtB (md : Region.Mode) (ops : Array Oper) : RT → Array Bool → Bool
  | .nil, listed => (Region.ready md ops listed).isEmpty
  | .rd rs t, listed => readsB3 md ops rs listed && rtB md ops t (listAll rs listed)
  | .one i t, listed => decide (Region.ready md ops listed = [i]) && rtB md ops t (listed.setIfInBounds i true)
  | .two i t j u, listed => decide (Region.ready md ops listed = [i, j]) && decide (t.len = u.len) && rtB md ops t (listed.setIfInBounds i true) && rtB md ops u (listed.setIfInBounds j true)
  | .three i t j u k v, listed => decide (Region.ready md ops listed = [i, j, k]) && decide (t.len = u.len) && decide (t.len = v.len) && rtB md ops t (listed.setIfInBounds i true) && rtB md ops u (listed.setIfInBounds j true) && rtB md ops v (listed.setIfInBounds k true)
theorem closed_all : ∀ (rs : List Nat) (listed : Array Bool), Closed md ops listed → readsB3 md ops rs listed = true → Closed md ops (listAll rs listed)
  | [], _, hc, _ => hc
  | i :: rs, listed, hc, h => by
    simp only [readsB3, Bool.and_eq_true] at h
    exact closed_all rs _ (hc.step (by simpa using h.1.1.2)) h.2
theorem wpAnyF_rt (hs : Region.noSelect ops = true) (hQ : ∀ c a d v w, Q (.panic c) (Act.put a d v) w → Q (.panic c) a w) :
    ∀ (t : RT) (listed : Array Bool) (a : Act) (w : World), Closed md ops listed → S w → rtB md ops t listed = true → wpRT P ops Q S t a w → wpAnyF P md ops Q S ops.size t.len listed a w
  | .nil, listed, a, w, _, _, hB, h => ⟨by simpa [rtB] using hB, h⟩
  | .rd rs t, listed, a, w, hc, hS, hB, h => by
    simp only [rtB, Bool.and_eq_true] at hB
    refine wpAnyF_reads3 hs hQ rs t.len listed a w (fun a' => wpRT P ops Q S t a' w) hc ?_ hB.1 hS (fun a' h' => wpAnyF_rt hs hQ t _ a' w (closed_all rs listed hc hB.1) hS hB.2 h') h
    unfold tailT
    rw [List.all_eq_true]
    intro x hx
    simp [List.mem_range.1 hx]
  | .one i t, listed, a, w, hc, _, hB, h => by
    simp only [rtB, Bool.and_eq_true, decide_eq_true_eq] at hB
    refine ⟨fun h0 => (by rw [hB.1] at h0; cases h0), fun j hj => ?_⟩
    have hj2 := hj
    rw [hB.1] at hj
    obtain rfl : j = i := by simpa using hj
    exact wpOp_mono (fun a' w' h' => ⟨fun _ => h'.1, wpAnyF_rt hs hQ t _ a' w' (hc.step hj2) h'.1 hB.2 h'.2⟩) h
  | .two i t j u, listed, a, w, hc, _, hB, h => by
    simp only [rtB, Bool.and_eq_true, decide_eq_true_eq] at hB
    obtain ⟨⟨⟨h1, h2⟩, h3⟩, h4⟩ := hB
    refine ⟨fun h0 => (by rw [h1] at h0; cases h0), fun k hk => ?_⟩
    have hk2 := hk
    rw [h1] at hk
    rcases List.mem_cons.1 hk with rfl | hk
    · exact wpOp_mono (fun a' w' h' => ⟨fun _ => h'.1, wpAnyF_rt hs hQ t _ a' w' (hc.step hk2) h'.1 h3 h'.2⟩) h.1
    · obtain rfl : k = j := by simpa using hk
      refine wpOp_mono (fun a' w' h' => ⟨fun _ => h'.1, ?_⟩) h.2
      show wpAnyF P md ops Q S ops.size t.len _ a' w'
      rw [h2]
      exact wpAnyF_rt hs hQ u _ a' w' (hc.step hk2) h'.1 h4 h'.2
  | .three i t j u k v, listed, a, w, hc, _, hB, h => by
    simp only [rtB, Bool.and_eq_true, decide_eq_true_eq] at hB
    obtain ⟨⟨⟨⟨⟨h1, h2⟩, h3⟩, h4⟩, h5⟩, h6⟩ := hB
    refine ⟨fun h0 => (by rw [h1] at h0; cases h0), fun l hl => ?_⟩
    have hl2 := hl
    rw [h1] at hl
    rcases List.mem_cons.1 hl with rfl | hl
    · exact wpOp_mono (fun a' w' h' => ⟨fun _ => h'.1, wpAnyF_rt hs hQ t _ a' w' (hc.step hl2) h'.1 h4 h'.2⟩) h.1
    · rcases List.mem_cons.1 hl with rfl | hl
      · refine wpOp_mono (fun a' w' h' => ⟨fun _ => h'.1, ?_⟩) h.2.1
        show wpAnyF P md ops Q S ops.size t.len _ a' w'
        rw [h2]
        exact wpAnyF_rt hs hQ u _ a' w' (hc.step hl2) h'.1 h5 h'.2
      · obtain rfl : l = k := by simpa using hl
        refine wpOp_mono (fun a' w' h' => ⟨fun _ => h'.1, ?_⟩) h.2.2
        show wpAnyF P md ops Q S ops.size t.len _ a' w'
        rw [h3]
        exact wpAnyF_rt hs hQ v _ a' w' (hc.step hl2) h'.1 h6 h'.2
def flow7B (md : Region.Mode) (ops : Array Oper) (t : RT) : Bool :=
  Region.noSelect ops && rtB md ops t (Array.replicate ops.size false) && decide (t.len = ops.size)
theorem wp_region_flow7 {id : Nat} {a : Act} {w : World} {l : List Oper} (t : RT) (S : World → Prop) (hm : P.follows .mixedOrders = true) (hB : flow7B .any l.toArray t = true)
    (hQ : ∀ c a d v w, Q (.panic c) (Act.put a d v) w → Q (.panic c) a w) (hS : S w.drew)
    (h : wpRT P l.toArray Q S t a w.drew) : (Code.region id l.toArray true).wp P Q a w := by
  unfold flow7B at hB
  simp only [Bool.and_eq_true, decide_eq_true_eq] at hB
  obtain ⟨⟨h1, h2⟩, h3⟩ := hB
  refine wp_region_any hm (wpAny_of_flow (S := S) (n := l.toArray.size) _ _ _ _ ?_)
  suffices H : wpAnyF P .any l.toArray Q S l.toArray.size t.len (Array.replicate l.toArray.size false) a w.drew by rw [h3] at H; exact H
  exact wpAnyF_rt h1 hQ t _ a _ (Closed.none _) hS h2 h
theorem wpRT_one {i : Nat} {t : RT} {a : Act} {w : World} {o : Oper} (ho : ops[i]? = some o)
    (h : wpList P ops (fun e a' w' => match e with | .normal => S w' ∧ wpRT P ops Q S t a' w' | e => Q e a' w') [o] a w) : wpRT P ops Q S (.one i t) a w := by
  unfold wpRT wpOp
  simp only [ho]
  unfold wpList at h
  split
  · rename_i hw
    rw [if_pos hw] at h
    exact h
  · rename_i hw
    rw [if_neg hw] at h
    exact h
theorem wpRT_two {i j : Nat} {t u : RT} {a : Act} {w : World} (h1 : wpRT P ops Q S (.one i t) a w) (h2 : wpRT P ops Q S (.one j u) a w) : wpRT P ops Q S (.two i t j u) a w := ⟨h1, h2⟩
theorem wpRT_three {i j k : Nat} {t u v : RT} {a : Act} {w : World} (h1 : wpRT P ops Q S (.one i t) a w) (h2 : wpRT P ops Q S (.one j u) a w) (h3 : wpRT P ops Q S (.one k v) a w) : wpRT P ops Q S (.three i t j u k v) a w := ⟨h1, h2, h3⟩
theorem wpRT_nil {a : Act} {w : World} (h : Q .normal a w) : wpRT P ops Q S .nil a w := h
theorem wpRT_rd {rs : List Nat} {t : RT} {a : Act} {w : World} (h : wpQuiet P ops S (fun a' => wpRT P ops Q S t a' w) (rs.map fun i => (ops[i]?).getD default) a) : wpRT P ops Q S (.rd rs t) a w := h
end
/-- a world of a class, as a type. -/
structure CStep (S : World → Prop) where
  val : World
  h : S val
theorem CStep.to {S : World → Prop} {w' : World} (h : S w') : ∃ p : CStep S, w' = p.val := ⟨⟨w', h⟩, rfl⟩
end Go.Proofs.YthhbiliimdpgmaaGreatDoor
/- Walk: slices.Insert of one node behind the last one. -/
namespace Go.Proofs.YthhbiliimdpgmaaGreatDoor
open Go.RowKit

def ptrV (b : Nat) : Value := .pointer (some ⟨b, 0, none⟩)
def encP (b : Nat) : List Value := [ptrV b]
theorem infoP : (Tryz.prog.info? 202).map (fun i => (i.zero, i.size, i.bytes)) = some (some (.pointer none), 1, 8) := by kernel_rfl
def GrowP (base : Nat) (sv : Value) (l : List Nat) (w : World) (v : Value) (w' : World) : Prop :=
  OwnAt base 202 1 encP w' v l ∧ w.grownBy w' sv.ownBlock ∧ (v.ownBlock = sv.ownBlock ∨ v.ownBlock = some w.heap.size)
theorem slice_tail_run (base : Nat) (sv : Value) (k : Nat) (xs : List Value) (w : World) (ho : w.ownsRow base 202 1 sv k xs) (hk : k ≤ 1000) :
    ∃ u, ∀ w', (Instr.slice 85 sv (some (.int .i64 (k : Int))) none none).run Tryz.prog w' = .ok u w' := by
  rcases ho.2 with ⟨rfl, h⟩ | ⟨g, cap, cur, rfl, _, _, hc, hm, _⟩
  · subst h
    exact ⟨.slice none 0 0, fun w' => by kernel_rfl⟩
  · obtain ⟨off, _, h⟩ := slice_l_run (T := 85) (k := 1) (by kernel_rfl) (fun w => by kernel_rfl) g 0 k cap k (Nat.le_refl _) hc
    exact ⟨_, h⟩
set_option maxRecDepth 100000 in
theorem insert_end (base : Nat) (sv : Value) (l : List Nat) (k b vb vc : Nat) (w : World) (ho : OwnAt base 202 1 encP w sv l) (hkl : l.length = k) (hv : w.cell? ⟨vb, 0, none⟩ = some (ptrV b)) (hb : base ≤ w.heap.size) (hn : k ≤ 1000) :
    Calls Tryz.prog 188 #[sv, .int .i64 (k : Int), .slice (some ⟨vb, 0, none⟩) 1 vc] w (RetW (GrowP base sv (l ++ [b]) w)) := by
  have ho2 : w.ownsRow base 202 1 sv k (l.flatMap encP) := by rw [← hkl]; exact ho
  obtain ⟨i0, hi, hz0, hz1, hz2⟩ := info_parts infoP
  obtain ⟨u, hsl⟩ := slice_tail_run base sv k _ w ho2 hn
  obtain ⟨p, c, rfl⟩ : ∃ p c, sv = .slice p k c := by
    rcases ho2.2 with ⟨rfl, h⟩ | ⟨g, cap, cur, rfl, _⟩
    · exact ⟨none, 0, by rw [h]⟩
    · exact ⟨_, _, rfl⟩
  have HK := Lib.hid hkl
  clear ho hkl
  go_enter Tryz.func188, Tryz.ntmps188
  go_wp2_with (at_builtin; refine wpList_append_own_at _ rfl _ _ 85 rfl base 202 i0 (.pointer none) 1 8 Tryz.underlying85 hi hz0 hz1 hz2 rfl (by decide) _ k _ rfl ho2 ⟨vb, 0, none⟩ 1 vc [ptrV b] rfl rfl ?f1 ?f2 ?f3 ?f4 hb ?_)
  case f1 => intro j y hj; match j, hj with | 0, hj => (simp at hj; subst hj; exact hv)
  case f2 => intro y hy; simp at hy; subst hy; rfl
  case f3 => unfold maxLen; omega
  case f4 => omega
  intro v' w' hown hgrow _ hblk
  have HO := Lib.hid hown
  clear hown
  go_wp2
  go_ret
  refine ⟨v', rfl, ?_, hgrow, hblk⟩
  unfold OwnAt
  rw [List.length_append, List.flatMap_append, HK.out]
  simpa [encP] using HO.out
end Go.Proofs.YthhbiliimdpgmaaGreatDoor
/- Units of a sequence, as data. -/
namespace Go.Proofs.YthhbiliimdpgmaaGreatDoor

structure QUnit where
  id : QId
  left : QId
  right : QId
def uZero : QUnit := ⟨idZero, idZero, idZero⟩
instance : Inhabited QUnit := ⟨uZero⟩
end Go.Proofs.YthhbiliimdpgmaaGreatDoor
/- Sequences in memory: their maps, their nodes. -/
namespace Go.Proofs.YthhbiliimdpgmaaGreatDoor
open Go.RowKit Go.Lib

def encUnit (u : QUnit) : List Value := [.int .u64 u.id.c, .int .u64 u.id.k, .int .u64 u.left.c, .int .u64 u.left.k, .int .u64 u.right.c, .int .u64 u.right.k]
def unitV (u : QUnit) : Value := .agg (encUnit u).toArray
/-- a sequence's box and maps: nodes by ids, places by ids, the order, the root's children, whether the places are fresh. -/
structure SeqM (n : Nat) (W : World) (am om : List (QId × Value)) (ord root : Value) (fr : Bool) : Prop where
  all : MapK idV W (n + 4) am
  at_ : MapK idV W (n + 5) om
  sq : W.heap[n + 6]? = some (.cells #[.map (some (n + 4)), ord, root, .map (some (n + 5)), .bool fr] 87 (0, 0))
theorem SeqM.keep {n : Nat} {W W' : World} {am om : List (QId × Value)} {ord root : Value} {fr : Bool} (h : SeqM n W am om ord root fr) (hb : ∀ b, b = n + 4 ∨ b = n + 5 ∨ b = n + 6 → W'.heap[b]? = W.heap[b]?) : SeqM n W' am om ord root fr where
  all := h.all.blk (hb _ (by omega))
  at_ := h.at_.blk (hb _ (by omega))
  sq := (hb _ (by omega)).trans h.sq
theorem SeqM.cell {n : Nat} {W : World} {am om : List (QId × Value)} {ord root : Value} {fr : Bool} (h : SeqM n W am om ord root fr) (k : Nat) (v : Value)
    (hk : (#[Value.map (some (n + 4)), ord, root, .map (some (n + 5)), .bool fr])[k]? = some v) : W.cell? ⟨n + 6, k, none⟩ = some v := by
  simp only [World.cell?, h.sq]
  simpa using hk
theorem SeqM.frz {n : Nat} {W : World} {am om : List (QId × Value)} {ord root : Value} {fr : Bool} (h : SeqM n W am om ord root fr) (k : Nat) : W.frozen? ⟨n + 6, k, none⟩ = false := by
  simp only [World.frozen?, h.sq]
  simp
theorem SeqM.lt {n : Nat} {W : World} {am om : List (QId × Value)} {ord root : Value} {fr : Bool} (h : SeqM n W am om ord root fr) : n + 6 < W.heap.size := (Array.getElem?_eq_some_iff.1 h.sq).1
/-- a node's box: its unit, its parent, its children on both sides, how many are below it. -/
def nodeCells (u : QUnit) (p l r : Value) (s : Int) : Array Value := #[.int .u64 u.id.c, .int .u64 u.id.k, .int .u64 u.left.c, .int .u64 u.left.k, .int .u64 u.right.c, .int .u64 u.right.k, p, l, r, .int .i64 s]
def NodeAt (W : World) (b : Nat) (u : QUnit) (p l r : Value) (s : Int) : Prop := W.heap[b]? = some (.cells (nodeCells u p l r s) 204 (0, 0))
theorem NodeAt.cell {W : World} {b : Nat} {u : QUnit} {p l r : Value} {s : Int} (h : NodeAt W b u p l r s) (k : Nat) (v : Value) (hk : (nodeCells u p l r s)[k]? = some v) : W.cell? ⟨b, k, none⟩ = some v := by
  simp only [World.cell?, show W.heap[b]? = _ from h]
  simpa using hk
theorem NodeAt.frz {W : World} {b : Nat} {u : QUnit} {p l r : Value} {s : Int} (h : NodeAt W b u p l r s) (k : Nat) : W.frozen? ⟨b, k, none⟩ = false := by
  simp only [World.frozen?, show W.heap[b]? = _ from h]
  simp
theorem NodeAt.lt {W : World} {b : Nat} {u : QUnit} {p l r : Value} {s : Int} (h : NodeAt W b u p l r s) : b < W.heap.size := (Array.getElem?_eq_some_iff.1 h).1
theorem NodeAt.setP {W : World} {b : Nat} {u : QUnit} {p l r : Value} {s : Int} (h : NodeAt W b u p l r s) (v : Value) : NodeAt (W.setCell ⟨b, 6, none⟩ v) b u v l r s := by
  unfold NodeAt at *
  simp [World.setCell, Array.getElem?_modify, h, nodeCells]
theorem NodeAt.setR {W : World} {b : Nat} {u : QUnit} {p l r : Value} {s : Int} (h : NodeAt W b u p l r s) (v : Value) : NodeAt (W.setCell ⟨b, 8, none⟩ v) b u p l v s := by
  unfold NodeAt at *
  simp [World.setCell, Array.getElem?_modify, h, nodeCells]
theorem NodeAt.setS {W : World} {b : Nat} {u : QUnit} {p l r : Value} {s : Int} (h : NodeAt W b u p l r s) (v : Int) : NodeAt (W.setCell ⟨b, 9, none⟩ (.int .i64 v)) b u p l r v := by
  unfold NodeAt at *
  simp [World.setCell, Array.getElem?_modify, h, nodeCells]
theorem SeqM.setOrd {n : Nat} {W : World} {am om : List (QId × Value)} {ord root : Value} {fr : Bool} (h : SeqM n W am om ord root fr) (v : Value) : SeqM n (W.setCell ⟨n + 6, 1, none⟩ v) am om v root fr where
  all := h.all.blk (Below.heap_setCell _ _ _ _ (by show ¬ n + 4 = n + 6; omega))
  at_ := h.at_.blk (Below.heap_setCell _ _ _ _ (by show ¬ n + 5 = n + 6; omega))
  sq := by simp [World.setCell, Array.getElem?_modify, h.sq]
theorem SeqM.setRoot {n : Nat} {W : World} {am om : List (QId × Value)} {ord root : Value} {fr : Bool} (h : SeqM n W am om ord root fr) (v : Value) : SeqM n (W.setCell ⟨n + 6, 2, none⟩ v) am om ord v fr where
  all := h.all.blk (Below.heap_setCell _ _ _ _ (by show ¬ n + 4 = n + 6; omega))
  at_ := h.at_.blk (Below.heap_setCell _ _ _ _ (by show ¬ n + 5 = n + 6; omega))
  sq := by simp [World.setCell, Array.getElem?_modify, h.sq]
theorem SeqM.setFresh {n : Nat} {W : World} {am om : List (QId × Value)} {ord root : Value} {fr : Bool} (h : SeqM n W am om ord root fr) (v : Bool) : SeqM n (W.setCell ⟨n + 6, 4, none⟩ (.bool v)) am om ord root v where
  all := h.all.blk (Below.heap_setCell _ _ _ _ (by show ¬ n + 4 = n + 6; omega))
  at_ := h.at_.blk (Below.heap_setCell _ _ _ _ (by show ¬ n + 5 = n + 6; omega))
  sq := by simp [World.setCell, Array.getElem?_modify, h.sq]
theorem eqIds (x y : QId) (w : World) : (binOp BinOp.eql 28 (.agg #[.int .u64 x.c, .int .u64 x.k]) (.agg #[.int .u64 y.c, .int .u64 y.k])).run Tryz.prog w = .ok (.bool (decide (x = y))) w := by
  have h := idEqual w x y
  unfold idV at h
  simp only [binOp, Sem.run_bind, h, Result.andThen_ok, Sem.run_pure]
theorem zeroNode (w : World) : (zeroValue 202).run Tryz.prog w = .ok (.pointer none) w := by kernel_rfl
/-- a node of the sequence, by its id. -/
theorem seqLook {n : Nat} {W : World} {am om : List (QId × Value)} {ord root : Value} {fr : Bool} (h : SeqM n W am om ord root fr) (x : QId) :
    (Instr.lookup 83 (.map (some (n + 4))) (.agg #[.int .u64 x.c, .int .u64 x.k]) false).run Tryz.prog W = .ok ((look am x).getD (.pointer none)) W := by
  have := run_look idKey (T := 83) (E := 202) (by kernel_rfl) zeroNode h.all x false
  simpa [idV] using this
theorem seqLookAt {n : Nat} {W : World} {am om : List (QId × Value)} {ord root : Value} {fr : Bool} (h : SeqM n W am om ord root fr) (x : QId) :
    (Instr.lookup 84 (.map (some (n + 5))) (.agg #[.int .u64 x.c, .int .u64 x.k]) false).run Tryz.prog W = .ok ((look om x).getD (.int .i64 0)) W := by
  have := run_look idKey (T := 84) (E := 3) (by kernel_rfl) (z := .int .i64 0) (fun w => by kernel_rfl) h.at_ x false
  simpa [idV] using this
end Go.Proofs.YthhbiliimdpgmaaGreatDoor
