/- Walks: SortStableFunc and CompactFunc of operations that stand in order. -/
import Derived.Test.YtaeebgljcdfolaaGreatDoorM30
import Derived.Test.YtaeebgljcdfolaaGreatDoorM11
namespace Go.Proofs.YtaeebgljcdfolaaGreatDoor
open Go.RowKit Go.Lib

set_option maxRecDepth 100000 in
set_option maxHeartbeats 4000000 in
theorem insOp_any (p : Option Addr) (cap : Nat) (l : List QOp) (w : World) (hl : SliceAt 22 encOp w (.slice p l.length cap) l) (ho : l.Pairwise fun x y => x.id.c < y.id.c) (hn : l.length ≤ 100000) :
    Calls Tryz.prog 134 #[.slice p l.length cap, .int .i64 0, .int .i64 l.length, .func (.func 77) #[] #[]] w (BelowR w) := by
  have Ho := Lib.hid ho
  clear ho
  go_enter Tryz.func134, Tryz.ntmps134
  go_wp2
  go_loopw [8] (fun i wr => ∃ k : Nat, 1 ≤ k ∧ k ≤ l.length + 1 ∧ i = .int .i64 k ∧ Below w.heap.size w wr) (fun i _ => l.length + 1 - (intOf i).toNat)
  case atStart => exact ⟨1, Nat.le_refl _, by omega, rfl, Below.refl _ _⟩
  case round =>
    obtain ⟨k, hk1, hk2, rfl, hb⟩ := hrel
    by_cases hlt : k < l.length
    · have hltz : (k : Int) < (l.length : Int) := by omega
      obtain ⟨b, off, rfl⟩ : ∃ b off, p = some ⟨b, off, none⟩ := by
        rcases hl with ⟨_, h⟩ | ⟨b0, off, _, h, _⟩
        · rw [h] at hlt; simp at hlt
        · cases h; exact ⟨_, _, rfl⟩
      obtain ⟨i, rfl⟩ : ∃ i, k = i + 1 := ⟨k - 1, by omega⟩
      go_upto_region 3 with fail
      go_wp2_with fail
      obtain ⟨wo, rfl⟩ : ∃ wo, wo = wr := ⟨_, rfl⟩
      go_loopw [9] (fun jv wx => jv = .int .i64 ((i + 1 : Nat) : Int) ∧ Below w.heap.size w wx) (fun _ _ => 0)
      case atStart => exact ⟨rfl, hb⟩
      case round =>
        obtain ⟨rfl, hbx⟩ := hrel
        have hlx := hl.below hbx
        obtain ⟨_, hbl, hxc⟩ := opCells hlx (k := i + 1) (x := l[i + 1]) (by simp)
        obtain ⟨_, _, hyc⟩ := opCells hlx (k := i) (x := l[i]'(by omega)) (by simp)
        have hxy : (l[i]'(by omega)).id.c < l[i + 1].id.c := List.pairwise_iff_getElem.1 Ho.out i (i + 1) (by omega) hlt (by omega)
        generalize l[i + 1] = x at hxc hxy
        generalize l[i]'(by omega) = y at hyc hxy
        have hcm := join2_any x y hxy
        have l1 : ∀ w', (∃ s : BStep wr, w' = s.val) → (loadVar 35 ⟨b, off + (i + 1) * 22, none⟩).run Tryz.prog w' = .ok (opV x) w' := by
          rintro _ ⟨s, rfl⟩
          exact load_op (hxc.below s.h hbl)
        have l2 : ∀ w', (∃ s : BStep wr, w' = s.val) → (loadVar 35 ⟨b, off + i * 22, none⟩).run Tryz.prog w' = .ok (opV y) w' := by
          rintro _ ⟨s, rfl⟩
          exact load_op (hyc.below s.h hbl)
        have d1 : decide ((0 : Int) < ((i + 1 : Nat) : Int)) = true := by simp
        have hib : i + 1 < l.length := hlt
        have hi0 : (0 : Int) ≤ (i : Int) := by omega
        clear hlx hxc hyc
        go_wp2_with fail
        refine wp_region_b (by kernel_rfl) (by kernel_rfl) ?_
        repeat (first | go_big_quiet_skip | (go_big_quiet_want; first | ((first | refine quiet_load 35 _ _ rfl rfl l1 ?_ | refine quiet_load 35 _ _ rfl rfl l2 ?_); go_frame; go_big_quiet_on) | (go_big_quiet_op; first | go_big_quiet_on | go_big_quiet_call ((go_at_call 77; exact callsB (hcm _))))))
        refine wpQuiet_nil ?_
        intro W' hC'
        have hBW' := BStep.of hC'
        have hb3 := hbx.trans (hBW'.mono hbx.size)
        clear l1 l2 hcm hC' hBW' d1
        go_wp2_with fail
        go_roundw
        case rel => exact ⟨i + 1 + 1, by omega, by omega, by go_num, hb3⟩
        case measure => simp [intOf]; omega
    · go_wp2_with fail
      go_end0
      exact ⟨rfl, hb⟩
set_option maxRecDepth 100000 in
set_option maxHeartbeats 4000000 in
theorem stableOp_any (p : Option Addr) (cap : Nat) (l : List QOp) (w : World) (hl : SliceAt 22 encOp w (.slice p l.length cap) l) (ho : l.Pairwise fun x y => x.id.c < y.id.c) (hn : l.length ≤ 19) :
    Calls Tryz.prog 110 #[.slice p l.length cap, .int .i64 l.length, .func (.func 77) #[] #[]] w (BelowR w) := by
  have hins := insOp_any p cap l w hl ho (by omega)
  have hnz : (l.length : Int) < 20 := by omega
  clear ho hl
  go_enter Tryz.func110, Tryz.ntmps110
  go_wp2
  go_loopw [7, 8] (fun a b wr => a = .int .i64 0 ∧ b = .int .i64 20 ∧ wr = w) (fun _ _ _ => 0)
  case atStart => exact ⟨rfl, rfl, rfl⟩
  case round =>
    obtain ⟨rfl, rfl, rfl⟩ := hrel
    go_wp2_with (go_at_call 134; refine hins.mono ?_; rintro e w1 ⟨rfl, hb1⟩)
    clear hins
    go_loopw [6] (fun a wx => a = .int .i64 20 ∧ wx = w1) (fun _ _ => 0)
    case atStart => exact ⟨rfl, rfl⟩
    case round =>
      obtain ⟨rfl, rfl⟩ := hrel
      go_wp2_with fail
      go_end0
      exact ⟨rfl, hb1⟩
set_option maxHeartbeats 1000000 in
theorem sortStableOp_any (p : Option Addr) (cap : Nat) (l : List QOp) (w : World) (hl : SliceAt 22 encOp w (.slice p l.length cap) l) (ho : l.Pairwise fun x y => x.id.c < y.id.c) (hn : l.length ≤ 19) :
    Calls Tryz.prog 76 #[.slice p l.length cap, .func (.func 77) #[] #[]] w (BelowR w) := by
  have hst := stableOp_any p cap l w hl ho hn
  clear ho hl
  go_enter Tryz.func76, Tryz.ntmps76
  go_wp2_with (go_at_call 110; refine hst.mono ?_; rintro e w1 ⟨rfl, hb1⟩)
  go_end0
  exact ⟨rfl, hb1⟩
set_option maxRecDepth 100000 in
set_option maxHeartbeats 4000000 in
theorem compact_any (p : Option Addr) (cap : Nat) (l : List QOp) (w : World) (hl : SliceAt 22 encOp w (.slice p l.length cap) l) (ho : l.Pairwise fun x y => x.id.c < y.id.c) (hn : l.length ≤ 100000) :
    Calls Tryz.prog 78 #[.slice p l.length cap, .func (.func 79) #[] #[]] w fun e w' => e = .returned (.slice p l.length cap) ∧ Below w.heap.size w w' := by
  have Ho := Lib.hid ho
  clear ho
  by_cases h2 : l.length < 2
  · have h2z : (l.length : Int) < 2 := by omega
    go_enter Tryz.func78, Tryz.ntmps78
    go_wp2_with fail
    go_ret
    exact ⟨rfl, Below.refl _ _⟩
  · have h2z : ¬ (l.length : Int) < 2 := by omega
    go_enter Tryz.func78, Tryz.ntmps78
    go_wp2_with fail
    go_loopw [5] (fun i wr => ∃ k : Nat, 1 ≤ k ∧ k ≤ l.length ∧ i = .int .i64 k ∧ Below w.heap.size w wr) (fun i _ => l.length - (intOf i).toNat)
    case atStart => exact ⟨1, Nat.le_refl _, by omega, rfl, Below.refl _ _⟩
    case round =>
      obtain ⟨k, hk1, hk2, rfl, hbx⟩ := hrel
      by_cases hlt : k < l.length
      · have hltz : (k : Int) < (l.length : Int) := by omega
        obtain ⟨b, off, rfl⟩ : ∃ b off, p = some ⟨b, off, none⟩ := by
          rcases hl with ⟨_, h⟩ | ⟨b0, off, _, h, _⟩
          · rw [h] at hlt; simp at hlt
          · cases h; exact ⟨_, _, rfl⟩
        obtain ⟨i, rfl⟩ : ∃ i, k = i + 1 := ⟨k - 1, by omega⟩
        have hlx := hl.below hbx
        obtain ⟨_, hbl, hxc⟩ := opCells hlx (k := i + 1) (x := l[i + 1]) (by simp)
        obtain ⟨_, _, hyc⟩ := opCells hlx (k := i) (x := l[i]'(by omega)) (by simp)
        have hxy : (l[i]'(by omega)).id.c < l[i + 1].id.c := List.pairwise_iff_getElem.1 Ho.out i (i + 1) (by omega) hlt (by omega)
        generalize l[i + 1] = x at hxc hxy
        generalize l[i]'(by omega) = y at hyc hxy
        have hcm := join3_any x y hxy
        have l1 : ∀ w', (∃ s : BStep wr, w' = s.val) → (loadVar 35 ⟨b, off + (i + 1) * 22, none⟩).run Tryz.prog w' = .ok (opV x) w' := by
          rintro _ ⟨s, rfl⟩
          exact load_op (hxc.below s.h hbl)
        have l2 : ∀ w', (∃ s : BStep wr, w' = s.val) → (loadVar 35 ⟨b, off + i * 22, none⟩).run Tryz.prog w' = .ok (opV y) w' := by
          rintro _ ⟨s, rfl⟩
          exact load_op (hyc.below s.h hbl)
        have hib : i + 1 < l.length := hlt
        have hi0 : (0 : Int) ≤ (i : Int) := by omega
        clear hlx hxc hyc
        go_upto_region 6 with fail
        refine wp_region_b (by kernel_rfl) (by kernel_rfl) ?_
        repeat (first | go_big_quiet_skip | (go_big_quiet_want; first | ((first | refine quiet_load 35 _ _ rfl rfl l1 ?_ | refine quiet_load 35 _ _ rfl rfl l2 ?_); go_frame; go_big_quiet_on) | (go_big_quiet_op; first | go_big_quiet_on | go_big_quiet_call ((go_at_call 79; exact callsB (hcm _))))))
        refine wpQuiet_nil ?_
        intro W' hC'
        have hBW' := BStep.of hC'
        have hb3 := hbx.trans (hBW'.mono hbx.size)
        clear l1 l2 hcm hC' hBW'
        go_wp2_with fail
        go_roundw
        case rel => exact ⟨i + 1 + 1, by omega, by omega, by go_num, hb3⟩
        case measure => simp [intOf]; omega
      · have hltz : ¬ (k : Int) < (l.length : Int) := by omega
        go_wp2_with fail
        go_ret
        exact ⟨rfl, hbx⟩
end Go.Proofs.YtaeebgljcdfolaaGreatDoor
/- As XFlow3: reads, then whatever orders there are, as a tree. -/
namespace Go.Proofs.YtaeebgljcdfolaaGreatDoor
open Go.RowKit
section
variable {P : Program} {ops : Array Oper} {md : Region.Mode} {S : World → Prop} {Q : Exit → Act → World → Prop}

/-- the orders: one operation that is ready, or two. -/
inductive OT where
  | nil : OT
  | one (i : Nat) (t : OT) : OT
  | two (i : Nat) (t : OT) (j : Nat) (u : OT) : OT
def OT.len : OT → Nat
  | .nil => 0
  | .one _ t => t.len + 1
  | .two _ t _ _ => t.len + 1
def wpTreeF (P : Program) (ops : Array Oper) (Q : Exit → Act → World → Prop) (S : World → Prop) (n : Nat) : OT → Act → World → Prop
  | .nil, a, w => Q .normal a w
  | .one i t, a, w => wpOp P ops Q i (fun a' w' => (i < n → S w') ∧ wpTreeF P ops Q S n t a' w') a w
  | .two i t j u, a, w => wpOp P ops Q i (fun a' w' => (i < n → S w') ∧ wpTreeF P ops Q S n t a' w') a w ∧ wpOp P ops Q j (fun a' w' => (j < n → S w') ∧ wpTreeF P ops Q S n u a' w') a w
def treeB (md : Region.Mode) (ops : Array Oper) : OT → Array Bool → Bool
  | .nil, listed => (Region.ready md ops listed).isEmpty
  | .one i t, listed => decide (Region.ready md ops listed = [i]) && treeB md ops t (listed.setIfInBounds i true)
  | .two i t j u, listed => decide (Region.ready md ops listed = [i, j]) && decide (t.len = u.len) && treeB md ops t (listed.setIfInBounds i true) && treeB md ops u (listed.setIfInBounds j true)
theorem wpAnyF_tree {n : Nat} : ∀ (t : OT) (listed : Array Bool) (a : Act) (w : World), treeB md ops t listed = true → wpTreeF P ops Q S n t a w → wpAnyF P md ops Q S n t.len listed a w
  | .nil, listed, a, w, hB, h => ⟨by simpa [treeB] using hB, h⟩
  | .one i t, listed, a, w, hB, h => by
    simp only [treeB, Bool.and_eq_true, decide_eq_true_eq] at hB
    refine ⟨fun h0 => (by rw [hB.1] at h0; cases h0), fun j hj => ?_⟩
    rw [hB.1] at hj
    obtain rfl : j = i := by simpa using hj
    exact wpOp_mono (fun a' w' h' => ⟨h'.1, wpAnyF_tree t _ a' w' hB.2 h'.2⟩) h
  | .two i t j u, listed, a, w, hB, h => by
    simp only [treeB, Bool.and_eq_true, decide_eq_true_eq] at hB
    obtain ⟨⟨⟨h1, h2⟩, h3⟩, h4⟩ := hB
    refine ⟨fun h0 => (by rw [h1] at h0; cases h0), fun k hk => ?_⟩
    rw [h1] at hk
    rcases List.mem_cons.1 hk with rfl | hk
    · exact wpOp_mono (fun a' w' h' => ⟨h'.1, wpAnyF_tree t _ a' w' h3 h'.2⟩) h.1
    · obtain rfl : k = j := by simpa using hk
      refine wpOp_mono (fun a' w' h' => ⟨h'.1, ?_⟩) h.2
      show wpAnyF P md ops Q S n t.len _ a' w'
      rw [h2]
      exact wpAnyF_tree u _ a' w' h4 h'.2
def flow6B (md : Region.Mode) (ops : Array Oper) (n : Nat) (rs : List Nat) (t : OT) : Bool :=
  Region.noSelect ops && tailT md ops n rs && readsB3 md ops rs (Array.replicate ops.size false) && treeB md ops t (listAll rs (Array.replicate ops.size false)) && decide (t.len + rs.length = ops.size)
theorem wp_region_flow6 {id : Nat} {a : Act} {w : World} {l : List Oper} (n : Nat) (rs : List Nat) (t : OT) (S : World → Prop) (hm : P.follows .mixedOrders = true) (hB : flow6B .any l.toArray n rs t = true)
    (hQ : ∀ c a d v w, Q (.panic c) (Act.put a d v) w → Q (.panic c) a w) (hS : S w.drew)
    (h : wpQuiet P l.toArray S (fun a' => wpTreeF P l.toArray Q S n t a' w.drew) (rs.map fun i => (l[i]?).getD default) a) : (Code.region id l.toArray true).wp P Q a w := by
  unfold flow6B at hB
  simp only [Bool.and_eq_true, decide_eq_true_eq] at hB
  obtain ⟨⟨⟨⟨h1, h2⟩, h3⟩, h4⟩, h5⟩ := hB
  refine wp_region_any hm (wpAny_of_flow (S := S) (n := n) _ _ _ _ ?_)
  suffices H : wpAnyF P .any l.toArray Q S n (t.len + rs.length) (Array.replicate l.toArray.size false) a w.drew by rw [h5] at H; exact H
  refine wpAnyF_reads3 h1 hQ rs t.len _ a w.drew (fun a' => wpTreeF P l.toArray Q S n t a' w.drew) (Closed.none _) h2 h3 hS (fun a' h' => wpAnyF_tree t _ a' _ h4 h') ?_
  simpa using h
theorem wpOpF_step {n i : Nat} {a : Act} {w : World} {o : Oper} {K : Act → World → Prop} (ho : ops[i]? = some o)
    (h : wpList P ops (fun e a' w' => match e with | .normal => (i < n → S w') ∧ K a' w' | e => Q e a' w') [o] a w) : wpOp P ops Q i (fun a' w' => (i < n → S w') ∧ K a' w') a w := by
  unfold wpOp
  simp only [ho]
  unfold wpList at h
  split
  · rename_i hw
    rw [if_pos hw] at h
    exact h
  · rename_i hw
    rw [if_neg hw] at h
    exact h
theorem wpTreeF_one {n i : Nat} {t : OT} {a : Act} {w : World} {o : Oper} (ho : ops[i]? = some o)
    (h : wpList P ops (fun e a' w' => match e with | .normal => (i < n → S w') ∧ wpTreeF P ops Q S n t a' w' | e => Q e a' w') [o] a w) : wpTreeF P ops Q S n (.one i t) a w := wpOpF_step ho h
theorem wpTreeF_two {n i j : Nat} {t u : OT} {a : Act} {w : World} (h1 : wpTreeF P ops Q S n (.one i t) a w) (h2 : wpTreeF P ops Q S n (.one j u) a w) : wpTreeF P ops Q S n (.two i t j u) a w := ⟨h1, h2⟩
theorem wpTreeF_nil {n : Nat} {a : Act} {w : World} (h : Q .normal a w) : wpTreeF P ops Q S n .nil a w := h
end
end Go.Proofs.YtaeebgljcdfolaaGreatDoor
