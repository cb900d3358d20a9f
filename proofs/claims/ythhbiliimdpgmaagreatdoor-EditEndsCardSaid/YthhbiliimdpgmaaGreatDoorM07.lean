/- A region that draws its order, whose operations only read and whose callees read and make blocks of their own: one walk, in the order of the text. -/
import Derived.Test.YthhbiliimdpgmaaGreatDoorM01
import Derived.BigQuiet
import Derived.OrdersHeld
import Derived.StillTail
import Derived.Deep.Quiet
namespace Go.Proofs.YthhbiliimdpgmaaGreatDoor
open Go.RowKit

/-- a world in which all that lay in W lies as it did. -/
structure BStep (W : World) where
  val : World
  h : Below W.heap.size W val

theorem wp_region_b {P : Program} {id : Nat} {Q : Exit → Act → World → Prop} {a : Act} {w : World} {l : List Oper} (hm : P.follows .mixedOrders = true) (hB : Region.lexB .any l.toArray = true)
    (h : wpQuiet P l.toArray (fun w' => ∃ p : BStep w, w' = p.val) (fun a' => ∀ w', (∃ p : BStep w, w' = p.val) → Q .normal a' w') l a) : (Code.region id l.toArray true).wp P Q a w :=
  wp_region_quiet (C := fun w' => ∃ p : BStep w, w' = p.val) hm hB ⟨⟨w.drew, (Below.refl _ _).drew⟩, rfl⟩ (by simpa using h)

theorem BStep.cell {W : World} {a : Addr} {v : Value} (hb : a.block < W.heap.size) (h : W.cell? a = some v) (s : BStep W) : s.val.cell? a = some v := (s.h.cell hb).trans h

/-- a callee's contract, met in a world of the class. -/
theorem callsB {P : Program} {f : FuncId} {args : Array Value} {W : World} {s : BStep W} {v : Value}
    (h : Calls P f args s.val fun e w' => e = .returned v ∧ Below s.val.heap.size s.val w') : Calls P f args s.val fun e w'' => e = .returned v ∧ ∃ p : BStep W, w'' = p.val :=
  h.mono fun _ w' ⟨he, hb⟩ => ⟨he, ⟨w', belowTrans s.h hb⟩, rfl⟩
theorem BStep.of {W w' : World} (h : ∃ p : BStep W, w' = p.val) : Below W.heap.size W w' := by obtain ⟨p, rfl⟩ := h; exact p.h
instance (W : World) : Nonempty (BStep W) := ⟨⟨W, Below.refl _ _⟩⟩
end Go.Proofs.YthhbiliimdpgmaaGreatDoor
/- A region that draws its order: reads first, in the order of the text, in every world of a class; then what makes and writes, one by one, each waiting for those before it. -/
namespace Go.Proofs.YthhbiliimdpgmaaGreatDoor
open Go.RowKit
section
variable {P : Program} {ops : Array Oper} {md : Region.Mode} {S : World → Prop} {Q : Exit → Act → World → Prop}

/-- whatever order; S holds behind each operation below n. -/
def wpAnyF (P : Program) (md : Region.Mode) (ops : Array Oper) (Q : Exit → Act → World → Prop) (S : World → Prop) (n : Nat) : Nat → Array Bool → Act → World → Prop
  | 0, listed, a, w => Region.ready md ops listed = [] ∧ Q .normal a w
  | fuel + 1, listed, a, w => (Region.ready md ops listed = [] → Q .normal a w) ∧
    ∀ i ∈ Region.ready md ops listed, wpOp P ops Q i (fun a' w' => (i < n → S w') ∧ wpAnyF P md ops Q S n fuel (listed.setIfInBounds i true) a' w') a w

theorem wpAny_of_flow {n : Nat} : ∀ (fuel : Nat) (listed : Array Bool) (a : Act) (w : World), wpAnyF P md ops Q S n fuel listed a w → wpAny P md ops Q fuel listed a w
  | 0, _, _, _, h => h
  | fuel + 1, _, _, _, h => ⟨h.1, fun i hi => wpOp_mono (fun a' w' h' => wpAny_of_flow fuel _ a' w' h'.2) (h.2 i hi)⟩

theorem wpAnyF_first {n i : Nat} {oi : Oper} {v : Value} (hi : ops[i]? = some oi) (hin : i < n) (hsel : ∀ (j : Nat) (o : Oper) cs b, ops[j]? = some o → o.op ≠ .select cs b)
    (hT : ∀ t, n ≤ t → t < ops.size → Region.waitsFor md ops t i = true)
    (hQ : ∀ c a w, Q (.panic c) (a.put oi.dst v) w → Q (.panic c) a w) :
    ∀ (fuel : Nat) (listed : Array Bool) (a : Act) (w : World),
      (∀ j oj, ops[j]? = some oj → j ≠ i → listed.getD j true = false → (∀ e ∈ oj.after, Region.binds md e = true → e.on ≠ i) → oi.apart ops oj = true) →
      i ∈ Region.ready md ops listed → YieldsIf P ops S oi v a → S w →
      wpAnyF P md ops Q S n fuel (listed.setIfInBounds i true) (a.put oi.dst v) w → wpAnyF P md ops Q S n (fuel + 1) listed a w := by
  intro fuel
  induction fuel with
  | zero =>
    intro listed a w _ hr hy hS H
    refine ⟨fun h => (by rw [h] at hr; cases hr), fun j hj => ?_⟩
    by_cases hji : j = i
    · subst hji; exact hy.wpOp hi hS ⟨fun _ => hS, H⟩
    · have := ready_mono hj hji
      rw [H.1] at this
      cases this
  | succ fuel ih =>
    intro listed a w hfree hr hy hS H
    refine ⟨fun h => (by rw [h] at hr; cases hr), fun j hj => ?_⟩
    by_cases hji : j = i
    · subst hji; exact hy.wpOp hi hS ⟨fun _ => hS, H⟩
    · have h1 := H.2 j (ready_mono hj hji)
      obtain ⟨hjun, oj, hoj, hall⟩ := mem_ready.1 hj
      have hnot : ∀ e ∈ oj.after, Region.binds md e = true → e.on ≠ i := fun e he hb heq => by
        have h1 := hall e he hb
        rw [heq, getD_both (mem_ready.1 hr).1] at h1
        cases h1
      have hjn : j < n := by
        rcases Nat.lt_or_ge j n with h | h
        · exact h
        · obtain ⟨o', ho', e, he, hb, hon⟩ := Region.waitsFor_spec (hT j h (Array.getElem?_eq_some_iff.1 hoj).1)
          obtain rfl : o' = oj := Option.some.inj (ho'.symm.trans hoj)
          exact absurd hon (hnot e he hb)
      have h2 := wpOp_putIf hoj (hfree j oj hoj hji hjun hnot) (fun cs b => hsel i oi cs b hi) (fun cs b => hsel j oj cs b hoj) hQ hy h1
      have hfree' : ∀ k ok, ops[k]? = some ok → k ≠ i → (listed.setIfInBounds j true).getD k true = false →
          (∀ e ∈ ok.after, Region.binds md e = true → e.on ≠ i) → oi.apart ops ok = true := fun k ok hk hki hun hno => by
        refine hfree k ok hk hki ?_ hno
        by_cases hjk : j = k
        · subst hjk; exact hjun
        · rw [getD_set_ne true hjk] at hun; exact hun
      refine wpOp_mono (fun a' w' h3 => ⟨h3.2.1, ih (listed.setIfInBounds j true) a' w' hfree' (ready_mono hr (Ne.symm hji)) h3.1 (h3.2.1 hjn) ?_⟩) h2
      rw [Array.setIfInBounds_comm _ _ hji]
      exact h3.2.2

/-- operations that yield a value and nothing else. -/
def readB (o : Op) : Bool := match o with
  | .load _ _ | .fieldAddr _ _ _ | .move _ | .lookup _ _ _ _ | .extract _ _ | .field _ _ _ | .binOp _ _ _ _ _ | .unOp _ _ _ | .pick _ _ _ | .assign _ | .build _ _ | .indexAddr _ _ _ | .convert _ _ _ => true
  | .nilCheck _ => true
  | _ => false

theorem run_map_value {s : Sem Value} {w w' : World} {nx : Next} (h : (do pure (Next.value (← s)) : Sem Next).run P w = .ok nx w') : ∃ u, nx = .value u := by
  rw [Sem.run_bind] at h
  cases hs : s.run P w with
  | ok v w2 => rw [hs] at h; simp only [Result.andThen_ok, Sem.run_pure] at h; cases h; exact ⟨_, rfl⟩
  | halt x w2 => rw [hs] at h; cases h

theorem run_bind_value {α : Type} {s : Sem α} {f : α → Value} {w w' : World} {nx : Next} (h : (do pure (Next.value (f (← s))) : Sem Next).run P w = .ok nx w') : ∃ u, nx = .value u := by
  rw [Sem.run_bind] at h
  cases hs : s.run P w with
  | ok v w2 => rw [hs] at h; simp only [Result.andThen_ok, Sem.run_pure] at h; cases h; exact ⟨_, rfl⟩
  | halt x w2 => rw [hs] at h; cases h

theorem run_bind_ok {α β : Type} {s : Sem α} {k : α → Sem β} {w w' : World} {x : β} (h : (s >>= k).run P w = .ok x w') : ∃ y w2, (k y).run P w2 = .ok x w' := by
  rw [Sem.run_bind] at h
  cases hs : s.run P w with
  | ok v w2 => rw [hs] at h; exact ⟨v, w2, h⟩
  | halt x w2 => rw [hs] at h; cases h

theorem read_value {o : Oper} {ρ : Operand → Value} {w w' : World} {nx : Next} (hr : readB o.op = true) (h : (execOp ρ o).run P w = .ok nx w') : ∃ u, nx = .value u := by
  unfold execOp at h
  revert h
  cases ho : o.op <;> rw [ho] at hr <;> first | (simp [readB] at hr; done) | skip
  all_goals (intro hs; simp only [] at hs; first | exact run_map_value hs | (simp only [Sem.run_pure] at hs; cases hs; exact ⟨_, rfl⟩) | skip)
  case pick c x y =>
    rw [Sem.run_bind] at hs
    cases hb : (asBool (ρ c)).run P w with
    | ok v w2 => rw [hb] at hs; simp only [Result.andThen_ok, Sem.run_pure] at hs; cases hs; exact ⟨_, rfl⟩
    | halt x w2 => rw [hb] at hs; cases hs
  case nilCheck x =>
    generalize ρ x = y at hs
    have pure_ok : ∀ {u : Value} {w2 : World}, (pure (Next.value u) : Sem Next).run P w2 = .ok nx w' → ∃ u, nx = .value u := by
      intro u w2 h
      rw [Sem.run_pure] at h; cases h; exact ⟨_, rfl⟩
    split at hs
    · exact absurd hs (by simp [runtimePanic])
    · exact absurd hs (by simp [runtimePanic])
    · exact absurd hs (by simp [runtimePanic])
    · split at hs
      · exact absurd hs (by simp [runtimePanic])
      · obtain ⟨y, w2, hs⟩ := run_bind_ok hs
        obtain ⟨y, w3, hs⟩ := run_bind_ok hs
        split at hs
        · obtain ⟨y, w4, hs⟩ := run_bind_ok hs
          exact pure_ok hs
        · exact pure_ok hs
      · exact pure_ok hs
    · exact pure_ok hs

theorem quiet_value {o : Oper} {a : Act} {w : World} {v : Value} (hr : readB o.op = true) (h : o.quietAt P a S w v) : (execOp a.eval o).run P w = .ok (.value v) w := by
  unfold Oper.quietAt at h
  cases hs : (execOp a.eval o).run P w with
  | halt x w2 => rw [hs] at h; exact h.elim
  | ok nx w2 =>
    obtain ⟨u, rfl⟩ := read_value hr hs
    rw [hs] at h
    obtain ⟨e1, e2⟩ := h
    rw [e1, e2]

theorem yieldsIn_if {o : Oper} {v : Value} {a : Act} (hr : readB o.op = true) (h : YieldsIn P ops S o v a) : YieldsIf P ops S o v a := by
  rcases h with ⟨h1, h2⟩ | h
  · exact .inl ⟨h1, fun w hw => quiet_value hr (h2 w hw)⟩
  · exact .inr h

/-- the reads rs, one after the other. -/
def readsB (md : Region.Mode) (ops : Array Oper) (n : Nat) : List Nat → Array Bool → Bool
  | [], _ => true
  | i :: rs, listed => (match ops[i]? with | some o => readB o.op | none => false) && decide (i < n) && (Region.ready md ops listed).contains i && Region.free md ops listed i && readsB md ops n rs (listed.setIfInBounds i true)
def listAll : List Nat → Array Bool → Array Bool
  | [], listed => listed
  | i :: rs, listed => listAll rs (listed.setIfInBounds i true)

/-- each of the last ones waits for every read. -/
def tailB (md : Region.Mode) (ops : Array Oper) (n : Nat) (rs : List Nat) : Bool :=
  (List.range ops.size).all fun t => decide (t < n) || rs.all fun i => Region.waitsFor md ops t i

theorem wpAnyF_reads {n : Nat} (hs : Region.noSelect ops = true) (hQ : ∀ c a d v w, Q (.panic c) (Act.put a d v) w → Q (.panic c) a w) :
    ∀ (rs : List Nat) (fuel : Nat) (listed : Array Bool) (a : Act) (w : World) (F : Act → Prop), tailB md ops n rs = true → readsB md ops n rs listed = true → S w →
    (∀ a, F a → wpAnyF P md ops Q S n fuel (listAll rs listed) a w) → wpQuiet P ops S F (rs.map fun i => (ops[i]?).getD default) a → wpAnyF P md ops Q S n (fuel + rs.length) listed a w
  | [], fuel, listed, a, w, F, _, _, _, hF, h => hF a h
  | i :: rs, fuel, listed, a, w, F, hT, hB, hS, hF, h => by
    simp only [readsB, Bool.and_eq_true, decide_eq_true_eq] at hB
    obtain ⟨⟨⟨⟨hrd, hin⟩, hr⟩, hf⟩, hB'⟩ := hB
    cases ho : ops[i]? with
    | none => rw [ho] at hrd; cases hrd
    | some o =>
      rw [ho] at hrd
      have hq : qOp P ops S i (wpQuiet P ops S F (rs.map fun i => (ops[i]?).getD default)) a := by
        unfold qOp
        simp only [ho]
        simpa [ho, wpQuiet] using h
      obtain ⟨v, hy, hK⟩ := yieldsIn_of_qOp ho hq
      have hT' : tailB md ops n rs = true := by
        unfold tailB at hT ⊢
        rw [List.all_eq_true] at hT ⊢
        intro t ht
        have := hT t ht
        simp only [List.all_cons, Bool.or_eq_true, Bool.and_eq_true] at this ⊢
        rcases this with h | h
        · exact .inl h
        · exact .inr h.2
      have hTi : ∀ t, n ≤ t → t < ops.size → Region.waitsFor md ops t i = true := by
        intro t h1 h2
        unfold tailB at hT
        rw [List.all_eq_true] at hT
        have := hT t (List.mem_range.2 h2)
        simp only [List.all_cons, Bool.or_eq_true, Bool.and_eq_true, decide_eq_true_eq] at this
        rcases this with h | h
        · omega
        · exact h.1
      exact wpAnyF_first ho hin (Region.noSelect_spec hs) hTi (fun c a w => hQ c a o.dst v w) (fuel + rs.length) listed a w (Region.free_spec ho hf) (by simpa using hr) (yieldsIn_if hrd hy) hS
        (wpAnyF_reads hs hQ rs fuel _ _ w F hT' hB' hS hF hK)

/-- one by one: S behind each below n. -/
def wpSeqF (P : Program) (ops : Array Oper) (Q : Exit → Act → World → Prop) (S : World → Prop) (n : Nat) : List Nat → Act → World → Prop
  | [], a, w => Q .normal a w
  | i :: ms, a, w => wpOp P ops Q i (fun a' w' => (i < n → S w') ∧ wpSeqF P ops Q S n ms a' w') a w
def seqMB (md : Region.Mode) (ops : Array Oper) : List Nat → Array Bool → Bool
  | [], listed => (Region.ready md ops listed).isEmpty
  | i :: ms, listed => decide (Region.ready md ops listed = [i]) && seqMB md ops ms (listed.setIfInBounds i true)
theorem wpAnyF_seq {n : Nat} : ∀ (ms : List Nat) (listed : Array Bool) (a : Act) (w : World), seqMB md ops ms listed = true → wpSeqF P ops Q S n ms a w → wpAnyF P md ops Q S n ms.length listed a w
  | [], _, _, _, hB, h => ⟨by simpa [seqMB] using hB, h⟩
  | i :: ms, listed, a, w, hB, h => by
    simp only [seqMB, Bool.and_eq_true, decide_eq_true_eq] at hB
    refine ⟨fun h0 => (by rw [hB.1] at h0; cases h0), fun j hj => ?_⟩
    rw [hB.1] at hj
    obtain rfl : j = i := by simpa using hj
    exact wpOp_mono (fun a' w' h' => ⟨h'.1, wpAnyF_seq ms _ a' w' hB.2 h'.2⟩) h

def flowB (md : Region.Mode) (ops : Array Oper) (n : Nat) (rs ms : List Nat) : Bool :=
  Region.noSelect ops && tailB md ops n rs && readsB md ops n rs (Array.replicate ops.size false) && seqMB md ops ms (listAll rs (Array.replicate ops.size false)) && decide (ms.length + rs.length = ops.size)

/-- the reads in the order given, in every world of the class; then the rest, one by one. -/
theorem wp_region_flow {id : Nat} {a : Act} {w : World} {l : List Oper} (n : Nat) (rs ms : List Nat) (S : World → Prop) (hm : P.follows .mixedOrders = true) (hB : flowB .any l.toArray n rs ms = true)
    (hQ : ∀ c a d v w, Q (.panic c) (Act.put a d v) w → Q (.panic c) a w) (hS : S w.drew)
    (h : wpQuiet P l.toArray S (fun a' => wpSeqF P l.toArray Q S n ms a' w.drew) (rs.map fun i => (l[i]?).getD default) a) : (Code.region id l.toArray true).wp P Q a w := by
  unfold flowB at hB
  simp only [Bool.and_eq_true, decide_eq_true_eq] at hB
  obtain ⟨⟨⟨⟨h1, h2⟩, h3⟩, h4⟩, h5⟩ := hB
  refine wp_region_any hm (wpAny_of_flow (S := S) (n := n) _ _ _ _ ?_)
  suffices H : wpAnyF P .any l.toArray Q S n (ms.length + rs.length) (Array.replicate l.toArray.size false) a w.drew by rw [h5] at H; exact H
  refine wpAnyF_reads h1 hQ rs ms.length _ a w.drew _ h2 h3 hS (fun a' h' => wpAnyF_seq ms _ a' _ h4 h') ?_
  simpa using h
/-- two of the rest may come in either order. -/
theorem wpAnyF_two {n i j : Nat} {ms1 ms2 : List Nat} {listed : Array Bool} {a : Act} {w : World} (hr : Region.ready md ops listed = [i, j]) (hl : ms1.length = ms2.length)
    (h1 : seqMB md ops ms1 (listed.setIfInBounds i true) = true) (h2 : seqMB md ops ms2 (listed.setIfInBounds j true) = true)
    (H1 : wpSeqF P ops Q S n (i :: ms1) a w) (H2 : wpSeqF P ops Q S n (j :: ms2) a w) : wpAnyF P md ops Q S n (ms1.length + 1) listed a w := by
  refine ⟨fun h0 => (by rw [hr] at h0; cases h0), fun k hk => ?_⟩
  rw [hr] at hk
  rcases List.mem_cons.1 hk with rfl | hk
  · exact wpOp_mono (fun a' w' h' => ⟨h'.1, wpAnyF_seq ms1 _ a' w' h1 h'.2⟩) H1
  · obtain rfl : k = j := by simpa using hk
    rw [hl]
    exact wpOp_mono (fun a' w' h' => ⟨h'.1, wpAnyF_seq ms2 _ a' w' h2 h'.2⟩) H2
def flow2B (md : Region.Mode) (ops : Array Oper) (n : Nat) (rs : List Nat) (i j : Nat) (ms1 ms2 : List Nat) : Bool :=
  Region.noSelect ops && tailB md ops n rs && readsB md ops n rs (Array.replicate ops.size false) && decide (Region.ready md ops (listAll rs (Array.replicate ops.size false)) = [i, j]) && decide (ms1.length = ms2.length) &&
  seqMB md ops ms1 ((listAll rs (Array.replicate ops.size false)).setIfInBounds i true) && seqMB md ops ms2 ((listAll rs (Array.replicate ops.size false)).setIfInBounds j true) && decide (ms1.length + 1 + rs.length = ops.size)
theorem wp_region_flow2 {id : Nat} {a : Act} {w : World} {l : List Oper} (n : Nat) (rs : List Nat) (i j : Nat) (ms1 ms2 : List Nat) (S : World → Prop) (hm : P.follows .mixedOrders = true) (hB : flow2B .any l.toArray n rs i j ms1 ms2 = true)
    (hQ : ∀ c a d v w, Q (.panic c) (Act.put a d v) w → Q (.panic c) a w) (hS : S w.drew)
    (h : wpQuiet P l.toArray S (fun a' => wpSeqF P l.toArray Q S n (i :: ms1) a' w.drew ∧ wpSeqF P l.toArray Q S n (j :: ms2) a' w.drew) (rs.map fun i => (l[i]?).getD default) a) : (Code.region id l.toArray true).wp P Q a w := by
  unfold flow2B at hB
  simp only [Bool.and_eq_true, decide_eq_true_eq] at hB
  obtain ⟨⟨⟨⟨⟨⟨⟨h1, h2⟩, h3⟩, h4⟩, h5⟩, h6⟩, h7⟩, h8⟩ := hB
  refine wp_region_any hm (wpAny_of_flow (S := S) (n := n) _ _ _ _ ?_)
  suffices H : wpAnyF P .any l.toArray Q S n (ms1.length + 1 + rs.length) (Array.replicate l.toArray.size false) a w.drew by rw [h8] at H; exact H
  refine wpAnyF_reads h1 hQ rs (ms1.length + 1) _ a w.drew (fun a' => wpSeqF P l.toArray Q S n (i :: ms1) a' w.drew ∧ wpSeqF P l.toArray Q S n (j :: ms2) a' w.drew) h2 h3 hS (fun a' h' => wpAnyF_two h4 h5 h6 h7 h'.1 h'.2) ?_
  simpa using h
/-- one of the rest: as a list of one. -/
theorem wpSeqF_step {n i : Nat} {ms : List Nat} {a : Act} {w : World} {o : Oper} (ho : ops[i]? = some o)
    (h : wpList P ops (fun e a' w' => match e with | .normal => (i < n → S w') ∧ wpSeqF P ops Q S n ms a' w' | e => Q e a' w') [o] a w) : wpSeqF P ops Q S n (i :: ms) a w := by
  unfold wpSeqF wpOp
  simp only [ho]
  unfold wpList at h
  split
  · rename_i hw
    rw [if_pos hw] at h
    exact h
  · rename_i hw
    rw [if_neg hw] at h
    exact h
end
theorem wpSeqF_nil {P : Program} {ops : Array Oper} {Q : Exit → Act → World → Prop} {S : World → Prop} {n : Nat} {a : Act} {w : World} (h : Q .normal a w) : wpSeqF P ops Q S n [] a w := h
theorem modsBelow {W W' : World} (h : Mods (fun _ => False) W W') : Below W.heap.size W W' := ⟨h.os, h.tape, h.output, h.size, fun k hk => h.block k hk id⟩
/-- a world in which blocks of W outside T lie as they did. -/
structure MStep (T : Nat → Prop) (W : World) where
  val : World
  h : Mods T W val
theorem MStep.cell {T : Nat → Prop} {W : World} {a : Addr} {v : Value} (hb : a.block < W.heap.size) (ht : ¬ T a.block) (h : W.cell? a = some v) (s : MStep T W) : s.val.cell? a = some v :=
  (World.cell?_of_block (w := W) (s.h.block a.block hb ht)).trans h
theorem MStep.of {T : Nat → Prop} {W w' : World} (h : ∃ p : MStep T W, w' = p.val) : Mods T W w' := by obtain ⟨p, rfl⟩ := h; exact p.h
theorem MStep.to {T : Nat → Prop} {W w' : World} (h : Mods T W w') : ∃ p : MStep T W, w' = p.val := ⟨⟨w', h⟩, rfl⟩
instance (T : Nat → Prop) (W : World) : Nonempty (MStep T W) := ⟨⟨W, Mods.refl _ _⟩⟩
end Go.Proofs.YthhbiliimdpgmaaGreatDoor
