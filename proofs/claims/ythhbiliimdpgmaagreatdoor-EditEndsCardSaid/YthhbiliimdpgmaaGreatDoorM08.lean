/- As XFlow: what makes and writes may wait for a read by way of others. -/
import Derived.Test.YthhbiliimdpgmaaGreatDoorM07
import Derived.Test.YthhbiliimdpgmaaGreatDoorM06
namespace Go.Proofs.YthhbiliimdpgmaaGreatDoor
open Go.RowKit
section
variable {P : Program} {ops : Array Oper} {md : Region.Mode} {S : World → Prop} {Q : Exit → Act → World → Prop}

/-- what has been listed has had all listed that it waits for. -/
def Closed (md : Region.Mode) (ops : Array Oper) (listed : Array Bool) : Prop := ∀ k ok, ops[k]? = some ok → listed.getD k false = true → ∀ e ∈ ok.after, Region.binds md e = true → listed.getD e.on false = true
theorem Closed.step {listed : Array Bool} {j : Nat} (h : Closed md ops listed) (hj : j ∈ Region.ready md ops listed) : Closed md ops (listed.setIfInBounds j true) := by
  intro k ok hk hl e he hb
  obtain ⟨_, oj, hoj, hall⟩ := mem_ready.1 hj
  by_cases hkj : j = k
  · subst hkj
    obtain rfl : oj = ok := Option.some.inj (hoj.symm.trans hk)
    exact getD_set_true (hall e he hb)
  · rw [getD_set_ne false hkj] at hl
    exact getD_set_true (h k ok hk hl e he hb)
theorem Closed.none (n : Nat) : Closed md ops (Array.replicate n false) := by
  intro k ok _ hl
  simp [Array.getElem?_replicate] at hl
  split at hl <;> simp_all

def waitsT (md : Region.Mode) (ops : Array Oper) : Nat → Nat → Nat → Bool
  | 0, _, _ => false
  | f + 1, t, i => match ops[t]? with
    | some o => o.after.any fun e => Region.binds md e && (e.on == i || waitsT md ops f e.on i)
    | none => false
theorem waitsT_spec {listed : Array Bool} (h : Closed md ops listed) {i : Nat} : ∀ (f t : Nat) (o : Oper), ops[t]? = some o → (∀ e ∈ o.after, Region.binds md e = true → listed.getD e.on false = true) → waitsT md ops f t i = true → listed.getD i false = true
  | 0, _, _, _, _, hw => by simp [waitsT] at hw
  | f + 1, t, o, ho, hall, hw => by
    unfold waitsT at hw
    simp only [ho] at hw
    obtain ⟨e, he, hb⟩ := Array.any_eq_true'.1 hw
    simp only [Bool.and_eq_true, Bool.or_eq_true, beq_iff_eq] at hb
    rcases hb.2 with h1 | h1
    · rw [← h1]; exact hall e he hb.1
    · cases ho2 : ops[e.on]? with
      | none =>
        cases f with
        | zero => simp [waitsT] at h1
        | succ f => unfold waitsT at h1; simp [ho2] at h1
      | some o2 => exact waitsT_spec h f e.on o2 ho2 (fun e2 he2 hb2 => h e.on o2 ho2 (hall e he hb.1) e2 he2 hb2) h1

theorem wpAnyF_first3 {n i f : Nat} {oi : Oper} {v : Value} (hi : ops[i]? = some oi) (hsel : ∀ (j : Nat) (o : Oper) cs b, ops[j]? = some o → o.op ≠ .select cs b)
    (hT : ∀ t, n ≤ t → t < ops.size → waitsT md ops f t i = true)
    (hQ : ∀ c a w, Q (.panic c) (a.put oi.dst v) w → Q (.panic c) a w) :
    ∀ (fuel : Nat) (listed : Array Bool) (a : Act) (w : World), Closed md ops listed →
      (∀ j oj, ops[j]? = some oj → j ≠ i → listed.getD j true = false → (∀ e ∈ oj.after, Region.binds md e = true → e.on ≠ i) → oi.apart ops oj = true) →
      i ∈ Region.ready md ops listed → YieldsIf P ops S oi v a → S w →
      wpAnyF P md ops Q S n fuel (listed.setIfInBounds i true) (a.put oi.dst v) w → wpAnyF P md ops Q S n (fuel + 1) listed a w := by
  intro fuel
  induction fuel with
  | zero =>
    intro listed a w _ _ hr hy hS H
    refine ⟨fun h => (by rw [h] at hr; cases hr), fun j hj => ?_⟩
    by_cases hji : j = i
    · subst hji; exact hy.wpOp hi hS ⟨fun _ => hS, H⟩
    · have := ready_mono hj hji
      rw [H.1] at this
      cases this
  | succ fuel ih =>
    intro listed a w hc hfree hr hy hS H
    refine ⟨fun h => (by rw [h] at hr; cases hr), fun j hj => ?_⟩
    by_cases hji : j = i
    · subst hji; exact hy.wpOp hi hS ⟨fun _ => hS, H⟩
    · have h1 := H.2 j (ready_mono hj hji)
      obtain ⟨hjun, oj, hoj, hall⟩ := mem_ready.1 hj
      have hun : listed.getD i false = false := getD_both (mem_ready.1 hr).1
      have hnot : ∀ e ∈ oj.after, Region.binds md e = true → e.on ≠ i := fun e he hb heq => by
        have h1 := hall e he hb
        rw [heq, hun] at h1
        cases h1
      have hjn : j < n := by
        rcases Nat.lt_or_ge j n with h | h
        · exact h
        · have := waitsT_spec hc f j oj hoj hall (hT j h (Array.getElem?_eq_some_iff.1 hoj).1)
          rw [hun] at this; cases this
      have h2 := wpOp_putIf hoj (hfree j oj hoj hji hjun hnot) (fun cs b => hsel i oi cs b hi) (fun cs b => hsel j oj cs b hoj) hQ hy h1
      have hfree' : ∀ k ok, ops[k]? = some ok → k ≠ i → (listed.setIfInBounds j true).getD k true = false →
          (∀ e ∈ ok.after, Region.binds md e = true → e.on ≠ i) → oi.apart ops ok = true := fun k ok hk hki hun hno => by
        refine hfree k ok hk hki ?_ hno
        by_cases hjk : j = k
        · subst hjk; exact hjun
        · rw [getD_set_ne true hjk] at hun; exact hun
      refine wpOp_mono (fun a' w' h3 => ⟨h3.2.1, ih (listed.setIfInBounds j true) a' w' (hc.step hj) hfree' (ready_mono hr (Ne.symm hji)) h3.1 (h3.2.1 hjn) ?_⟩) h2
      rw [Array.setIfInBounds_comm _ _ hji]
      exact h3.2.2

def readB3 (o : Op) : Bool := readB o || (match o with | .slice _ _ _ _ _ => true | .call c => (match c.callee with | .builtin .len => true | .builtin .min => true | _ => false) | _ => false)
theorem read_value3 {o : Oper} {ρ : Operand → Value} {w w' : World} {nx : Next} (hr : readB3 o.op = true) (h : (execOp ρ o).run P w = .ok nx w') : ∃ u, nx = .value u := by
  unfold readB3 at hr
  rw [Bool.or_eq_true] at hr
  rcases hr with hr | hr
  · exact read_value hr h
  · cases ho : o.op with
    | slice t x a b c =>
      unfold execOp at h
      rw [ho] at h
      exact run_map_value h
    | call c =>
      rw [ho] at hr
      obtain ⟨callee, args, ts⟩ := c
      cases callee with
      | builtin b =>
        cases b with
        | len =>
          unfold execOp at h
          rw [ho] at h
          simp only [resolve, Sem.run_bind, Sem.run_pure, Result.andThen_ok, invoke, builtin] at h
          cases hs : (Builtin.len_ ts o.type (args.map ρ)).run P w with
          | ok v w2 => rw [hs] at h; simp only [Result.andThen_ok] at h; cases h; exact ⟨_, rfl⟩
          | halt x w2 => rw [hs] at h; cases h
        | min =>
          unfold execOp at h
          rw [ho] at h
          simp only [resolve, Sem.run_bind, Sem.run_pure, Result.andThen_ok, invoke, builtin] at h
          cases hs : (Builtin.min_ ts o.type (args.map ρ)).run P w with
          | ok v w2 => rw [hs] at h; simp only [Result.andThen_ok] at h; cases h; exact ⟨_, rfl⟩
          | halt x w2 => rw [hs] at h; cases h
        | _ => cases hr
      | _ => cases hr
    | _ => rw [ho] at hr; cases hr
theorem quiet_value3 {o : Oper} {a : Act} {w : World} {v : Value} (hr : readB3 o.op = true) (h : o.quietAt P a S w v) : (execOp a.eval o).run P w = .ok (.value v) w := by
  unfold Oper.quietAt at h
  cases hs : (execOp a.eval o).run P w with
  | halt x w2 => rw [hs] at h; exact h.elim
  | ok nx w2 =>
    obtain ⟨u, rfl⟩ := read_value3 hr hs
    rw [hs] at h
    obtain ⟨e1, e2⟩ := h
    rw [e1, e2]
theorem yieldsIn_if3 {o : Oper} {v : Value} {a : Act} (hr : readB3 o.op = true) (h : YieldsIn P ops S o v a) : YieldsIf P ops S o v a := by
  rcases h with ⟨h1, h2⟩ | h
  · exact .inl ⟨h1, fun w hw => quiet_value3 hr (h2 w hw)⟩
  · exact .inr h
def readsB3 (md : Region.Mode) (ops : Array Oper) : List Nat → Array Bool → Bool
  | [], _ => true
  | i :: rs, listed => (match ops[i]? with | some o => readB3 o.op | none => false) && (Region.ready md ops listed).contains i && Region.free md ops listed i && readsB3 md ops rs (listed.setIfInBounds i true)
def tailT (md : Region.Mode) (ops : Array Oper) (n : Nat) (rs : List Nat) : Bool :=
  (List.range ops.size).all fun t => decide (t < n) || rs.all fun i => waitsT md ops 12 t i
theorem wpAnyF_reads3 {n : Nat} (hs : Region.noSelect ops = true) (hQ : ∀ c a d v w, Q (.panic c) (Act.put a d v) w → Q (.panic c) a w) :
    ∀ (rs : List Nat) (fuel : Nat) (listed : Array Bool) (a : Act) (w : World) (F : Act → Prop), Closed md ops listed → tailT md ops n rs = true → readsB3 md ops rs listed = true → S w →
    (∀ a, F a → wpAnyF P md ops Q S n fuel (listAll rs listed) a w) → wpQuiet P ops S F (rs.map fun i => (ops[i]?).getD default) a → wpAnyF P md ops Q S n (fuel + rs.length) listed a w
  | [], fuel, listed, a, w, F, _, _, _, _, hF, h => hF a h
  | i :: rs, fuel, listed, a, w, F, hc, hT, hB, hS, hF, h => by
    simp only [readsB3, Bool.and_eq_true] at hB
    obtain ⟨⟨⟨hrd, hr⟩, hf⟩, hB'⟩ := hB
    cases ho : ops[i]? with
    | none => rw [ho] at hrd; cases hrd
    | some o =>
      rw [ho] at hrd
      have hq : qOp P ops S i (wpQuiet P ops S F (rs.map fun i => (ops[i]?).getD default)) a := by
        unfold qOp
        simp only [ho]
        simpa [ho, wpQuiet] using h
      obtain ⟨v, hy, hK⟩ := yieldsIn_of_qOp ho hq
      have hT' : tailT md ops n rs = true := by
        unfold tailT at hT ⊢
        rw [List.all_eq_true] at hT ⊢
        intro t ht
        have := hT t ht
        simp only [List.all_cons, Bool.or_eq_true, Bool.and_eq_true] at this ⊢
        rcases this with h | h
        · exact .inl h
        · exact .inr h.2
      have hTi : ∀ t, n ≤ t → t < ops.size → waitsT md ops 12 t i = true := by
        intro t h1 h2
        unfold tailT at hT
        rw [List.all_eq_true] at hT
        have := hT t (List.mem_range.2 h2)
        simp only [List.all_cons, Bool.or_eq_true, Bool.and_eq_true, decide_eq_true_eq] at this
        rcases this with h | h
        · omega
        · exact h.1
      have hrm : i ∈ Region.ready md ops listed := by simpa using hr
      exact wpAnyF_first3 ho (Region.noSelect_spec hs) hTi (fun c a w => hQ c a o.dst v w) (fuel + rs.length) listed a w hc (Region.free_spec ho hf) hrm (yieldsIn_if3 hrd hy) hS
        (wpAnyF_reads3 hs hQ rs fuel _ _ w F (hc.step hrm) hT' hB' hS hF hK)
def flow3B (md : Region.Mode) (ops : Array Oper) (n : Nat) (rs ms : List Nat) : Bool :=
  Region.noSelect ops && tailT md ops n rs && readsB3 md ops rs (Array.replicate ops.size false) && seqMB md ops ms (listAll rs (Array.replicate ops.size false)) && decide (ms.length + rs.length = ops.size)
/-- the reads in the order given, in every world of the class; then the rest, one by one. -/
theorem wp_region_flow3 {id : Nat} {a : Act} {w : World} {l : List Oper} (n : Nat) (rs ms : List Nat) (S : World → Prop) (hm : P.follows .mixedOrders = true) (hB : flow3B .any l.toArray n rs ms = true)
    (hQ : ∀ c a d v w, Q (.panic c) (Act.put a d v) w → Q (.panic c) a w) (hS : S w.drew)
    (h : wpQuiet P l.toArray S (fun a' => wpSeqF P l.toArray Q S n ms a' w.drew) (rs.map fun i => (l[i]?).getD default) a) : (Code.region id l.toArray true).wp P Q a w := by
  unfold flow3B at hB
  simp only [Bool.and_eq_true, decide_eq_true_eq] at hB
  obtain ⟨⟨⟨⟨h1, h2⟩, h3⟩, h4⟩, h5⟩ := hB
  refine wp_region_any hm (wpAny_of_flow (S := S) (n := n) _ _ _ _ ?_)
  suffices H : wpAnyF P .any l.toArray Q S n (ms.length + rs.length) (Array.replicate l.toArray.size false) a w.drew by rw [h5] at H; exact H
  refine wpAnyF_reads3 h1 hQ rs ms.length _ a w.drew (fun a' => wpSeqF P l.toArray Q S n ms a' w.drew) (Closed.none _) h2 h3 hS (fun a' h' => wpAnyF_seq ms _ a' _ h4 h') ?_
  simpa using h
def flow4B (md : Region.Mode) (ops : Array Oper) (n : Nat) (rs : List Nat) (i j : Nat) (ms1 ms2 : List Nat) : Bool :=
  Region.noSelect ops && tailT md ops n rs && readsB3 md ops rs (Array.replicate ops.size false) && decide (Region.ready md ops (listAll rs (Array.replicate ops.size false)) = [i, j]) && decide (ms1.length = ms2.length) &&
  seqMB md ops ms1 ((listAll rs (Array.replicate ops.size false)).setIfInBounds i true) && seqMB md ops ms2 ((listAll rs (Array.replicate ops.size false)).setIfInBounds j true) && decide (ms1.length + 1 + rs.length = ops.size)
/-- as wp_region_flow2, with wp_region_flow3's reads. -/
theorem wp_region_flow4 {id : Nat} {a : Act} {w : World} {l : List Oper} (n : Nat) (rs : List Nat) (i j : Nat) (ms1 ms2 : List Nat) (S : World → Prop) (hm : P.follows .mixedOrders = true) (hB : flow4B .any l.toArray n rs i j ms1 ms2 = true)
    (hQ : ∀ c a d v w, Q (.panic c) (Act.put a d v) w → Q (.panic c) a w) (hS : S w.drew)
    (h : wpQuiet P l.toArray S (fun a' => wpSeqF P l.toArray Q S n (i :: ms1) a' w.drew ∧ wpSeqF P l.toArray Q S n (j :: ms2) a' w.drew) (rs.map fun i => (l[i]?).getD default) a) : (Code.region id l.toArray true).wp P Q a w := by
  unfold flow4B at hB
  simp only [Bool.and_eq_true, decide_eq_true_eq] at hB
  obtain ⟨⟨⟨⟨⟨⟨⟨h1, h2⟩, h3⟩, h4⟩, h5⟩, h6⟩, h7⟩, h8⟩ := hB
  refine wp_region_any hm (wpAny_of_flow (S := S) (n := n) _ _ _ _ ?_)
  suffices H : wpAnyF P .any l.toArray Q S n (ms1.length + 1 + rs.length) (Array.replicate l.toArray.size false) a w.drew by rw [h8] at H; exact H
  refine wpAnyF_reads3 h1 hQ rs (ms1.length + 1) _ a w.drew (fun a' => wpSeqF P l.toArray Q S n (i :: ms1) a' w.drew ∧ wpSeqF P l.toArray Q S n (j :: ms2) a' w.drew) (Closed.none _) h2 h3 hS (fun a' h' => wpAnyF_two h4 h5 h6 h7 h'.1 h'.2) ?_
  simpa using h
end
end Go.Proofs.YthhbiliimdpgmaaGreatDoor
/- Walks: ops.Len, Range, names, id, Same of one with itself. -/
namespace Go.Proofs.YthhbiliimdpgmaaGreatDoor
open Go.RowKit Go.Lib

/-- how many clocks an operation has. -/
def QOp.len (o : QOp) : Nat := if o.kind = 1 then (runesB o.text).length else 1
set_option maxRecDepth 100000 in
set_option maxHeartbeats 1000000 in
theorem opsLen_any (o : QOp) (w : World) (hs : o.text.size < 9223372036854775807) (hT : Tabs w) :
    Calls Tryz.prog 63 #[opV o] w fun e w' => e = .returned (.int .i64 (o.len : Int)) ∧ Below w.heap.size w w' := by
  unfold QOp.len opV
  have hl := utfLen_any o.text
  by_cases hk : o.kind = 1
  · rw [if_pos hk]
    generalize (runesB o.text).length = N at hl ⊢
    have hk2 : (o.kind == 1) = true := by simpa using hk
    have Hk := Lib.hid hk
    clear hk
    go_enter Tryz.func63, Tryz.ntmps63
    go_upto_region 1 with fail
    obtain ⟨W, hW⟩ : ∃ W, w.alloc (.cells (encOp o).toArray 35) = W := ⟨_, rfl⟩
    have hB : Below w.heap.size w W := by rw [← hW]; exact (Below.refl _ _).alloc (Nat.le_refl _) _
    have hbx : OpBox W w.heap.size o := by rw [← hW]; exact OpBox.new _ _
    change Code.wp _ _ _ _ (w.alloc (.cells (encOp o).toArray 35))
    rw [hW]
    clear hW
    have q1 := hbx.cells 2 _ rfl
    have q8 := hbx.cells 8 _ rfl
    go_wp2_with fail
    refine (hl _ hs (hT.below hB)).mono ?_
    rintro e w1 ⟨rfl, hb⟩
    go_wp2_with fail
    go_ret
    exact ⟨rfl, belowTrans hB hb⟩
  · rw [if_neg hk]
    have hk2 : (o.kind == 1) = false := by simpa using hk
    clear hk hl
    go_enter Tryz.func63, Tryz.ntmps63
    go_upto_region 1 with fail
    obtain ⟨W, hW⟩ : ∃ W, w.alloc (.cells (encOp o).toArray 35) = W := ⟨_, rfl⟩
    have hB : Below w.heap.size w W := by rw [← hW]; exact (Below.refl _ _).alloc (Nat.le_refl _) _
    have hbx : OpBox W w.heap.size o := by rw [← hW]; exact OpBox.new _ _
    change Code.wp _ _ _ _ (w.alloc (.cells (encOp o).toArray 35))
    rw [hW]
    clear hW
    have q1 := hbx.cells 2 _ rfl
    go_wp2_with fail
    go_ret
    exact ⟨rfl, hB⟩
def QOp.rng (o : QOp) : QRng := ⟨o.id.c, o.id.k, o.id.k + o.len⟩
set_option maxRecDepth 100000 in
set_option maxHeartbeats 1000000 in
theorem opsRange_any (o : QOp) (w : World) (hs : o.text.size < 9223372036854775807) (h0 : 0 ≤ o.id.k) (h1 : o.id.k + o.len < 18446744073709551616) (hT : Tabs w) :
    Calls Tryz.prog 31 #[opV o] w fun e w' => e = .returned (.agg #[.int .u64 o.rng.c, .int .u64 o.rng.a, .int .u64 o.rng.b]) ∧ Below w.heap.size w w' := by
  have hl := opsLen_any o
  unfold QOp.rng opV
  generalize o.len = N at hl h1 ⊢
  go_enter Tryz.func31, Tryz.ntmps31
  go_upto_region 1 with fail
  obtain ⟨W, hW⟩ : ∃ W, (w.alloc (.cells (encOp o).toArray 35)).alloc (.cells #[.int .u64 0, .int .u64 0, .int .u64 0] 95) = W := ⟨_, rfl⟩
  have hB : Below w.heap.size w W := by rw [← hW]; exact ((Below.refl _ _).alloc (Nat.le_refl _) _).alloc (by simp) _
  have hbx : OpBox W w.heap.size o := by rw [← hW]; exact (OpBox.new w o).below ((Below.refl _ _).alloc (Nat.le_refl _) _) (by simp)
  have hr0 : W.heap[w.heap.size + 1]? = some (.cells #[.int .u64 0, .int .u64 0, .int .u64 0] 95 (0, 0)) := by rw [← hW]; have := heap_alloc_new (w.alloc (.cells (encOp o).toArray 35)) (.cells #[.int .u64 0, .int .u64 0, .int .u64 0] 95); simpa using this
  change Code.wp _ _ _ _ ((w.alloc (.cells (encOp o).toArray 35)).alloc (.cells #[.int .u64 0, .int .u64 0, .int .u64 0] 95))
  rw [hW]
  clear hW
  have hz0 : w.heap.size < W.heap.size := hbx.lt
  have hz1 : w.heap.size + 1 < W.heap.size := (Array.getElem?_eq_some_iff.1 hr0).1
  have q0 : ∀ s : MStep (fun _ => False) W, s.val.cell? ⟨w.heap.size, 0, none⟩ = some (.int .u64 o.id.c) := MStep.cell hz0 id (hbx.cells 0 _ rfl)
  have q1 : ∀ s : MStep (fun _ => False) W, s.val.cell? ⟨w.heap.size, 1, none⟩ = some (.int .u64 o.id.k) := MStep.cell hz0 id (hbx.cells 1 _ rfl)
  have l1 : ∀ w', (∃ s : MStep (fun _ => False) W, w' = s.val) → (loadVar 35 ⟨w.heap.size, 0, none⟩).run Tryz.prog w' = .ok (.agg #[.int .u64 o.id.c, .int .u64 o.id.k, .int .i64 o.kind, .int .u64 o.stamp, .int .u64 o.left.c, .int .u64 o.left.k, .int .u64 o.right.c, .int .u64 o.right.k, .string o.text, .int .i64 o.v.kind, .int .i64 o.v.n, .float .f64 o.v.f, .string o.v.s, .string o.key, .int .u64 o.parent.c, .int .u64 o.parent.k, .int .u64 o.frm.c, .int .u64 o.frm.k, .bool o.frmA, .int .u64 o.til.c, .int .u64 o.til.k, .bool o.tilA]) w' := by
    rintro _ ⟨s, rfl⟩
    exact OpBox.load ((s.h.block _ hz0 id).trans hbx)
  refine wp_region_flow3 14 [0, 1, 2, 3, 4, 5, 6, 7, 8, 9] [10, 11, 12, 13, 14] (fun w' => ∃ s : MStep (fun _ => False) W, w' = s.val) (by kernel_rfl) (by kernel_rfl) (fun _ _ d _ _ h => by cases d <;> exact h) (MStep.to (Mods.refl _ _).drew) ?_
  simp only [List.map_cons, List.map_nil, List.getElem?_cons_succ, List.getElem?_cons_zero, Option.getD_some]
  repeat (first | go_big_quiet_skip | (go_big_quiet_want; first | (refine quiet_load 35 _ _ rfl rfl l1 ?_; go_frame; go_big_quiet_on) | (go_big_quiet_op; go_big_quiet_on)))
  refine wpQuiet_nil ?_
  refine wpSeqF_step rfl ?_; simp only [List.getElem_toArray, List.getElem_cons_succ, List.getElem_cons_zero]
  go_wp2_with fail
  refine (hl _ hs ((hT.below hB).below (Below.refl _ _).drew)).mono ?_
  rintro e w1 ⟨rfl, hb⟩
  have hb1 : Below W.heap.size W w1 := ⟨hb.os, hb.tape, hb.output, hb.size, hb.block⟩
  have hm1 := Mods.of_below (S := fun _ => False) hb1
  have hr1 := (hb1.block _ hz1).trans hr0
  have r0 : w1.cell? ⟨w.heap.size + 1, 0, none⟩ = some (.int .u64 0) := by simp [World.cell?, hr1]
  have r1 : w1.cell? ⟨w.heap.size + 1, 1, none⟩ = some (.int .u64 0) := by simp [World.cell?, hr1]
  have r2 : w1.cell? ⟨w.heap.size + 1, 2, none⟩ = some (.int .u64 0) := by simp [World.cell?, hr1]
  have f0 : w1.frozen? ⟨w.heap.size + 1, 0, none⟩ = false := by simp [World.frozen?, hr1]
  have f1 : w1.frozen? ⟨w.heap.size + 1, 1, none⟩ = false := by simp [World.frozen?, hr1]
  have f2 : w1.frozen? ⟨w.heap.size + 1, 2, none⟩ = false := by simp [World.frozen?, hr1]
  go_wp2_with fail
  refine ⟨MStep.to hm1, ?_⟩
  refine wpSeqF_step rfl ?_; simp only [List.getElem_toArray, List.getElem_cons_succ, List.getElem_cons_zero]
  go_wp2_with fail
  refine ⟨MStep.to hm1, ?_⟩
  refine wpSeqF_step rfl ?_; simp only [List.getElem_toArray, List.getElem_cons_succ, List.getElem_cons_zero]
  go_wp2_with fail
  refine ⟨MStep.to hm1, ?_⟩
  refine wpSeqF_step rfl ?_; simp only [List.getElem_toArray, List.getElem_cons_succ, List.getElem_cons_zero]
  go_wp2_with fail
  refine ⟨MStep.to hm1, ?_⟩
  refine wpSeqF_step rfl ?_; simp only [List.getElem_toArray, List.getElem_cons_succ, List.getElem_cons_zero]
  go_wp2_with fail
  refine wpSeqF_nil ?_
  go_wp2_with fail
  refine bodyPost_ret (v := .agg #[.int .u64 (⟨o.id.c, o.id.k, o.id.k + N⟩ : QRng).c, .int .u64 (⟨o.id.c, o.id.k, o.id.k + N⟩ : QRng).a, .int .u64 (⟨o.id.c, o.id.k, o.id.k + N⟩ : QRng).b]) (by simp [results, Tryz.results31, go_sem, *]) rfl ⟨rfl, ?_⟩
  have hb2 : Below w.heap.size w w1 := belowTrans hB hb1
  exact ((hb2.setCell (p := ⟨w.heap.size + 1, 0, none⟩) (by simp) _).setCell (p := ⟨w.heap.size + 1, 1, none⟩) (by simp) _).setCell (p := ⟨w.heap.size + 1, 2, none⟩) (by simp) _

def QId.namedB (i : QId) : Bool := decide (i = idZero) || i.rightB
theorem eqlId (x y : QId) (w : World) : (binOp BinOp.eql 28 (.agg #[.int .u64 x.c, .int .u64 x.k]) (.agg #[.int .u64 y.c, .int .u64 y.k])).run Tryz.prog w = .ok (.bool (decide (x = y))) w := by
  have h := idEqual w x y
  unfold idV at h
  simp only [binOp, Sem.run_bind, h, Result.andThen_ok, Sem.run_pure]
set_option maxHeartbeats 1000000 in
theorem opsId_any (x : QId) (w : World) : Calls Tryz.prog 59 #[.agg #[.int .u64 x.c, .int .u64 x.k]] w fun e w' => e = .returned (.bool x.namedB) ∧ Below w.heap.size w w' := by
  have he := eqlId x idZero
  have hr := right_any x
  unfold QId.namedB
  by_cases hx : x = idZero
  · rw [decide_eq_true hx] at he ⊢
    have Hx := Lib.hid hx
    clear hx hr
    unfold idZero at he
    go_enter Tryz.func59, Tryz.ntmps59
    go_wp2_with fail
    go_ret
    exact ⟨rfl, by (repeat (first | exact Below.refl _ _ | assumption | refine Below.alloc ?_ (by simp <;> omega) _ | refine Below.drew ?_ | refine below_drewN ?_ _ | refine Below.setCell ?_ (by simp <;> omega) _ | refine belowTrans ?_ (by assumption)))⟩
  · rw [decide_eq_false hx] at he ⊢
    rw [Bool.false_or]
    generalize x.rightB = R at hr ⊢
    clear hx
    unfold idZero at he
    go_enter Tryz.func59, Tryz.ntmps59
    go_wp2_with fail
    refine (hr _).mono ?_
    rintro e w1 ⟨rfl, hb⟩
    go_wp2_with fail
    go_ret
    exact ⟨rfl, belowTrans ((Below.refl _ _).alloc (Nat.le_refl _) _) hb⟩

def QOp.names (o : QOp) : List QId := [o.left, o.right, o.frm, o.til, o.parent]
def NamesR (o : QOp) (w : World) (e : Ending) (w' : World) : Prop := ∃ b, e = .returned (.slice (some ⟨b, 0, none⟩) 5 5) ∧ Below w.heap.size w w' ∧ w.heap.size ≤ b ∧ w'.heap[b]? = some (.cells (o.names.flatMap encIdv).toArray 28 (0, 0))
set_option maxRecDepth 100000 in
set_option maxHeartbeats 1000000 in
theorem opsNames_any (o : QOp) (w : World) : Calls Tryz.prog 62 #[opV o] w (NamesR o w) := by
  unfold opV
  go_enter Tryz.func62, Tryz.ntmps62
  go_upto_region 1 with fail
  obtain ⟨W, hW⟩ : ∃ W, w.alloc (.cells (encOp o).toArray 35) = W := ⟨_, rfl⟩
  have hB : Below w.heap.size w W := by rw [← hW]; exact (Below.refl _ _).alloc (Nat.le_refl _) _
  have hbx : OpBox W w.heap.size o := by rw [← hW]; exact OpBox.new _ _
  change Code.wp _ _ _ _ (w.alloc (.cells (encOp o).toArray 35))
  rw [hW]
  clear hW
  have q4 := hbx.cells 4 _ rfl
  have q5 := hbx.cells 5 _ rfl
  have q6 := hbx.cells 6 _ rfl
  have q7 := hbx.cells 7 _ rfl
  have q16 := hbx.cells 16 _ rfl
  have q17 := hbx.cells 17 _ rfl
  have q19 := hbx.cells 19 _ rfl
  have q20 := hbx.cells 20 _ rfl
  have q14 := hbx.cells 14 _ rfl
  have q15 := hbx.cells 15 _ rfl
  go_wp2_with fail
  go_ret
  exact ⟨W.heap.size, rfl, hB.alloc hB.size _, hB.size, heap_alloc_new W _⟩
end Go.Proofs.YthhbiliimdpgmaaGreatDoor
