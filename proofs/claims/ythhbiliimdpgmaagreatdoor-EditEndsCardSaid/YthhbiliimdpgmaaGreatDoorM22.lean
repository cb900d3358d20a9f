/- Walks: what a sequence lets in: none, may. -/
import Derived.Test.YthhbiliimdpgmaaGreatDoorM21
import Derived.Test.YthhbiliimdpgmaaGreatDoorM01
namespace Go.Proofs.YthhbiliimdpgmaaGreatDoor
open Go.RowKit Go.Lib

theorem cellTwo (w : World) (c d : Array Value) (t u : TypeId) (i : Nat) : ((w.alloc (.cells c t)).alloc (.cells d u)).cell? ⟨w.heap.size, i, none⟩ = c[i]? ∧ ((w.alloc (.cells c t)).alloc (.cells d u)).cell? ⟨w.heap.size + 1, i, none⟩ = d[i]? := by
  refine ⟨?_, ?_⟩
  · simp only [World.cell?]
    rw [alloc_heap_if, if_neg (by simp), alloc_heap_if, if_pos rfl]
    simp
  · simp only [World.cell?]
    rw [alloc_heap_if, if_pos (by simp)]
    simp
theorem seqNone_any (x : QId) (w : World) : Calls Tryz.prog 184 #[.agg #[.int .u64 x.c, .int .u64 x.k]] w fun e w' => e = .returned (.bool (decide (x = idZero))) ∧ Below w.heap.size w w' := by
  have he := eqIds x idZero
  cases hd : decide (x = idZero)
  · rw [hd] at he
    unfold idZero at he
    clear hd
    go_enter Tryz.func184, Tryz.ntmps184
    go_wp2
    go_ret
    exact ⟨rfl, by (repeat (first | exact Below.refl _ _ | assumption | refine Below.alloc ?_ (by simp <;> omega) _ | refine Below.drew ?_ | refine below_drewN ?_ _ | refine Below.setCell ?_ (by simp <;> omega) _ | refine belowTrans ?_ (by assumption)))⟩
  · rw [hd] at he
    unfold idZero at he
    clear hd
    go_enter Tryz.func184, Tryz.ntmps184
    go_wp2
    go_ret
    exact ⟨rfl, by (repeat (first | exact Below.refl _ _ | assumption | refine Below.alloc ?_ (by simp <;> omega) _ | refine Below.drew ?_ | refine below_drewN ?_ _ | refine Below.setCell ?_ (by simp <;> omega) _ | refine belowTrans ?_ (by assumption)))⟩
theorem seqNone_zero (w : World) : Calls Tryz.prog 184 #[.agg #[.int .u64 0, .int .u64 0]] w fun e w' => e = .returned (.bool true) ∧ Below w.heap.size w w' := seqNone_any idZero w
theorem may1_zero (p : Addr) (w : World) : Calls Tryz.prog 183 #[.agg #[.int .u64 0, .int .u64 0], .pointer (some p)] w fun e w' => e = .returned (.bool true) ∧ Below w.heap.size w w' := by
  have hn := seqNone_zero
  go_enter Tryz.func183, Tryz.ntmps183
  go_upto_region 1 with fail
  have x0 : ∀ s : BStep (w.alloc (.cells #[.int .u64 0, .int .u64 0] 28)), s.val.cell? ⟨w.heap.size, 0, none⟩ = some (.int .u64 0) := BStep.cell (by simp) (by go_simp)
  have x1 : ∀ s : BStep (w.alloc (.cells #[.int .u64 0, .int .u64 0] 28)), s.val.cell? ⟨w.heap.size, 1, none⟩ = some (.int .u64 0) := BStep.cell (by simp) (by go_simp)
  refine wp_region_b (by kernel_rfl) (by kernel_rfl) ?_
  repeat (first | go_big_quiet_skip | (go_big_quiet_want; go_big_quiet_op; first | go_big_quiet_on | go_big_quiet_call ((go_at_call 184; exact callsB (hn _)))))
  refine wpQuiet_nil ?_
  intro W' hC'
  have hBW' := BStep.of hC'
  go_wp2
  go_ret
  exact ⟨rfl, ((Below.refl _ _).alloc (Nat.le_refl _) _).trans (hBW'.mono (by simp))⟩
theorem bstepSeq {n : Nat} {W : World} {am om : List (QId × Value)} {ord root : Value} {fr : Bool} (h : SeqM n W am om ord root fr) (s : BStep W) : SeqM n s.val am om ord root fr := h.keep fun b g => s.h.block b (by have := h.lt; omega)
set_option maxRecDepth 100000 in
set_option maxHeartbeats 1000000 in
theorem may_free (n : Nat) (x : QId) (am om : List (QId × Value)) (ord root : Value) (fr : Bool) (w : World) (hs : SeqM n w am om ord root fr) (hx : x.rightB = true) (hno : look am x = none) :
    Calls Tryz.prog 146 #[.pointer (some ⟨n + 6, 0, none⟩), .agg #[.int .u64 x.c, .int .u64 x.k, .int .u64 0, .int .u64 0, .int .u64 0, .int .u64 0]] w fun e w' => e = .returned (.bool true) ∧ Below w.heap.size w w' := by
  have hr : ∀ w, Calls Tryz.prog 57 #[.agg #[.int .u64 x.c, .int .u64 x.k]] w fun e w' => e = .returned (.bool true) ∧ Below w.heap.size w w' := fun w => by have := right_any x w; rwa [hx] at this
  have hn := seqNone_zero
  have hm1 := may1_zero
  have hmf : ∀ (fn : Fn) (first cap : Array Value) (w : World), (Instr.makeFunc fn first cap).run Tryz.prog w = .ok (.func fn first cap) w := fun _ _ _ _ => rfl
  have hsl := hs.lt
  go_enter Tryz.func146, Tryz.ntmps146
  go_upto_region 2 with fail
  have hB : Below w.heap.size w ((w.alloc (.cells #[.pointer (some ⟨n + 6, 0, none⟩)] 60)).alloc (.cells #[.int .u64 x.c, .int .u64 x.k, .int .u64 0, .int .u64 0, .int .u64 0, .int .u64 0] 157)) := by (repeat (first | exact Below.refl _ _ | assumption | refine Below.alloc ?_ (by simp <;> omega) _ | refine Below.drew ?_ | refine below_drewN ?_ _ | refine Below.setCell ?_ (by simp <;> omega) _ | refine belowTrans ?_ (by assumption)))
  have hp : ((w.alloc (.cells #[.pointer (some ⟨n + 6, 0, none⟩)] 60)).alloc (.cells #[.int .u64 x.c, .int .u64 x.k, .int .u64 0, .int .u64 0, .int .u64 0, .int .u64 0] 157)).cell? ⟨w.heap.size, 0, none⟩ = some (.pointer (some ⟨n + 6, 0, none⟩)) := (cellTwo w _ _ _ _ 0).1
  have hu : ∀ k v, (#[Value.int .u64 x.c, .int .u64 x.k, .int .u64 0, .int .u64 0, .int .u64 0, .int .u64 0])[k]? = some v → ((w.alloc (.cells #[.pointer (some ⟨n + 6, 0, none⟩)] 60)).alloc (.cells #[.int .u64 x.c, .int .u64 x.k, .int .u64 0, .int .u64 0, .int .u64 0, .int .u64 0] 157)).cell? ⟨w.heap.size + 1, k, none⟩ = some v := fun k v hk => (cellTwo w _ _ _ _ k).2.trans hk
  have hul : w.heap.size + 1 < ((w.alloc (.cells #[.pointer (some ⟨n + 6, 0, none⟩)] 60)).alloc (.cells #[.int .u64 x.c, .int .u64 x.k, .int .u64 0, .int .u64 0, .int .u64 0, .int .u64 0] 157)).heap.size := by simp
  generalize (w.alloc (.cells #[.pointer (some ⟨n + 6, 0, none⟩)] 60)).alloc (.cells #[.int .u64 x.c, .int .u64 x.k, .int .u64 0, .int .u64 0, .int .u64 0, .int .u64 0] 157) = W at hB hp hu hul ⊢
  have hs2 := hs.keep fun b g => hB.block b (by omega)
  have p0 : ∀ s : BStep W, s.val.cell? ⟨w.heap.size, 0, none⟩ = some (.pointer (some ⟨n + 6, 0, none⟩)) := BStep.cell (by show w.heap.size < _; omega) hp
  have u0 : ∀ s : BStep W, s.val.cell? ⟨w.heap.size + 1, 0, none⟩ = some (.int .u64 x.c) := BStep.cell hul (hu 0 _ rfl)
  have u1 : ∀ s : BStep W, s.val.cell? ⟨w.heap.size + 1, 1, none⟩ = some (.int .u64 x.k) := BStep.cell hul (hu 1 _ rfl)
  have u2 : ∀ s : BStep W, s.val.cell? ⟨w.heap.size + 1, 2, none⟩ = some (.int .u64 0) := BStep.cell hul (hu 2 _ rfl)
  have u3 : ∀ s : BStep W, s.val.cell? ⟨w.heap.size + 1, 3, none⟩ = some (.int .u64 0) := BStep.cell hul (hu 3 _ rfl)
  have u4 : ∀ s : BStep W, s.val.cell? ⟨w.heap.size + 1, 4, none⟩ = some (.int .u64 0) := BStep.cell hul (hu 4 _ rfl)
  have u5 : ∀ s : BStep W, s.val.cell? ⟨w.heap.size + 1, 5, none⟩ = some (.int .u64 0) := BStep.cell hul (hu 5 _ rfl)
  have a0 : ∀ s : BStep W, s.val.cell? ⟨n + 6, 0, none⟩ = some (.map (some (n + 4))) := BStep.cell hs2.lt (hs2.cell 0 _ rfl)
  have lk : ∀ s : BStep W, (Instr.lookup 83 (.map (some (n + 4))) (.agg #[.int .u64 x.c, .int .u64 x.k]) false).run Tryz.prog s.val = .ok (.pointer none) s.val := fun s => by
    have := seqLook (bstepSeq hs2 s) x
    rwa [hno] at this
  refine wp_region_b (by kernel_rfl) (by kernel_rfl) ?_
  repeat (first | go_big_quiet_skip | (go_big_quiet_want; go_big_quiet_op; first | go_big_quiet_on | go_big_quiet_call ((first | (go_at_call 57; exact callsB (hr _)) | (go_at_call 183; exact callsB (hm1 _ _)) | (go_at_call 184; exact callsB (hn _))))))
  refine wpQuiet_nil ?_
  intro W' hC'
  have hBW' := BStep.of hC'
  have hB2 := hB.trans (hBW'.mono hB.size)
  have v2 : ∀ s : BStep W', s.val.cell? ⟨w.heap.size + 1, 2, none⟩ = some (.int .u64 0) := BStep.cell (Nat.lt_of_lt_of_le hul hBW'.size) ((hBW'.cell (p := ⟨w.heap.size + 1, 2, none⟩) hul).trans (hu 2 _ rfl))
  have v3 : ∀ s : BStep W', s.val.cell? ⟨w.heap.size + 1, 3, none⟩ = some (.int .u64 0) := BStep.cell (Nat.lt_of_lt_of_le hul hBW'.size) ((hBW'.cell (p := ⟨w.heap.size + 1, 3, none⟩) hul).trans (hu 3 _ rfl))
  clear p0 u0 u1 u2 u3 u4 u5 a0 lk hm1 hC'
  go_upto_region 4 with fail
  refine wp_region_b (by kernel_rfl) (by kernel_rfl) ?_
  repeat (first | go_big_quiet_skip | (go_big_quiet_want; go_big_quiet_op; first | go_big_quiet_on | go_big_quiet_call ((go_at_call 184; exact callsB (hn _)))))
  refine wpQuiet_nil ?_
  intro W' hC'
  have hBW' := BStep.of hC'
  go_wp2
  go_ret
  exact ⟨rfl, hB2.trans (hBW'.mono hB2.size)⟩
end Go.Proofs.YthhbiliimdpgmaaGreatDoor
/- A range over a function whose rounds turn what the function itself reads: the function's contract is asked at the loop's own invariant alone. -/
namespace Go.Proofs.YthhbiliimdpgmaaGreatDoor
open Go.RowKit Go.Shelf

/-- the two blocks of book-keeping. -/
def Book (B : Nat) (r : Loop) (W : World) : Prop := W.heap[B + 1]? = some (.loop r) ∧ W.heap[B]? = some (.deferred (some []))
theorem Book.keep {B : Nat} {r : Loop} {W W' : World} (h : Book B r W) (hb : ∀ k, k = B ∨ k = B + 1 → W'.heap[k]? = W.heap[k]?) : Book B r W' := ⟨(hb _ (.inr rfl)).trans h.1, (hb _ (.inl rfl)).trans h.2⟩
theorem Book.put {B : Nat} {r : Loop} {W : World} (h : Book B r W) (r' : Loop) : Book B r' (W.putObj (B + 1) (.loop r')) :=
  ⟨World.putObj_heap_same (Array.getElem?_eq_some_iff.1 h.1).1, (World.putObj_heap_other (by omega)).trans h.2⟩
/-- what a round may turn: G, and the loop's record. -/
def RG (G : Nat → Prop) (B k : Nat) : Prop := G k ∨ k = B + 1
theorem mods_putObj {S : Nat → Prop} {w w' : World} (h : Mods S w w') {l : Nat} (hl : S l) (o : Obj) : Mods S w (w'.putObj l o) :=
  ⟨h.os, h.tape, h.output, by simpa [World.putObj] using h.size, fun k hk hs => (World.putObj_heap_other (fun e => hs (by rw [e]; exact hl))).trans (h.block k hk hs)⟩
section
variable {F : Fence} {n : Nat} {P : Program} {w : World}
theorem wpIn_range_all {α : Type} {g : Operand} {ps : Array Tmp} {assign body : Code} {Q : Exit → Act → World → Prop} {a : Act}
    (hro : F.round = none) (h1 : 1 ≤ n) {gf : Nat} {lb : Array Value} (hg : a.eval g = .func (.func gf) #[] lb) (hFg : F.fn gf) (eg : ∀ args w, (callFunc gf args).run P w = .ok (.enter gf args) w)
    {encs : α → Array Value} (hps : ∀ x, (encs x).size = ps.size) (I : List α → World → Prop) (G : Nat → Prop) {S : List α → Prop} {N : Nat}
    (hIp : ∀ pre W (r r' : Loop), I pre W → W.heap[w.heap.size + 1]? = some (.loop r) → I pre (W.putObj (w.heap.size + 1) (.loop r')))
    (h0 : ∀ r : Loop, I [] ((w.alloc (.deferred (some []))).alloc (.loop r)))
    (hround : ∀ pre x W r, I pre W → Book w.heap.size r W → pre.length < N →
      assign.wpIn (F.inRound (w.heap.size + 1)) (n - 1 - 1) P (Exit.then (fun a1 W1 => Book w.heap.size r W1 ∧ Mods (RG G w.heap.size) W W1 ∧ ∀ r' : Loop, body.wpIn (F.inRound (w.heap.size + 1)) (n - 1 - 1) P
        (fun e _ W2 => e = .normal ∧ Book w.heap.size r' W2 ∧ Mods (RG G w.heap.size) (W1.putObj (w.heap.size + 1) (.loop r')) W2 ∧ I (pre ++ [x]) W2) a1 (W1.putObj (w.heap.size + 1) (.loop r'))) (fun _ _ _ => False))
        { tmps := (ps.zip (encs x)).foldl (fun t (p, v) => t.setIfInBounds p v) a.tmps, defers := [] } W)
    (hseq : ∀ rec : Loop, (∀ pre x W, I pre W → Book w.heap.size rec W → pre.length < N → YieldAt F (n - 1 - 1) P (w.heap.size + 1) (encs x) W fun e W' => e = .returned (.bool true) ∧ I (pre ++ [x]) W' ∧ Book w.heap.size rec W' ∧ Mods (RG G w.heap.size) W W') →
      ∀ W, I [] W → Book w.heap.size rec W → CallsIn F (n - 1) P gf (#[.func (.yield (w.heap.size + 1)) #[] #[]] ++ lb) W fun e W' => (∃ v, e = .returned v) ∧ ∃ xs, S xs ∧ I xs W' ∧ Book w.heap.size rec W')
    (hdone : ∀ xs W, S xs → I xs W → W.heap[w.heap.size]? = some (.deferred (some [])) → Q .normal { a with defers := { target := .collected w.heap.size, args := #[] } :: a.defers } W) :
    (Code.rangeFunc g ps assign body).wpIn F n P Q a w := by
  refine wpIn_rangeFunc fun fn hfn => ?_
  rw [hro]
  obtain ⟨rec, hrec⟩ : ∃ rec : Loop, rec = { state := .ready, pending := none, fn, tmps := a.tmps, params := ps, assign, body, defers := w.heap.size } := ⟨_, rfl⟩
  have hB1 : Book w.heap.size rec ((w.alloc (.deferred (some []))).alloc (.loop rec)) := by
    refine ⟨?_, ?_⟩
    · have := World.alloc_heap_new (w.alloc (.deferred (some []))) (.loop rec)
      rwa [World.size_alloc] at this
    · exact (Below.heap_alloc _ _ _ (by simp)).trans (World.alloc_heap_new w _)
  refine ⟨w.heap.size + 1, [{ target := .collected w.heap.size, args := #[] }], (w.alloc (.deferred (some []))).alloc (.loop rec), { target := .fn (.func gf) lb, args := #[.func (.yield (w.heap.size + 1)) #[] #[]] },
    (w.alloc (.deferred (some []))).alloc (.loop rec), gf, #[.func (.yield (w.heap.size + 1)) #[] #[]] ++ lb, (w.alloc (.deferred (some []))).alloc (.loop rec), ?_, ?_, ?_, ?_, fun _ => h1, ?_⟩
  · rw [hrec]; exact run_enterLoop_outer _ _ _ _ _
  · simp only [resolve, hg]
    simp [go_sem]
  · intro f' hf'
    simp [Target.leads] at hf'
    subst hf'
    exact hFg
  · simp [invoke, go_sem, eg]
  · refine (hseq rec ?_ _ (h0 rec) hB1).mono ?_
    · intro pre x W hi hb hlen
      have hy := run_yield (P := P) (args := encs x) hb.1 (by rw [hrec]; exact hps x)
      rw [hrec] at hy
      refine ⟨fn, _, assign, body, hy, roundIn_of_wpIn hfn (wpIn_mono (hround pre x W rec hi hb hlen) ?_)⟩
      intro e a1 W1 h
      cases e with
      | normal =>
        obtain ⟨hb1, hm1, hbody⟩ := h
        refine ⟨_, run_beginRound hb1.1 (by rw [hrec]), wpIn_mono (hbody _) ?_⟩
        rintro e a2 W2 ⟨rfl, hb2, hm2, hi2⟩
        have hr := run_endRound (P := P) none hb2.1
        have e3 : ({ rec with state := .busy, pending := none } : Loop) = { rec with state := .busy } := by rw [hrec]
        refine ⟨_, _, hr, rfl, hIp _ _ _ _ hi2 hb2.1, ?_, mods_putObj ((mods_putObj hm1 (.inr rfl) _).trans hm2) (.inr rfl) _⟩
        have := hb2.put rec
        rw [hrec] at this ⊢
        exact this
      | ret => exact h.elim
      | exit id => exact h.elim
      | goto t => exact h.elim
      | panic ch => exact h.elim
      | outgrown => exact h.elim
    · rintro e W2 ⟨⟨v, rfl⟩, xs, hS, hi, hb⟩
      refine ⟨none, W2.putObj (w.heap.size + 1) (.loop { rec with state := .exhausted }), ?_, hdone xs _ hS (hIp _ _ _ _ hi hb.1) (hb.put _).2⟩
      have := run_endLoop (P := P) hb.1 (by rw [hrec]; simp)
      rw [hrec] at this ⊢
      exact this
end
end Go.Proofs.YthhbiliimdpgmaaGreatDoor
/- Walk: the units of a sequence in order: All's closure, whatever its rounds do beside it. -/
namespace Go.Proofs.YthhbiliimdpgmaaGreatDoor
open Go.RowKit Go.Shelf Go.Lib
attribute [local go_sem] Oper.semAt_some

theorem RoundIn.depth {P : Program} {n n' l : Nat} {f : FuncId} {tmps : Array Value} {assign body : Code} {w : World} {R : Ending → World → Prop} (h : RoundIn Fence.wide n P l f tmps assign body w R) : RoundIn Fence.wide n' P l f tmps assign body w R := ⟨h.1, fun c cs _ => h.2 c cs (room_wide _)⟩
theorem yieldDepth {P : Program} {n n' l : Nat} {args : Array Value} {w : World} {R : Ending → World → Prop} (h : YieldAt Fence.wide n P l args w R) : YieldAt Fence.wide n' P l args w R := by
  obtain ⟨fn, tmps, assign, body, h1, h2⟩ := h
  exact ⟨fn, tmps, assign, body, h1, RoundIn.depth h2⟩
theorem yieldInRound {P : Program} {n n' l l' : Nat} {args : Array Value} {w : World} {R : Ending → World → Prop} (h : YieldAt Fence.wide n P l args w R) : YieldAt (Fence.wide.inRound l') n' P l args w R := yieldDepth (n' := n') h
/-- a place and its unit, as an iterator tells them. -/
def encIU (x : Nat × QUnit) : Array Value := #[.int .i64 x.1, unitV x.2]
def ixs (us : List QUnit) (k : Nat) : List (Nat × QUnit) := (List.range k).map fun i => (i, us.getD i uZero)
theorem ixs_succ (us : List QUnit) (k : Nat) : ixs us (k + 1) = ixs us k ++ [(k, us.getD k uZero)] := by simp [ixs, List.range_succ]
theorem ixs_length (us : List QUnit) (k : Nat) : (ixs us k).length = k := by simp [ixs]
/-- the order of a sequence at n + 6: pointers to nodes, their units. -/
structure AllA (n : Nat) (sv : Value) (bs : List Nat) (us : List QUnit) (W : World) : Prop where
  c : W.cell? ⟨n + 6, 1, none⟩ = some sv
  row : SliceAt 1 encP W sv bs
  len : bs.length = us.length
  nodes : ∀ (k b : Nat) (u : QUnit), bs[k]? = some b → us[k]? = some u → ∀ (i : Nat) (y : Value), (encUnit u)[i]? = some y → W.cell? ⟨b, i, none⟩ = some y
theorem AllA.below {n : Nat} {sv : Value} {bs : List Nat} {us : List QUnit} {W W' : World} (h : AllA n sv bs us W) (hb : Below W.heap.size W W') : AllA n sv bs us W' := by
  have hc : ∀ {a : Addr} {v : Value}, W.cell? a = some v → W'.cell? a = some v := fun {a v} hc => by
    have hlt : a.block < W.heap.size := by
      unfold World.cell? at hc
      cases ho : W.heap[a.block]? with
      | none => simp [ho] at hc
      | some o => exact (Array.getElem?_eq_some_iff.1 ho).1
    exact (hb.cell hlt).trans hc
  exact ⟨hc h.c, h.row.below hb, h.len, fun k b u h1 h2 i y hy => hc (h.nodes k b u h1 h2 i y hy)⟩
set_option maxRecDepth 100000 in
set_option maxHeartbeats 1000000 in
theorem all1_any (n Bp m L : Nat) (hm : 3 ≤ m) (sv : Value) (bs : List Nat) (us : List QUnit) (Bk : World → Prop) (I : List (Nat × QUnit) → World → Prop)
    (hA : ∀ pre W, I pre W → AllA n sv bs us W ∧ W.cell? ⟨Bp, 0, none⟩ = some (ptrV (n + 6)))
    (hY : ∀ pre x W, I pre W → Bk W → pre.length < us.length → YieldAt Fence.wide (m - 1) Tryz.prog L (encIU x) W fun e W' => e = .returned (.bool true) ∧ I (pre ++ [x]) W' ∧ Bk W')
    (W : World) (h0 : I [] W) (hb0 : Bk W) :
    CallsIn Fence.wide m Tryz.prog 171 #[.func (.yield L) #[] #[], .pointer (some ⟨Bp, 0, none⟩)] W fun e W' => (∃ v, e = .returned v) ∧ ∃ xs, xs = ixs us us.length ∧ I xs W' ∧ Bk W' := by
  obtain ⟨ha, hp⟩ := hA _ _ h0
  have hc := ha.c
  have hlen := ha.len
  have hm1 : 1 ≤ m := by omega
  unfold ptrV at hp
  refine callsIn_of_wp Tryz.func171 rfl trivial ?_ rfl
  simp only [Tryz.ntmps171, List.size_toArray, List.length_cons, List.length_nil, Nat.reduceAdd, Nat.reduceSub, Array.replicate_succ, Array.replicate_zero, List.push_toArray, List.append_toArray, List.nil_append, List.cons_append]
  obtain ⟨p, c, hsv⟩ : ∃ p c, sv = .slice p us.length c := by
    rcases ha.row with ⟨rfl, rfl⟩ | ⟨b, off, cap, rfl, _⟩
    · exact ⟨none, 0, by rw [← hlen]; rfl⟩
    · exact ⟨_, _, by rw [← hlen]⟩
  have hNm : us.length ≤ 9223372036854775807 := by
    obtain ⟨_, _, _, h, _⟩ := ha.row.shape
    rwa [hlen] at h
  have HL := Lib.hid hlen
  obtain ⟨N, hN⟩ : ∃ N, us.length = N := ⟨_, rfl⟩
  rw [hN] at hsv hNm
  subst hsv
  clear ha hlen
  gi_wp2
  gi_loopw [10] (fun z wx => ∃ k : Nat, k ≤ N ∧ z = .int .i64 k ∧ I (ixs us k) wx ∧ Bk wx) (fun z _ => N - (intOf z).toNat)
  case atStart => exact ⟨0, Nat.zero_le _, rfl, h0, hb0⟩
  case round =>
    obtain ⟨k, hk, rfl, hI, hK⟩ := hrel
    obtain ⟨ha2, hp2⟩ := hA _ _ hI
    by_cases hkn : k < N
    · have hkz : (k : Int) < (N : Int) := by omega
      have hkb : k < bs.length := by rw [HL.out]; omega
      have hku : us[k]? = some (us.getD k uZero) := by
        rw [List.getElem?_eq_getElem (by omega)]
        simp [List.getD, List.getElem?_eq_getElem (show k < us.length by omega)]
      obtain ⟨bb, off, cap, hsv, hsh⟩ : ∃ bb off cap, (Value.slice p N c) = .slice (some ⟨bb, off, none⟩) N cap ∧ wr.cell? ⟨bb, off + k, none⟩ = some (ptrV bs[k]) := by
        rcases ha2.row with ⟨_, h⟩ | ⟨b, off, cap, e, _, _, h⟩
        · rw [h] at hkb; cases hkb
        · refine ⟨b, off, cap, ?_, ?_⟩
          · cases e; rfl
          · have := h k bs[k] (by simp [hkb]) 0 (ptrV bs[k]) rfl
            simpa using this
      cases hsv
      have hnd := ha2.nodes k bs[k] (us.getD k uZero) (by simp [hkb]) hku
      generalize bs[k] = nb at hsh hnd
      generalize hu : us.getD k uZero = u at hnd
      have n0 : wr.cell? ⟨nb, 0, none⟩ = some (.int .u64 u.id.c) := hnd 0 _ rfl
      have n1 : wr.cell? ⟨nb, 1, none⟩ = some (.int .u64 u.id.k) := hnd 1 _ rfl
      have n2 : wr.cell? ⟨nb, 2, none⟩ = some (.int .u64 u.left.c) := hnd 2 _ rfl
      have n3 : wr.cell? ⟨nb, 3, none⟩ = some (.int .u64 u.left.k) := hnd 3 _ rfl
      have n4 : wr.cell? ⟨nb, 4, none⟩ = some (.int .u64 u.right.c) := hnd 4 _ rfl
      have n5 : wr.cell? ⟨nb, 5, none⟩ = some (.int .u64 u.right.k) := hnd 5 _ rfl
      unfold ptrV at hsh
      have hyk := hY _ (k, u) wr hI hK (by rw [ixs_length]; omega)
      unfold encIU unitV encUnit at hyk
      have HU := Lib.hid hu
      clear hI hnd hku hA h0 hb0 hK hc hp hp2 ha2 hkb hu
      gi_wp2_with (obtain ⟨fn, tmps, assign, body, hy, hR⟩ := hyk)
      refine hR.mono ?_
      rintro e W6 ⟨rfl, hI6, hK6⟩
      clear hR hy
      gi_wp2
      go_roundw
      case rel => exact ⟨k + 1, by omega, by go_num, by rw [ixs_succ, HU.out]; exact hI6, hK6⟩
      case measure => simp [intOf]; omega
    · obtain rfl : k = N := by omega
      gi_wp2
      go_end0
      exact ⟨⟨_, rfl⟩, _, by rw [hN], hI, hK⟩
end Go.Proofs.YthhbiliimdpgmaaGreatDoor
