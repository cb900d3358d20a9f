/- Walks: the document's answer's small functions (quireref6.Right, quireref8.none, named, quireref2.ints, order, Cmp). -/
import Derived.Test.YteadongdlacgmaaRegion
import Derived.Test.YteadongdlacgmaaMapsLaw
namespace Go.Proofs.Yteadongdlacgmaa
open Go.RowKit

set_option maxHeartbeats 400000 in
theorem right6_any (x : QId) (w : World) :
    Calls Try.prog 25 #[.agg #[.int .u64 x.c, .int .u64 x.k]] w fun e w' => e = .returned (.bool x.rightB) ∧ Below w.heap.size w w' := by
  go_enter Try.func25, Try.ntmps25
  go_wp2
  all_goals go_ret
  all_goals exact ⟨ret_bool (by simp [QId.rightB, numB, *] <;> omega), by (repeat (first | exact Below.refl _ _ | assumption | refine Below.alloc ?_ (by simp <;> omega) _ | refine Below.drew ?_ | refine below_drewN ?_ _ | refine Below.setCell ?_ (by simp <;> omega) _ | refine belowTrans ?_ (by assumption)))⟩

set_option maxHeartbeats 400000 in
theorem none8_zero (w : World) :
    Calls Try.prog 27 #[.agg #[.int .u64 0, .int .u64 0]] w fun e w' => e = .returned (.bool true) ∧ Below w.heap.size w w' := by
  go_enter Try.func27, Try.ntmps27
  go_wp2
  all_goals go_ret
  all_goals exact ⟨rfl, by (repeat (first | exact Below.refl _ _ | assumption | refine Below.alloc ?_ (by simp <;> omega) _ | refine Below.drew ?_ | refine below_drewN ?_ _ | refine Below.setCell ?_ (by simp <;> omega) _ | refine belowTrans ?_ (by assumption)))⟩

set_option maxHeartbeats 400000 in
theorem named8_zero (w : World) :
    Calls Try.prog 26 #[.agg #[.int .u64 0, .int .u64 0]] w fun e w' => e = .returned (.bool true) ∧ Below w.heap.size w w' := by
  go_enter Try.func26, Try.ntmps26
  go_wp2_with (go_at_call 27; refine (none8_zero _).mono ?_; rintro e w' ⟨rfl, hb⟩)
  all_goals go_ret
  all_goals exact ⟨rfl, by (repeat (first | exact Below.refl _ _ | assumption | refine Below.alloc ?_ (by simp <;> omega) _ | refine Below.drew ?_ | refine below_drewN ?_ _ | refine Below.setCell ?_ (by simp <;> omega) _ | refine belowTrans ?_ (by assumption)))⟩

set_option maxHeartbeats 400000 in
theorem ints_same (a : Int) (w : World) :
    Calls Try.prog 58 #[.int .i64 a, .int .i64 a] w fun e w' => e = .returned (.int .i64 0) ∧ w = w' := by
  have h : ¬ a < a := by omega
  go_enter Try.func58, Try.ntmps58
  go_wp2
  all_goals go_ret
  all_goals exact ⟨rfl, rfl⟩

set_option maxHeartbeats 400000 in
theorem order_nan (f : Nat) (hf : nanB f = true) (w : World) :
    Calls Try.prog 59 #[.float .f64 f] w fun e w' => e = .returned (.int .i64 9223372036854775807) ∧ w = w' := by
  unfold nanB at hf
  go_enter Try.func59, Try.ntmps59
  go_wp2
  all_goals go_ret
  all_goals exact ⟨rfl, rfl⟩

theorem run_bits (f : Nat) (w : World) : (callFunc 53 #[Value.float .f64 f]).run Try.prog w = .ok (.value (.int .u64 f)) w := by kernel_rfl

set_option maxHeartbeats 400000 in
theorem order_num (f : Nat) (hf : nanB f = false) : ∃ n : Int, ∀ w,
    Calls Try.prog 59 #[.float .f64 f] w fun e w' => e = .returned (.int .i64 n) ∧ w = w' := by
  unfold nanB at hf
  have hb := run_bits f
  refine ⟨if wrap64 (f : Int) < 0 then wrap64 (-1 - bits BinOp.and IntKind.i64 (wrap64 (f : Int)) 9223372036854775807) else wrap64 (f : Int), fun w => ?_⟩
  go_enter Try.func59, Try.ntmps59
  go_wp2
  all_goals go_ret
  all_goals exact ⟨ret_int (by simp [*]), rfl⟩

theorem bytesLess_self : ∀ l : List UInt8, Op.bytesLess l l = false
  | [] => rfl
  | a :: l => by simp [Op.bytesLess, bytesLess_self l]
theorem belowOf {e : Ending} {v : Value} {w w' : World} (h : e = .returned v ∧ w = w') : e = .returned v ∧ Below w.heap.size w w' := ⟨h.1, h.2 ▸ Below.refl _ _⟩

set_option maxRecDepth 100000 in
set_option maxHeartbeats 400000 in
theorem cmp_clean (v : QVal) (w : World) :
    Calls Try.prog 37 #[.agg #[.int .i64 v.clean.kind, .int .i64 v.clean.n, .float .f64 v.clean.f, .string v.clean.s], .agg #[.int .i64 v.kind, .int .i64 v.n, .float .f64 v.f, .string v.s]] w fun e w' => e = .returned (.int .i64 0) ∧ Below w.heap.size w w' := by
  obtain ⟨n, hn⟩ : ∃ n : Int, ∀ f, f = v.f ∨ f = v.clean.f → ∀ w, Calls Try.prog 59 #[.float .f64 f] w fun e w' => e = .returned (.int .i64 n) ∧ w = w' := by
    cases h : nanB v.f
    · obtain ⟨n, hn⟩ := order_num v.f h
      refine ⟨n, fun f hf w => ?_⟩
      have : v.clean = v := by simp [QVal.clean, h]
      rw [this] at hf
      rcases hf with rfl | rfl <;> exact hn w
    · refine ⟨_, fun f hf w => order_nan f ?_ w⟩
      rcases hf with rfl | rfl
      · exact h
      · simp [QVal.clean, h, nan_nan]
  have h1 := fun w => hn v.f (.inl rfl) w
  have h2 := fun w => hn v.clean.f (.inr rfl) w
  have e1 : v.clean.kind = v.kind := by unfold QVal.clean; split <;> rfl
  have e2 : v.clean.n = v.n := by unfold QVal.clean; split <;> rfl
  have e3 : v.clean.s = v.s := by unfold QVal.clean; split <;> rfl
  rw [e1, e2, e3]
  generalize v.clean.f = g at h2 ⊢
  clear hn e1 e2 e3
  have hB : Below w.heap.size w ((w.alloc (.cells #[.int .i64 v.kind, .int .i64 v.n, .float .f64 g, .string v.s] 37)).alloc (.cells #[.int .i64 v.kind, .int .i64 v.n, .float .f64 v.f, .string v.s] 37)) := by (repeat (first | exact Below.refl _ _ | assumption | refine Below.alloc ?_ (by simp <;> omega) _ | refine Below.drew ?_ | refine below_drewN ?_ _ | refine Below.setCell ?_ (by simp <;> omega) _ | refine belowTrans ?_ (by assumption)))
  go_enter Try.func37, Try.ntmps37
  go_wp2_with (go_at_call 58; refine (ints_same _ _).mono ?_; rintro e w' ⟨rfl, rfl⟩)
  obtain ⟨W, hW⟩ : ∃ W, ((w.alloc (.cells #[.int .i64 v.kind, .int .i64 v.n, .float .f64 g, .string v.s] 37)).alloc (.cells #[.int .i64 v.kind, .int .i64 v.n, .float .f64 v.f, .string v.s] 37)) = W := ⟨_, rfl⟩
  have b0 : W.heap[w.heap.size]? = some (.cells #[.int .i64 v.kind, .int .i64 v.n, .float .f64 g, .string v.s] 37 (0, 0)) := by subst hW; (simp only [alloc_heap_if, World.size_alloc]; repeat (first | rw [if_pos rfl] | rw [if_pos trivial] | rw [if_pos (by omega)] | rw [if_neg (by omega)]))
  have b1 : W.heap[w.heap.size + 1]? = some (.cells #[.int .i64 v.kind, .int .i64 v.n, .float .f64 v.f, .string v.s] 37 (0, 0)) := by subst hW; (simp only [alloc_heap_if, World.size_alloc]; repeat (first | rw [if_pos rfl] | rw [if_pos trivial] | rw [if_pos (by omega)] | rw [if_neg (by omega)]))
  have hs : W.heap.size = w.heap.size + 2 := by subst hW; simp
  rw [hW] at hB ⊢
  clear hW
  have f0 : ∀ s : BStep W, s.val.cell? ⟨w.heap.size, 2, none⟩ = some (.float .f64 g) := BStep.cell (by show w.heap.size < _; omega) (by simp [World.cell?, b0])
  have f1 : ∀ s : BStep W, s.val.cell? ⟨w.heap.size + 1, 2, none⟩ = some (.float .f64 v.f) := BStep.cell (by show w.heap.size + 1 < _; omega) (by simp [World.cell?, b1])
  have k1 : ∀ x : Nat, (x = v.f ∨ x = g) → ∀ s : BStep W, Calls Try.prog 59 #[.float .f64 x] s.val fun e w' => e = .returned (.int .i64 n) ∧ Below s.val.heap.size s.val w' := by
    rintro x (rfl | rfl) s
    · exact (h1 _).mono fun _ _ => belowOf
    · exact (h2 _).mono fun _ _ => belowOf
  have k3 : ∀ s : BStep W, Calls Try.prog 58 #[.int .i64 n, .int .i64 n] s.val fun e w' => e = .returned (.int .i64 0) ∧ Below s.val.heap.size s.val w' := fun s => (ints_same _ _).mono fun _ _ => belowOf
  clear h1 h2
  refine wp_region_b (by kernel_rfl) (by kernel_rfl) ?_
  repeat (first | go_big_quiet_skip | (go_big_quiet_want; go_big_quiet_op; first | go_big_quiet_on | go_big_quiet_call ((first | (go_at_call 59; exact callsB (k1 _ (by first | exact .inl rfl | exact .inr rfl) _)) | (go_at_call 58; exact callsB (k3 _))))))
  refine wpQuiet_nil ?_
  intro W' hC'
  have hBW' := BStep.of hC'
  have g0 : W'.cell? ⟨w.heap.size, 3, none⟩ = some (.string v.s) := (hBW'.cell (p := ⟨w.heap.size, 3, none⟩) (by show w.heap.size < _; omega)).trans (by simp [World.cell?, b0])
  have g1 : W'.cell? ⟨w.heap.size + 1, 3, none⟩ = some (.string v.s) := (hBW'.cell (p := ⟨w.heap.size + 1, 3, none⟩) (by show w.heap.size + 1 < _; omega)).trans (by simp [World.cell?, b1])
  have hl := bytesLess_self v.s.toList
  go_wp2
  all_goals go_ret
  all_goals exact ⟨rfl, belowTrans hB hBW'⟩
end Go.Proofs.Yteadongdlacgmaa
