/- Walks: value.Clean, cmp.Or at ints, the closure of ids.Clean. -/
import Derived.Test.YteadongdlacgmaaLeaf
namespace Go.Proofs.Yteadongdlacgmaa
open Go.RowKit

theorem run_frombits (w : World) : (callFunc 46 #[Value.int .u64 9221120237041090560]).run Try.prog w = .ok (.value (.float .f64 nanBits)) w := by kernel_rfl

theorem store_float (w : World) (a : Addr) (b : Nat) (m : Mode) : (store a (.float .f64 b) m).run Try.prog w = stored Try.prog w a (.float .f64 b) m := run_store Try.prog w a _ m rfl

set_option maxHeartbeats 400000 in
theorem valClean_any (v : QVal) (w : World) :
    Calls Try.prog 22 #[.agg #[.int .i64 v.kind, .int .i64 v.n, .float .f64 v.f, .string v.s]] w fun e w' => e = .returned (.agg #[.int .i64 (v.clean).kind, .int .i64 (v.clean).n, .float .f64 (v.clean).f, .string (v.clean).s]) ∧ Below w.heap.size w w' := by
  have hfb := run_frombits
  have hsf := store_float
  cases hn : nanB v.f
  · have hc : v.clean = v := by simp [QVal.clean, hn]
    have nn := fun w => isNaN_any v.f w
    rw [hn] at nn; rw [hc]
    clear hc hn
    go_enter Try.func22, Try.ntmps22
    go_wp2_with (go_at_call 45; refine (nn _).mono ?_; rintro e w' ⟨rfl, rfl⟩)
    exact bodyPost_ret (v := .agg #[.int .i64 v.kind, .int .i64 v.n, .float .f64 v.f, .string v.s]) (by simp [results, go_sem]) rfl ⟨rfl, by (repeat (first | exact Below.refl _ _ | assumption | refine Below.alloc ?_ (by simp <;> omega) _ | refine Below.drew ?_ | refine below_drewN ?_ _ | refine Below.setCell ?_ (by simp <;> omega) _ | refine belowTrans ?_ (by assumption)))⟩
  · have hc : v.clean = ⟨v.kind, v.n, nanBits, v.s⟩ := by simp [QVal.clean, hn]
    have nn := fun w => isNaN_any v.f w
    rw [hn] at nn; rw [hc]
    clear hc hn
    go_enter Try.func22, Try.ntmps22
    go_wp2_with (go_at_call 45; refine (nn _).mono ?_; rintro e w' ⟨rfl, rfl⟩)
    exact bodyPost_ret (v := .agg #[.int .i64 v.kind, .int .i64 v.n, .float .f64 nanBits, .string v.s]) (by simp [results, go_sem]) rfl ⟨rfl, by (repeat (first | exact Below.refl _ _ | assumption | refine Below.alloc ?_ (by simp <;> omega) _ | refine Below.drew ?_ | refine below_drewN ?_ _ | refine Below.setCell ?_ (by simp <;> omega) _ | refine belowTrans ?_ (by assumption)))⟩

set_option maxHeartbeats 400000 in
theorem or2_any (x y : Int) (b : Nat) (w : World) (h0 : w.cell? ⟨b, 0, none⟩ = some (.int .i64 x)) (h1 : w.cell? ⟨b, 1, none⟩ = some (.int .i64 y)) :
    Calls Try.prog 42 #[.slice (some ⟨b, 0, none⟩) 2 2] w fun e w' => e = .returned (.int .i64 (orI x y)) ∧ w = w' := by
  go_enter Try.func42, Try.ntmps42
  go_wp2
  refine wp_loop_rounds 3 ?_
  rw [rounds_succ]; go_wp2
  all_goals (first | (rw [rounds_succ]; go_wp2) | skip)
  all_goals (first | (rw [rounds_succ]; go_wp2) | skip)
  all_goals go_ret
  · exact ⟨ret_int (orI_ne ‹_›), rfl⟩
  · exact ⟨ret_int (orI_eq ‹_›), rfl⟩
  · exact ⟨ret_int (orI_zero ‹_› ‹_›), rfl⟩

theorem grew_of_below {w w' : World} (h : Below w.heap.size w w') (hd : w.drawn ≤ w'.drawn) : ∃ q os, w' = Sort.grow (w.drewN q) os := by
  refine ⟨w'.drawn - w.drawn, w'.heap.extract w.heap.size w'.heap.size, ?_⟩
  obtain ⟨h1, h2, h3, h4, h5⟩ := h
  cases w with | mk heap tape drawn os output =>
  cases w' with | mk heap' tape' drawn' os' output' =>
  simp only at h1 h2 h3 h4 h5 hd
  subst h1; subst h2; subst h3
  simp only [Sort.grow, World.drewN, World.mk.injEq, true_and, and_true]
  refine ⟨?_, by omega⟩
  apply Array.ext_getElem?
  intro i
  by_cases hi : i < heap.size
  · rw [h5 i hi, Array.getElem?_append, if_pos hi]
  · rw [Array.getElem?_append, if_neg hi, Array.getElem?_extract]
    by_cases h2 : i < heap'.size
    · rw [if_pos (by omega)]; congr 1; omega
    · rw [if_neg (by omega)]; exact Array.getElem?_eq_none (by omega)

set_option maxHeartbeats 400000 in
theorem rngCmp_any (x y : QRng) (w : World) :
    Calls Try.prog 41 #[.agg #[.int .u64 x.c, .int .u64 x.a, .int .u64 x.b], .agg #[.int .u64 y.c, .int .u64 y.a, .int .u64 y.b]] w fun e w' => e = .returned (.int .i64 (x.cmp y)) ∧ ∃ q os, w' = Sort.grow (w.drewN q) os := by
  have h1 := fun W => cmpU_any x.c y.c W
  have h2 := fun W => cmpU_any x.a y.a W
  obtain ⟨u, hu⟩ : ∃ u, u = cmpU x.c y.c := ⟨_, rfl⟩
  obtain ⟨v, hv⟩ : ∃ v, v = cmpU x.a y.a := ⟨_, rfl⟩
  have hr : x.cmp y = orI u v := by rw [hu, hv]; rfl
  rw [← hu] at h1; rw [← hv] at h2; rw [hr]
  clear hr hu hv
  go_enter Try.func41, Try.ntmps41
  go_wp2
  go_region_held3 (fun w' => w'.cell? ⟨w.heap.size, 0, none⟩ = some (.int .u64 x.c) ∧ w'.cell? ⟨w.heap.size, 1, none⟩ = some (.int .u64 x.a) ∧ w'.cell? ⟨w.heap.size + 1, 0, none⟩ = some (.int .u64 y.c) ∧ w'.cell? ⟨w.heap.size + 1, 1, none⟩ = some (.int .u64 y.a)) (go_keep) (first | (go_at_call_of 43 (Value.int .u64 x.c); refine (h1 _).mono ?_; rintro e w' ⟨rfl, rfl⟩) | (go_at_call_of 43 (Value.int .u64 x.a); refine (h2 _).mono ?_; rintro e w' ⟨rfl, rfl⟩) | (go_at_call 42; refine (or2_any u v _ _ (by go_simp) (by go_simp)).mono ?_; rintro e w' ⟨rfl, rfl⟩))
  go_wp2
  go_ret
  exact ⟨rfl, grew_of_below (by (repeat (first | exact Below.refl _ _ | assumption | refine Below.alloc ?_ (by simp <;> omega) _ | refine Below.drew ?_ | refine below_drewN ?_ _ | refine Below.setCell ?_ (by simp <;> omega) _ | refine belowTrans ?_ (by assumption)))) (by simp)⟩

end Go.Proofs.Yteadongdlacgmaa
