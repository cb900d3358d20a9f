/- Walk: the document's answer's comparison of two sets that are alike but for their NaNs (quireref8.Same). -/
import Derived.Test.YteadongdlacgmaaRef5
namespace Go.Proofs.Yteadongdlacgmaa
open Go.RowKit

set_option maxRecDepth 100000 in
set_option maxHeartbeats 2000000 in
theorem same8_k (c k st : Int) (v : QVal) (w : World) :
    Calls Try.prog 19 #[.agg #[.int .u64 c, .int .u64 k, .int .i64 4, .int .u64 st, .int .u64 0, .int .u64 0, .int .u64 0, .int .u64 0, .string ⟨#[]⟩, .int .i64 v.clean.kind, .int .i64 v.clean.n, .float .f64 v.clean.f, .string v.clean.s, .string ⟨#[107]⟩, .int .u64 0, .int .u64 0, .int .u64 0, .int .u64 0, .bool false, .int .u64 0, .int .u64 0, .bool false], .agg #[.int .u64 c, .int .u64 k, .int .i64 4, .int .u64 st, .int .u64 0, .int .u64 0, .int .u64 0, .int .u64 0, .string ⟨#[]⟩, .int .i64 v.kind, .int .i64 v.n, .float .f64 v.f, .string v.s, .string ⟨#[107]⟩, .int .u64 0, .int .u64 0, .int .u64 0, .int .u64 0, .bool false, .int .u64 0, .int .u64 0, .bool false]] w fun e w' => e = .returned (.bool true) ∧ Below w.heap.size w w' := by
  have hcmp := fun w => cmp_clean v w
  go_enter Try.func19, Try.ntmps19
  go_wp2_with fail
  refine (hcmp _).mono ?_
  rintro e w1 ⟨rfl, hb⟩
  obtain ⟨hc, hf⟩ := bcell hb
  go_wp2_with fail
  go_ret
  exact ⟨rfl, belowTrans (by (repeat (first | exact Below.refl _ _ | assumption | refine Below.alloc ?_ (by simp <;> omega) _ | refine Below.drew ?_ | refine below_drewN ?_ _ | refine Below.setCell ?_ (by simp <;> omega) _ | refine belowTrans ?_ (by assumption)))) hb⟩
end Go.Proofs.Yteadongdlacgmaa
