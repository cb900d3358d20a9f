/- Walks of the small functions on ids, ranges, values. -/
import Derived.Test.YteadongdlacgmaaData
import Derived.WalkKit
import Derived.WalkSpells
import Derived.WalkLawsBesides
import Derived.Deep.QuietTactic
import Derived.BigQuiet
import Derived.Sort.Grow
import Derived.Lib.Hide
import Derived.StillTailTactics
import Derived.Deep.RegionHeld3
import Derived.Deep.MidRow
namespace Go.Proofs.Yteadongdlacgmaa
open Go.RowKit

theorem bcell {W w1 : World} (hb : Below W.heap.size W w1) : (∀ b o, b < W.heap.size → w1.cell? ⟨b, o, none⟩ = W.cell? ⟨b, o, none⟩) ∧ (∀ b o, b < W.heap.size → w1.frozen? ⟨b, o, none⟩ = W.frozen? ⟨b, o, none⟩) :=
  ⟨fun b o h => hb.cell (p := ⟨b, o, none⟩) h, fun b o h => hb.frozen (p := ⟨b, o, none⟩) h⟩

theorem belowTrans {a b c : World} (h : Below a.heap.size a b) (g : Below b.heap.size b c) : Below a.heap.size a c := h.trans (g.mono h.size)
theorem ret_int {k : IntKind} {a b : Int} (h : a = b) : Ending.returned (.int k a) = .returned (.int k b) := by rw [h]
theorem ret_bool {a b : Bool} (h : a = b) : Ending.returned (.bool a) = .returned (.bool b) := by rw [h]

set_option maxHeartbeats 400000 in
theorem number_any (n : Int) (w : World) :
    Calls Try.prog 44 #[.int .u64 n] w fun e w' => e = .returned (.bool (numB n)) ∧ w = w' := by
  go_enter Try.func44, Try.ntmps44
  go_wp2
  all_goals go_ret
  all_goals exact ⟨ret_bool (by simp [numB, *]; try omega), rfl⟩

set_option maxHeartbeats 400000 in
theorem idsLess_any (x y : QId) (w : World) :
    Calls Try.prog 57 #[.agg #[.int .u64 x.c, .int .u64 x.k], .agg #[.int .u64 y.c, .int .u64 y.k]] w fun e w' => e = .returned (.bool (x.lessB y)) ∧ Below w.heap.size w w' := by
  go_enter Try.func57, Try.ntmps57
  go_wp2
  all_goals go_ret
  all_goals exact ⟨ret_bool (by simp [QId.lessB, *]), ((Below.refl _ _).alloc (Nat.le_refl _) _).alloc (by simp) _⟩

set_option maxHeartbeats 400000 in
theorem right_any (x : QId) (w : World) :
    Calls Try.prog 21 #[.agg #[.int .u64 x.c, .int .u64 x.k]] w fun e w' => e = .returned (.bool x.rightB) ∧ Below w.heap.size w w' := by
  go_enter Try.func21, Try.ntmps21
  go_wp2_with (go_at_call 44; refine (number_any _ _).mono ?_; rintro e w' ⟨rfl, rfl⟩)
  all_goals go_ret
  all_goals exact ⟨ret_bool (by simp [QId.rightB, *]), ((Below.refl _ _).alloc (Nat.le_refl _) _)⟩

set_option maxHeartbeats 400000 in
theorem rright_any (x : QRng) (w : World) :
    Calls Try.prog 39 #[.agg #[.int .u64 x.c, .int .u64 x.a, .int .u64 x.b]] w fun e w' => e = .returned (.bool x.rightB) ∧ Below w.heap.size w w' := by
  go_enter Try.func39, Try.ntmps39
  go_wp2_with (go_at_call 44; refine (number_any _ _).mono ?_; rintro e w' ⟨rfl, rfl⟩)
  all_goals go_ret
  all_goals exact ⟨ret_bool (by simp [QRng.rightB, *]; try omega), ((Below.refl _ _).alloc (Nat.le_refl _) _)⟩

set_option maxHeartbeats 400000 in
theorem marksLess_any (x y : QOp) (w : World) :
    Calls Try.prog 36 #[.agg #[.int .u64 x.id.c, .int .u64 x.id.k, .int .i64 x.kind, .int .u64 x.stamp, .int .u64 x.left.c, .int .u64 x.left.k, .int .u64 x.right.c, .int .u64 x.right.k, .string x.text, .int .i64 x.v.kind, .int .i64 x.v.n, .float .f64 x.v.f, .string x.v.s, .string x.key, .int .u64 x.parent.c, .int .u64 x.parent.k, .int .u64 x.frm.c, .int .u64 x.frm.k, .bool x.frmA, .int .u64 x.til.c, .int .u64 x.til.k, .bool x.tilA], .agg #[.int .u64 y.id.c, .int .u64 y.id.k, .int .i64 y.kind, .int .u64 y.stamp, .int .u64 y.left.c, .int .u64 y.left.k, .int .u64 y.right.c, .int .u64 y.right.k, .string y.text, .int .i64 y.v.kind, .int .i64 y.v.n, .float .f64 y.v.f, .string y.v.s, .string y.key, .int .u64 y.parent.c, .int .u64 y.parent.k, .int .u64 y.frm.c, .int .u64 y.frm.k, .bool y.frmA, .int .u64 y.til.c, .int .u64 y.til.k, .bool y.tilA]] w fun e w' => e = .returned (.bool (x.lessB y)) ∧ Below w.heap.size w w' := by
  go_enter Try.func36, Try.ntmps36
  go_wp2_with (go_at_call 57; refine (idsLess_any x.id y.id _).mono ?_; rintro e w' ⟨rfl, hb⟩)
  all_goals go_ret
  all_goals exact ⟨ret_bool (by simp [QOp.lessB, *]), by (repeat (first | exact Below.refl _ _ | assumption | refine Below.alloc ?_ (by simp <;> omega) _ | refine Below.drew ?_ | refine below_drewN ?_ _ | refine Below.setCell ?_ (by simp <;> omega) _ | refine belowTrans ?_ (by assumption)))⟩

set_option maxHeartbeats 400000 in
theorem isNaN_any (f : Nat) (w : World) :
    Calls Try.prog 45 #[.float .f64 f] w fun e w' => e = .returned (.bool (nanB f)) ∧ w = w' := by
  go_enter Try.func45, Try.ntmps45
  go_wp2
  go_ret
  exact ⟨rfl, rfl⟩

set_option maxHeartbeats 400000 in
theorem cmpU_any (x y : Int) (w : World) :
    Calls Try.prog 43 #[.int .u64 x, .int .u64 y] w fun e w' => e = .returned (.int .i64 (cmpU x y)) ∧ w = w' := by
  go_enter Try.func43, Try.ntmps43
  go_wp2_with go_in
  all_goals go_ret
  all_goals exact ⟨ret_int (by simp [cmpU]; omega), rfl⟩

set_option maxHeartbeats 400000 in
theorem rhas_any (x : QRng) (i : QId) (b : Nat) (w : World) (h0 : w.cell? ⟨b, 0, none⟩ = some (.int .u64 i.c)) (h1 : w.cell? ⟨b, 1, none⟩ = some (.int .u64 i.k)) (hbs : b < w.heap.size) :
    Calls Try.prog 56 #[.agg #[.int .u64 x.c, .int .u64 x.a, .int .u64 x.b], .pointer (some ⟨b, 0, none⟩)] w fun e w' => e = .returned (.bool (x.hasB i)) ∧ Below w.heap.size w w' := by
  have hbs1 : b < w.heap.size + 1 := by omega
  go_enter Try.func56, Try.ntmps56
  go_wp2_with (go_at_call 39; refine (rright_any _ _).mono ?_; rintro e w' ⟨rfl, hb⟩; obtain ⟨hc, hf⟩ := bcell hb)
  all_goals go_ret
  all_goals exact ⟨ret_bool (by simp [QRng.hasB, *]; try omega), by (repeat (first | exact Below.refl _ _ | assumption | refine Below.alloc ?_ (by simp <;> omega) _ | refine Below.drew ?_ | refine below_drewN ?_ _ | refine Below.setCell ?_ (by simp <;> omega) _ | refine belowTrans ?_ (by assumption)))⟩
end Go.Proofs.Yteadongdlacgmaa
