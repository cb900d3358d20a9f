/- Walk: quirelaw12.set: a set as a value. -/
import Derived.Test.YteadongdlacgmaaOps
namespace Go.Proofs.Yteadongdlacgmaa
open Go.RowKit

/-- the set that 'set' makes. -/
def mkOp (cl st : Int) (p : QId) (key : ByteArray) (v : QVal) : QOp := ⟨⟨1, cl⟩, 4, st, idZero, idZero, ⟨#[]⟩, v, key, p, idZero, false, idZero, false⟩

set_option maxRecDepth 100000 in
set_option maxHeartbeats 2000000 in
theorem setOp_any (cl st : Int) (p : QId) (key : ByteArray) (v : QVal) (w : World) :
    Calls Try.prog 15 #[.int .u64 cl, .int .u64 st, .agg #[.int .u64 p.c, .int .u64 p.k], .string key, .agg #[.int .i64 v.kind, .int .i64 v.n, .float .f64 v.f, .string v.s]] w fun e w' => e = .returned (opV (mkOp cl st p key v)) ∧ Below w.heap.size w w' := by
  have bz : OpBox (((w.alloc (.cells #[.int .u64 p.c, .int .u64 p.k] 34)).alloc (.cells #[.int .i64 v.kind, .int .i64 v.n, .float .f64 v.f, .string v.s] 37)).alloc (.cells #[.int .u64 opZero.id.c, .int .u64 opZero.id.k, .int .i64 opZero.kind, .int .u64 opZero.stamp, .int .u64 opZero.left.c, .int .u64 opZero.left.k, .int .u64 opZero.right.c, .int .u64 opZero.right.k, .string opZero.text, .int .i64 opZero.v.kind, .int .i64 opZero.v.n, .float .f64 opZero.v.f, .string opZero.v.s, .string opZero.key, .int .u64 opZero.parent.c, .int .u64 opZero.parent.k, .int .u64 opZero.frm.c, .int .u64 opZero.frm.k, .bool opZero.frmA, .int .u64 opZero.til.c, .int .u64 opZero.til.k, .bool opZero.tilA] 41)) (w.heap.size + 1 + 1) opZero := by unfold OpBox; (simp only [alloc_heap_if, World.size_alloc]; repeat (first | rw [if_pos rfl] | rw [if_pos trivial] | rw [if_pos (by omega)] | rw [if_neg (by omega)])); rfl
  have hB : Below w.heap.size w (putOp (((w.alloc (.cells #[.int .u64 p.c, .int .u64 p.k] 34)).alloc (.cells #[.int .i64 v.kind, .int .i64 v.n, .float .f64 v.f, .string v.s] 37)).alloc (.cells #[.int .u64 opZero.id.c, .int .u64 opZero.id.k, .int .i64 opZero.kind, .int .u64 opZero.stamp, .int .u64 opZero.left.c, .int .u64 opZero.left.k, .int .u64 opZero.right.c, .int .u64 opZero.right.k, .string opZero.text, .int .i64 opZero.v.kind, .int .i64 opZero.v.n, .float .f64 opZero.v.f, .string opZero.v.s, .string opZero.key, .int .u64 opZero.parent.c, .int .u64 opZero.parent.k, .int .u64 opZero.frm.c, .int .u64 opZero.frm.k, .bool opZero.frmA, .int .u64 opZero.til.c, .int .u64 opZero.til.k, .bool opZero.tilA] 41)) (w.heap.size + 1 + 1) (mkOp cl st p key v)) := below_putOp (by (repeat (first | exact Below.refl _ _ | assumption | refine Below.alloc ?_ (by simp <;> omega) _ | refine Below.drew ?_ | refine below_drewN ?_ _ | refine Below.setCell ?_ (by simp <;> omega) _ | refine belowTrans ?_ (by assumption)))) (by omega) _
  have hres := (bz.put (mkOp cl st p key v)).load
  generalize hW : putOp (((w.alloc (.cells #[.int .u64 p.c, .int .u64 p.k] 34)).alloc (.cells #[.int .i64 v.kind, .int .i64 v.n, .float .f64 v.f, .string v.s] 37)).alloc (.cells #[.int .u64 opZero.id.c, .int .u64 opZero.id.k, .int .i64 opZero.kind, .int .u64 opZero.stamp, .int .u64 opZero.left.c, .int .u64 opZero.left.k, .int .u64 opZero.right.c, .int .u64 opZero.right.k, .string opZero.text, .int .i64 opZero.v.kind, .int .i64 opZero.v.n, .float .f64 opZero.v.f, .string opZero.v.s, .string opZero.key, .int .u64 opZero.parent.c, .int .u64 opZero.parent.k, .int .u64 opZero.frm.c, .int .u64 opZero.frm.k, .bool opZero.frmA, .int .u64 opZero.til.c, .int .u64 opZero.til.k, .bool opZero.tilA] 41)) (w.heap.size + 1 + 1) (mkOp cl st p key v) = W at hB hres
  have HW := Lib.hid hW
  have Hres := Lib.hid hres
  clear hW hres
  go_enter Try.func15, Try.ntmps15
  go_wp2_with (refine wpList_store_eq (T := 41) (v := opV (mkOp cl st p key v)) rfl rfl rfl rfl (OpBox.store bz (mkOp cl st p key v)) ?_; rw [HW.out])
  refine bodyPost_ret (v := opV (mkOp cl st p key v)) ?_ rfl ⟨rfl, hB⟩
  have hres := Hres.out
  simp [results, Try.results15, asAddr, Act.put, hres]
end Go.Proofs.Yteadongdlacgmaa
