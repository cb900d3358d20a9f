/- A slice literal of one whole operation. -/
import Derived.Test.YtaeebgljcdfolaaGreatDoorM08
import Derived.Great.Walk
namespace Go.Proofs.YtaeebgljcdfolaaGreatDoor
open Go.RowKit

/-- a slice literal of one whole set. -/
theorem wpList_sliceOp {ops : Array Oper} {rest : List Oper} {o : Oper} {a : Act} {w : World} {Q : Exit → Act → World → Prop} (x1 : QOp) (hg : o.guard = none) (x : Operand) (ho : o.op = .buildSlice 25 1 #[(0, x)]) (hx : a.eval x = opV x1)
    (h : wpList Tryz.prog ops Q rest (a.put o.dst (.slice (some ⟨w.heap.size, 0, none⟩) 1 1)) (w.alloc (.cells (encOp x1).toArray 35))) : wpList Tryz.prog ops Q (o :: rest) a w := by
  refine Great.wpList_buildSliceTo hg 25 35 1 #[(0, x)] ho w.heap.size rfl o.dst rfl Tryz.underlying25 (encOp x1).toArray ?_ h
  rw [show (#[(0, x)].map fun (p : Nat × Operand) => (p.1, a.eval p.2)).toList = [(0, opV x1)] by simp [hx]]
  kernel_rfl
end Go.Proofs.YtaeebgljcdfolaaGreatDoor
