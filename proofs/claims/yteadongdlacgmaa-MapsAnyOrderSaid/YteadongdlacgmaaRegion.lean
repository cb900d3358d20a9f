/- A region that draws its order, whose operations only read and whose callees read and make blocks of their own: one walk, in the order of the text. -/
import Derived.Test.YteadongdlacgmaaMem
import Derived.BigQuiet
namespace Go.Proofs.Yteadongdlacgmaa
open Go.RowKit

/-- a world in which all that lay in W lies as it did. -/
structure BStep (W : World) where
  val : World
  h : Below W.heap.size W val

theorem wp_region_b {P : Program} {id : Nat} {Q : Exit → Act → World → Prop} {a : Act} {w : World} {l : List Oper} (hm : P.follows .mixedOrders = true) (hB : Region.lexB .any l.toArray = true)
    (h : wpQuiet P l.toArray (fun w' => ∃ p : BStep w, w' = p.val) (fun a' => ∀ w', (∃ p : BStep w, w' = p.val) → Q .normal a' w') l a) : (Code.region id l.toArray true).wp P Q a w :=
  wp_region_quiet (C := fun w' => ∃ p : BStep w, w' = p.val) hm hB ⟨⟨w.drew, (Below.refl _ _).drew⟩, rfl⟩ (by simpa using h)

theorem BStep.cell {W : World} {a : Addr} {v : Value} (hb : a.block < W.heap.size) (h : W.cell? a = some v) (s : BStep W) : s.val.cell? a = some v := (s.h.cell hb).trans h

/-- a callee's contract, met in a world of the class. -/
theorem callsB {P : Program} {f : FuncId} {args : Array Value} {W : World} {s : BStep W} {v : Value}
    (h : Calls P f args s.val fun e w' => e = .returned v ∧ Below s.val.heap.size s.val w') : Calls P f args s.val fun e w'' => e = .returned v ∧ ∃ p : BStep W, w'' = p.val :=
  h.mono fun _ w' ⟨he, hb⟩ => ⟨he, ⟨w', belowTrans s.h hb⟩, rfl⟩
theorem BStep.of {W w' : World} (h : ∃ p : BStep W, w' = p.val) : Below W.heap.size W w' := by obtain ⟨p, rfl⟩ := h; exact p.h
instance (W : World) : Nonempty (BStep W) := ⟨⟨W, Below.refl _ _⟩⟩
end Go.Proofs.Yteadongdlacgmaa
