/- Sets as whole values: loads and stores of a whole set, in one step. -/
import Derived.Test.YteadongdlacgmaaGet
import Derived.Deep.WholeRow
import Derived.Deep.DeepCutAuto
namespace Go.Proofs.Yteadongdlacgmaa
open Go.RowKit

/-- the cells of a set at a place. -/
def OpCells (w : World) (b off : Nat) (o : QOp) : Prop := ∀ i y, (encOp o)[i]? = some y → w.cell? ⟨b, off + i, none⟩ = some y
/-- the box of a set. -/
def OpBox (w : World) (b : Nat) (o : QOp) : Prop := w.heap[b]? = some (.cells (encOp o).toArray 41 (0, 0))

theorem OpBox.cells {w : World} {b : Nat} {o : QOp} (h : OpBox w b o) : OpCells w b 0 o := fun i y hy => by
  rw [World.cell?, h]; simpa using hy
theorem OpBox.lt {w : World} {b : Nat} {o : QOp} (h : OpBox w b o) : b < w.heap.size := (Array.getElem?_eq_some_iff.1 h).1

theorem undOp : ∃ d, Try.prog.underlying 41 = some d ∧ (match d with | .struct _ | .array _ _ => true | _ => false) = true :=
  ⟨(Try.prog.underlying 41).get (by kernel_rfl), by simp, by kernel_rfl⟩
theorem sizeOfOp : (Try.prog.info? 41).map (·.size) = some 22 := by kernel_rfl

theorem load_op {w : World} {b off : Nat} {o : QOp} (h : OpCells w b off o) : (loadVar 41 ⟨b, off, none⟩).run Try.prog w = .ok (opV o) w := by
  obtain ⟨d, hu, hd⟩ := undOp
  have hl : (loadCells ⟨b, off, none⟩ (encOp o).length).run Try.prog w = .ok (encOp o).toArray w :=
    run_loadCells_list (P := Try.prog) w ⟨b, off, none⟩ (encOp o) (fun j v hv => by rw [Addr.add_lit]; exact h j v hv)
  cases hq : (Try.prog).info? 41 with
  | none => have := sizeOfOp; simp [hq] at this
  | some i =>
    have hs : i.size = 22 := by have := sizeOfOp; simpa [hq] using this
    have hagg : (isAgg 41).run Try.prog w = .ok true w := by
      unfold isAgg
      rw [Sem.run_bind, run_underlying hu w]
      cases d <;> simp_all
    have hsz : (sizeOf 41).run Try.prog w = .ok 22 w := by simp [sizeOf, typeInfo, hq, hs]
    unfold loadVar
    rw [Sem.run_bind, hagg]
    simp only [Result.andThen_ok, if_true, Sem.run_bind, hsz]
    rw [show (22 : Nat) = (encOp o).length from rfl, hl]
    rfl
theorem OpBox.load {w : World} {b : Nat} {o : QOp} (h : OpBox w b o) : (loadVar 41 ⟨b, 0, none⟩).run Try.prog w = .ok (opV o) w := load_op h.cells

/-- the world with a set laid into a box. -/
def putOp (w : World) (b : Nat) (o : QOp) : World := w.setRow b (encOp o).toArray
theorem OpBox.store {w : World} {b : Nat} {x : QOp} (h : OpBox w b x) (o : QOp) : (storeVar 41 ⟨b, 0, none⟩ (opV o)).run Try.prog w = .ok () (putOp w b o) :=
  run_storeVar_row w b _ _ _ _ h (by rw [sizeOfOp]; rfl) rfl (by simp [encOp, Value.oneCell'])
theorem putOp_other {w : World} {b k : Nat} {o : QOp} (h : k ≠ b) : (putOp w b o).heap[k]? = w.heap[k]? := by
  simp only [putOp, World.setRow]
  rw [Array.getElem?_modify, if_neg (Ne.symm h)]
theorem OpBox.put {w : World} {b : Nat} {x : QOp} (h : OpBox w b x) (o : QOp) : OpBox (putOp w b o) b o := by
  unfold OpBox at *
  simp only [putOp, World.setRow]
  rw [Array.getElem?_modify, if_pos rfl, h]
  rfl
theorem OpBox.other {w : World} {b c : Nat} {x : QOp} (h : OpBox w b x) (o : QOp) (hb : b ≠ c) : OpBox (putOp w c o) b x := (putOp_other hb).trans h
@[simp] theorem putOp_size (w : World) (b : Nat) (o : QOp) : (putOp w b o).heap.size = w.heap.size := by simp [putOp, World.setRow]
theorem below_putOp {n b : Nat} {w w' : World} (h : Below n w w') (hb : n ≤ b) (o : QOp) : Below n w (putOp w' b o) :=
  ⟨h.os, h.tape, h.output, by rw [putOp_size]; exact h.size, fun k hk => (putOp_other (by omega)).trans (h.block k hk)⟩
theorem OpBox.new (w : World) (o : QOp) : OpBox (w.alloc (.cells (encOp o).toArray 41)) w.heap.size o := by
  unfold OpBox
  rw [alloc_heap_if, if_pos rfl]
theorem OpBox.below {n b : Nat} {w w' : World} {o : QOp} (h : OpBox w b o) (hb : Below n w w') (hn : b < n) : OpBox w' b o := (hb.block b hn).trans h


/-! the laws at the operations. -/
theorem wpList_load_eq {P : Program} {ops : Array Oper} {rest : List Oper} {o : Oper} {a : Act} {w : World} {Q : Exit → Act → World → Prop} {T : TypeId} {x : Operand} {ad : Addr} {v : Value} (hg : o.guard = none) (ho : o.op = .load T x) (hx : a.eval x = .pointer (some ad))
    (hr : (loadVar T ad).run P w = .ok v w) (h : wpList P ops Q rest (a.put o.dst v) w) : wpList P ops Q (o :: rest) a w :=
  wpList_plain hg fun _ hK => by
    unfold Oper.wp execOp
    simp only [ho, hx, Instr.loadAt, Instr.sureAddr, Sem.run_bind, Sem.run_pure, Result.andThen_ok, hr]
    exact hK _ _ h
theorem wpList_store_eq {P : Program} {ops : Array Oper} {rest : List Oper} {o : Oper} {a : Act} {w w' : World} {Q : Exit → Act → World → Prop} {T : TypeId} {x y : Operand} {ad : Addr} {v : Value} (hg : o.guard = none) (ho : o.op = .store T x y) (hx : a.eval x = .pointer (some ad)) (hy : a.eval y = v)
    (hr : (storeVar T ad v).run P w = .ok () w') (h : wpList P ops Q rest (a.put o.dst undef) w') : wpList P ops Q (o :: rest) a w :=
  wpList_plain hg fun _ hK => by
    unfold Oper.wp execOp
    simp only [ho, hx, hy, Instr.storeAt, Instr.sureAddr, Sem.run_bind, Sem.run_pure, Result.andThen_ok, hr]
    exact hK _ _ h
theorem wpList_load_at {P : Program} {ops : Array Oper} {rest : List Oper} {o : Oper} {a : Act} {w : World} {Q : Exit → Act → World → Prop} (T : TypeId) {x : Operand} (hg : o.guard = none) (ho : o.op = .load T x)
    (h : ∃ ad v, a.eval x = .pointer (some ad) ∧ (loadVar T ad).run P w = .ok v w ∧ wpList P ops Q rest (a.put o.dst v) w) : wpList P ops Q (o :: rest) a w := by
  obtain ⟨ad, v, hx, hr, h⟩ := h
  exact wpList_load_eq hg ho hx hr h
theorem wpList_store_at {P : Program} {ops : Array Oper} {rest : List Oper} {o : Oper} {a : Act} {w : World} {Q : Exit → Act → World → Prop} (T : TypeId) {x y : Operand} (hg : o.guard = none) (ho : o.op = .store T x y)
    (h : ∃ ad w', a.eval x = .pointer (some ad) ∧ (storeVar T ad (a.eval y)).run P w = .ok () w' ∧ wpList P ops Q rest (a.put o.dst undef) w') : wpList P ops Q (o :: rest) a w := by
  obtain ⟨ad, w', hx, hr, h⟩ := h
  exact wpList_store_eq hg ho hx rfl hr h
theorem quiet_load {P : Program} {C : World → Prop} {a : Act} {o : Oper} {K : Act → Prop} {v : Value} (T : TypeId) (x : Operand) (ad : Addr) (ho : o.op = .load T x) (hx : a.eval x = .pointer (some ad)) (hr : ∀ w, C w → (loadVar T ad).run P w = .ok v w) (hk : K (a.put o.dst v)) : o.quiet P a C K :=
  ⟨_, fun w hw => by
    unfold Oper.quietAt execOp
    simp only [ho, hx, Instr.loadAt, Instr.sureAddr, Sem.run_bind, Sem.run_pure, Result.andThen_ok, hr w hw]
    exact ⟨rfl, rfl⟩, hk⟩

end Go.Proofs.Yteadongdlacgmaa
