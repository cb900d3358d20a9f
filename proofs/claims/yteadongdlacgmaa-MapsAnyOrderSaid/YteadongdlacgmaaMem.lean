/- How lists lie in memory: a slice of structs, as a list; what a step of the program leaves. -/
import Derived.Test.YteadongdlacgmaaLeaf2
namespace Go.Proofs.Yteadongdlacgmaa
open Go.RowKit

/-- The slice value v holds the list l in the world w, each element in k cells. -/
def SliceAt {α : Type} (k : Nat) (enc : α → List Value) (w : World) (v : Value) (l : List α) : Prop :=
  (v = .slice none 0 0 ∧ l = []) ∨ ∃ b off cap, v = .slice (some ⟨b, off, none⟩) l.length cap ∧ l.length ≤ 9223372036854775807 ∧ b < w.heap.size ∧
    ∀ j x, l[j]? = some x → ∀ i y, (enc x)[i]? = some y → w.cell? ⟨b, off + j * k + i, none⟩ = some y

def encRng (r : QRng) : List Value := [.int .u64 r.c, .int .u64 r.a, .int .u64 r.b]
def encOp (o : QOp) : List Value := [.int .u64 o.id.c, .int .u64 o.id.k, .int .i64 o.kind, .int .u64 o.stamp, .int .u64 o.left.c, .int .u64 o.left.k, .int .u64 o.right.c, .int .u64 o.right.k, .string o.text, .int .i64 o.v.kind, .int .i64 o.v.n, .float .f64 o.v.f, .string o.v.s, .string o.key, .int .u64 o.parent.c, .int .u64 o.parent.k, .int .u64 o.frm.c, .int .u64 o.frm.k, .bool o.frmA, .int .u64 o.til.c, .int .u64 o.til.k, .bool o.tilA]

theorem alloc_heap_if (w : World) (o : Obj) (k : Nat) : (w.alloc o).heap[k]? = if k = w.heap.size then some o else w.heap[k]? := by
  show (w.heap.push o)[k]? = _
  rw [Array.getElem?_push]

/-- Blocks below B, but for those in S, are as they were. -/
structure Mods (S : Nat → Prop) (w w' : World) : Prop where
  os : w'.os = w.os
  tape : w'.tape = w.tape
  output : w'.output = w.output
  size : w.heap.size ≤ w'.heap.size
  block : ∀ k, k < w.heap.size → ¬ S k → w'.heap[k]? = w.heap[k]?

theorem Mods.refl (S : Nat → Prop) (w : World) : Mods S w w := ⟨rfl, rfl, rfl, Nat.le_refl _, fun _ _ _ => rfl⟩
theorem Mods.trans {S : Nat → Prop} {a b c : World} (h : Mods S a b) (g : Mods S b c) : Mods S a c :=
  ⟨g.os.trans h.os, g.tape.trans h.tape, g.output.trans h.output, Nat.le_trans h.size g.size, fun k hk hs => (g.block k (Nat.lt_of_lt_of_le hk h.size) hs).trans (h.block k hk hs)⟩
theorem Mods.of_below {S : Nat → Prop} {a b : World} (h : Below a.heap.size a b) : Mods S a b := ⟨h.os, h.tape, h.output, h.size, fun k hk _ => h.block k hk⟩

theorem SliceAt.keep {α : Type} {k : Nat} {enc : α → List Value} {w w' : World} {v : Value} {l : List α} (h : SliceAt k enc w v l) (hs : w.heap.size ≤ w'.heap.size)
    (hb : ∀ b off n c, v = .slice (some ⟨b, off, none⟩) n c → b < w.heap.size → w'.heap[b]? = w.heap[b]?) : SliceAt k enc w' v l := by
  rcases h with h | ⟨b, off, cap, hv, hn, hlt, hc⟩
  · exact .inl h
  · refine .inr ⟨b, off, cap, hv, hn, by omega, fun j x hj i y hi => ?_⟩
    have := hc j x hj i y hi
    rw [← this]
    exact World.cell?_of_block (w := w) (hb _ _ _ _ hv hlt)

theorem SliceAt.below {α : Type} {k : Nat} {enc : α → List Value} {w w' : World} {v : Value} {l : List α} (h : SliceAt k enc w v l) (hb : Below w.heap.size w w') : SliceAt k enc w' v l :=
  h.keep hb.size fun b _ _ _ _ hlt => hb.block b hlt

/-- the call returns a value of which R holds. -/
def RetW (R : Value → World → Prop) (e : Ending) (w' : World) : Prop := ∃ v, e = .returned v ∧ R v w'
end Go.Proofs.Yteadongdlacgmaa
