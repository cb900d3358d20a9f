/- A *maps.Maps in memory. -/
import Derived.Test.YteadongdlacgmaaKeys
import Derived.Test.YteadongdlacgmaaOwn
import Derived.Test.YteadongdlacgmaaMapsLaw
namespace Go.Proofs.Yteadongdlacgmaa
open Go.RowKit

def opV (o : QOp) : Value := .agg #[.int .u64 o.id.c, .int .u64 o.id.k, .int .i64 o.kind, .int .u64 o.stamp, .int .u64 o.left.c, .int .u64 o.left.k, .int .u64 o.right.c, .int .u64 o.right.k, .string o.text, .int .i64 o.v.kind, .int .i64 o.v.n, .float .f64 o.v.f, .string o.v.s, .string o.key, .int .u64 o.parent.c, .int .u64 o.parent.k, .int .u64 o.frm.c, .int .u64 o.frm.k, .bool o.frmA, .int .u64 o.til.c, .int .u64 o.til.k, .bool o.tilA]

/-- where its parts lie. -/
structure MLay where
  all : Nat
  inn : Nat
  hv : Value
  PL : List (QId × Nat)
  row : QId → ByteArray → Value

structure MapsAt (w : World) (bm : Nat) (L : MLay) (M : QMaps) : Prop where
  st : w.heap[bm]? = some (.cells #[.map (some L.all), .map (some L.inn), L.hv] 68 (0, 0))
  hid : ∃ H, OwnAt 0 54 3 encRng w L.hv H ∧ ∀ i, hasRngs H i = hasRngs M.hidden i
  all : MapK idV w L.all (M.ops.map fun o => (o.id, opV o))
  inn : MapK idV w L.inn (L.PL.map fun p => (p.1, .map (some p.2)))
  par : L.PL.map (·.1) = parents M.ops
  inner : ∀ p ∈ L.PL, MapK Value.string w p.2 ((keysAt M.ops p.1).map fun k => (k, L.row p.1 k))
  rows : ∀ p k, opsAt M.ops p k ≠ [] → OwnAt 0 41 22 encOp w (L.row p k) (opsAt M.ops p k)
  sep : (L.all :: L.inn :: L.PL.map (·.2)).Nodup
  rsep : ∀ p k p' k', opsAt M.ops p k ≠ [] → opsAt M.ops p' k' ≠ [] → (L.row p k).ownBlock = (L.row p' k').ownBlock → p = p' ∧ k = k'

/-- the blocks that it uses. -/
def MFoot (bm : Nat) (L : MLay) (M : QMaps) (b : Nat) : Prop :=
  b = bm ∨ b = L.all ∨ b = L.inn ∨ b ∈ L.PL.map (·.2) ∨ L.hv.ownBlock = some b ∨ ∃ p k, opsAt M.ops p k ≠ [] ∧ (L.row p k).ownBlock = some b

/-- a map object whose blocks are among F. -/
def MapsIn (w : World) (F : Nat → Prop) (bm : Nat) (M : QMaps) : Prop := ∃ L, MapsAt w bm L M ∧ ∀ b, MFoot bm L M b → F b

theorem ownsRow_blk {w w' : World} {base e size n : Nat} {v : Value} {xs : List Value} (h : w.ownsRow base e size v n xs) (hb : ∀ b, v.ownBlock = some b → w'.heap[b]? = w.heap[b]?) : w'.ownsRow base e size v n xs := by
  obtain ⟨h1, h2 | ⟨g, cap, cur, hv, hg, hcur, rest⟩⟩ := h
  · exact ⟨h1, .inl h2⟩
  · exact ⟨h1, .inr ⟨g, cap, cur, hv, hg, (hb g (by rw [hv]; rfl)).trans hcur, rest⟩⟩
theorem MapK.blk {κ : Type} {enc : κ → Value} {w w' : World} {r : Nat} {l : List (κ × Value)} (h : MapK enc w r l) (hb : w'.heap[r]? = w.heap[r]?) : MapK enc w' r l := by
  obtain ⟨es, clock, h1, h2⟩ := h
  exact ⟨es, clock, hb.trans h1, h2⟩

theorem MapsAt.keep {w w' : World} {bm : Nat} {L : MLay} {M : QMaps} (h : MapsAt w bm L M) (hb : ∀ b, MFoot bm L M b → w'.heap[b]? = w.heap[b]?) : MapsAt w' bm L M where
  st := (hb bm (.inl rfl)).trans h.st
  hid := by
    obtain ⟨H, h1, h2⟩ := h.hid
    exact ⟨H, ownsRow_blk h1 (fun b e => hb b (.inr (.inr (.inr (.inr (.inl e)))))), h2⟩
  all := h.all.blk (hb _ (.inr (.inl rfl)))
  inn := h.inn.blk (hb _ (.inr (.inr (.inl rfl))))
  par := h.par
  inner p hp := (h.inner p hp).blk (hb _ (.inr (.inr (.inr (.inl (List.mem_map.2 ⟨p, hp, rfl⟩))))))
  rows p k hne := ownsRow_blk (h.rows p k hne) (fun b e => hb b (.inr (.inr (.inr (.inr (.inr ⟨p, k, hne, e⟩))))))
  sep := h.sep
  rsep := h.rsep

theorem MapK.lt {κ : Type} {enc : κ → Value} {w : World} {r : Nat} {l : List (κ × Value)} (h : MapK enc w r l) : r < w.heap.size := by
  obtain ⟨es, clock, h1, _⟩ := h
  exact (Array.getElem?_eq_some_iff.1 h1).1
theorem ownsRow_lt {w : World} {base e size n : Nat} {v : Value} {xs : List Value} (h : w.ownsRow base e size v n xs) : ∀ b, v.ownBlock = some b → b < w.heap.size := by
  intro b hb
  rcases h.2 with ⟨hv, _⟩ | ⟨g, cap, cur, hv, hg, hcur, _⟩
  · rw [hv] at hb; cases hb
  · rw [hv] at hb; cases hb; exact (Array.getElem?_eq_some_iff.1 hcur).1

theorem MapsAt.foot_lt {w : World} {bm : Nat} {L : MLay} {M : QMaps} (h : MapsAt w bm L M) : ∀ b, MFoot bm L M b → b < w.heap.size := by
  rintro b (rfl | rfl | rfl | hb | hb | ⟨p, k, hne, hb⟩)
  · exact (Array.getElem?_eq_some_iff.1 h.st).1
  · exact h.all.lt
  · exact h.inn.lt
  · obtain ⟨p, hp, rfl⟩ := List.mem_map.1 hb
    exact (h.inner p hp).lt
  · obtain ⟨H, h1, _⟩ := h.hid
    exact ownsRow_lt h1 b hb
  · exact ownsRow_lt (h.rows p k hne) b hb

theorem MapsAt.below {w w' : World} {bm : Nat} {L : MLay} {M : QMaps} (h : MapsAt w bm L M) (hb : Below w.heap.size w w') : MapsAt w' bm L M := h.keep fun b hf => hb.block b (h.foot_lt b hf)
theorem MapsIn.below {w w' : World} {F : Nat → Prop} {bm : Nat} {M : QMaps} (h : MapsIn w F bm M) (hb : Below w.heap.size w w') : MapsIn w' F bm M := by
  obtain ⟨L, h1, h2⟩ := h
  exact ⟨L, h1.below hb, h2⟩
/-- another object's step leaves it. -/
theorem MapsIn.mods {w w' : World} {F G : Nat → Prop} {bm : Nat} {M : QMaps} (h : MapsIn w F bm M) (hm : Mods G w w') (hd : ∀ b, F b → ¬ G b) : MapsIn w' F bm M := by
  obtain ⟨L, h1, h2⟩ := h
  exact ⟨L, h1.keep fun b hf => hm.block b (h1.foot_lt b hf) (hd b (h2 b hf)), h2⟩
end Go.Proofs.Yteadongdlacgmaa
