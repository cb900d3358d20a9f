/- A map object among other memory: the contracts of package maps, said of one object that shares nothing with what is kept (R). -/
import Derived.Test.YteadongdlacgmaaView
import Derived.Test.YteadongdlacgmaaFind
import Derived.Test.YteadongdlacgmaaSetOp
namespace Go.Proofs.Yteadongdlacgmaa
open Go.RowKit

/-- the object at bm holds M; what was there in w0, and all blocks of R, are none of its own. -/
structure MState (w0 : World) (R : Nat → Prop) (bm : Nat) (M : QMaps) (w : World) : Prop where
  low : Below w0.heap.size w0 w
  lt : ∀ b, R b → b < w.heap.size
  obj : ∃ F, MapsIn w F bm M ∧ (∀ b, F b → w0.heap.size ≤ b ∧ ¬ R b)

theorem MState.below {w0 w w' : World} {R : Nat → Prop} {bm : Nat} {M : QMaps} (h : MState w0 R bm M w) (hb : Below w.heap.size w w') : MState w0 R bm M w' := by
  obtain ⟨F, h1, h2⟩ := h.obj
  exact ⟨h.low.trans (hb.mono h.low.size), fun b hr => Nat.lt_of_lt_of_le (h.lt b hr) hb.size, F, h1.below hb, h2⟩
/-- new blocks are kept besides. -/
theorem MState.reserve {w0 w w' : World} {R R' : Nat → Prop} {bm : Nat} {M : QMaps} (h : MState w0 R bm M w) (hb : Below w.heap.size w w') (hr : ∀ b, R' b → R b ∨ (w.heap.size ≤ b ∧ b < w'.heap.size)) : MState w0 R' bm M w' := by
  obtain ⟨F, ⟨L, h1, h3⟩, h2⟩ := h.obj
  refine ⟨h.low.trans (hb.mono h.low.size), fun b hb' => ?_, fun b => F b ∧ b < w.heap.size, ⟨L, h1.below hb, fun b hf => ⟨h3 b hf, h1.foot_lt b hf⟩⟩, fun b hf => ⟨(h2 b hf.1).1, fun hb' => ?_⟩⟩
  · rcases hr b hb' with h4 | h4
    · exact Nat.lt_of_lt_of_le (h.lt b h4) hb.size
    · exact h4.2
  · rcases hr b hb' with h4 | h4
    · exact (h2 b hf.1).2 h4
    · have := hf.2; omega
/-- less is kept. -/
theorem MState.less {w0 w : World} {R R' : Nat → Prop} {bm : Nat} {M : QMaps} (h : MState w0 R bm M w) (hr : ∀ b, R' b → R b) : MState w0 R' bm M w := by
  obtain ⟨F, h1, h2⟩ := h.obj
  exact ⟨h.low, fun b hb => h.lt b (hr b hb), F, h1, fun b hf => ⟨(h2 b hf).1, fun hb => (h2 b hf).2 (hr b hb)⟩⟩
/-- another object's step, or a store into what is kept, leaves it. -/
theorem MState.mods {w0 w w' : World} {R G : Nat → Prop} {bm : Nat} {M : QMaps} (h : MState w0 R bm M w) (hm : Mods G w w') (hg : ∀ b, G b → w0.heap.size ≤ b ∧ R b) : MState w0 R bm M w' := by
  obtain ⟨F, h1, h2⟩ := h.obj
  refine ⟨h.low.trans ⟨hm.os, hm.tape, hm.output, hm.size, fun k hk => hm.block k (Nat.lt_of_lt_of_le hk h.low.size) fun hG => ?_⟩, fun b hr => Nat.lt_of_lt_of_le (h.lt b hr) hm.size, F, h1.mods hm fun b hf hG => (h2 b hf).2 (hg b hG).2, h2⟩
  have := (hg k hG).1
  omega

/-- what a step of the object leaves: its answer, the object as it is then, what is kept as it was. -/
structure MStep2 (w0 : World) (R : Nat → Prop) (bm : Nat) (M : QMaps) (w w' : World) : Prop where
  st : MState w0 R bm M w'
  kept : ∀ b, R b → w'.heap[b]? = w.heap[b]?
  size : w.heap.size ≤ w'.heap.size
theorem MStep2.of_mods {w0 w w' : World} {R F : Nat → Prop} {bm : Nat} {M M' : QMaps} (h : MState w0 R bm M w) (hF : ∀ b, F b → w0.heap.size ≤ b ∧ ¬ R b) (hm : Mods F w w') (hn : MapsIn w' (fun b => F b ∨ w.heap.size ≤ b) bm M') : MStep2 w0 R bm M' w w' where
  st := ⟨h.low.trans ⟨hm.os, hm.tape, hm.output, hm.size, fun k hk => hm.block k (Nat.lt_of_lt_of_le hk h.low.size) fun hG => by have := (hF k hG).1; omega⟩, fun b hr => Nat.lt_of_lt_of_le (h.lt b hr) hm.size, _, hn, fun b hf => by
    rcases hf with h1 | h1
    · exact hF b h1
    · exact ⟨Nat.le_trans h.low.size h1, fun hr => by have := h.lt b hr; omega⟩⟩
  kept b hr := hm.block b (h.lt b hr) fun hf => (hF b hf).2 hr
  size := hm.size

def SetM (w0 : World) (R : Nat → Prop) (bm : Nat) (sb : Bool) (M' : QMaps) (w : World) (e : Ending) (w' : World) : Prop := e = .returned (.bool sb) ∧ MStep2 w0 R bm M' w w'
theorem setM_any (w0 : World) (R : Nat → Prop) (bm : Nat) (M : QMaps) (o : QOp) (w : World) (h : MState w0 R bm M w) (hlen : M.ops.length ≤ 100000) :
    Calls Try.prog 10 #[.pointer (some ⟨bm, 0, none⟩), opV o] w (SetM w0 R bm (M.setB o) (if M.setB o then M.set o else M) w) := by
  obtain ⟨F, h1, h2⟩ := h.obj
  refine (set_any F bm M o w h1 hlen).mono ?_
  rintro e w' ⟨rfl, hm, hmod⟩
  exact ⟨rfl, MStep2.of_mods h h2 hmod hm⟩
theorem setM_yes (w0 : World) (R : Nat → Prop) (bm : Nat) (M : QMaps) (o : QOp) (w : World) (h : MState w0 R bm M w) (hlen : M.ops.length ≤ 100000) (hs : M.setB o = true) :
    Calls Try.prog 10 #[.pointer (some ⟨bm, 0, none⟩), opV o] w (SetM w0 R bm true (M.set o) w) := by
  have := setM_any w0 R bm M o w h hlen
  rwa [hs, if_pos rfl] at this
theorem setM_no (w0 : World) (R : Nat → Prop) (bm : Nat) (M : QMaps) (o : QOp) (w : World) (h : MState w0 R bm M w) (hlen : M.ops.length ≤ 100000) (hs : M.setB o = false) :
    Calls Try.prog 10 #[.pointer (some ⟨bm, 0, none⟩), opV o] w (SetM w0 R bm false M w) := by
  have := setM_any w0 R bm M o w h hlen
  rwa [hs, if_neg (by decide)] at this
def HideM (w0 : World) (R : Nat → Prop) (bm : Nat) (M' : QMaps) (w : World) (e : Ending) (w' : World) : Prop := e = .returned (.tuple #[]) ∧ MStep2 w0 R bm M' w w'
theorem hideM_any (w0 : World) (R : Nat → Prop) (bm : Nat) (M : QMaps) (sv : Value) (l : List QRng) (w : World) (h : MState w0 R bm M w) (hl : SliceAt 3 encRng w sv l) (hlen : l.length * 24 ≤ 140737488355328) (hsv : sv.oneCell' = true) :
    Calls Try.prog 9 #[.pointer (some ⟨bm, 0, none⟩), sv] w (HideM w0 R bm { M with hidden := l } w) := by
  obtain ⟨F, h1, h2⟩ := h.obj
  refine (hide_any F bm M sv l w h1 hl hlen hsv).mono ?_
  rintro e w' ⟨rfl, hm, hmod⟩
  exact ⟨rfl, MStep2.of_mods h h2 hmod hm⟩
theorem isM_any (w0 : World) (R : Nat → Prop) (bm : Nat) (M : QMaps) (i : QId) (w : World) (h : MState w0 R bm M w) :
    Calls Try.prog 11 #[.pointer (some ⟨bm, 0, none⟩), .agg #[.int .u64 i.c, .int .u64 i.k]] w fun e w' => e = .returned (.bool (M.isMap i)) ∧ Below w.heap.size w w' := by
  obtain ⟨F, h1, _⟩ := h.obj
  exact mapsIs_any F bm M i w h1
theorem getM_any (w0 : World) (R : Nat → Prop) (bm : Nat) (M : QMaps) (p : QId) (k : ByteArray) (w : World) (h : MState w0 R bm M w) :
    Calls Try.prog 18 #[.pointer (some ⟨bm, 0, none⟩), .agg #[.int .u64 p.c, .int .u64 p.k], .string k] w fun e w' => e = .returned (.tuple #[opV ((M.get p k).getD opZero), .bool (M.get p k).isSome]) ∧ Below w.heap.size w w' := by
  obtain ⟨F, h1, _⟩ := h.obj
  exact get_any F bm M p k w h1
theorem findM_any (w0 : World) (R : Nat → Prop) (bm : Nat) (M : QMaps) (sv : Value) (ks : List ByteArray) (w : World) (h : MState w0 R bm M w) (hl : SliceAt 1 encStrB w sv ks) :
    Calls Try.prog 16 #[.pointer (some ⟨bm, 0, none⟩), sv] w fun e w' => e = .returned (.tuple #[.agg #[.int .u64 ((M.findFrom idZero ks).getD idZero).c, .int .u64 ((M.findFrom idZero ks).getD idZero).k], .bool (M.findFrom idZero ks).isSome]) ∧ Below w.heap.size w w' := by
  obtain ⟨F, h1, _⟩ := h.obj
  exact find_any F bm M sv ks w h1 hl
theorem viewM_any (w0 : World) (R : Nat → Prop) (bm : Nat) (M : QMaps) (w : World) (h : MState w0 R bm M w) (hw : MWf M.ops) (hsz : ∀ o ∈ M.ops, o.key.size ≤ maxLen) (hlen : M.ops.length ≤ 100000) :
    Calls Try.prog 13 #[.pointer (some ⟨bm, 0, none⟩)] w (RetW (ViewR w M.view)) := by
  obtain ⟨F, h1, _⟩ := h.obj
  exact view_any F bm M w h1 hw hsz hlen
/-- a new object. -/
theorem newM_any (w0 w : World) (R : Nat → Prop) (hb : Below w0.heap.size w0 w) (hR : ∀ b, R b → b < w.heap.size) :
    Calls Try.prog 8 #[] w fun e w' => e = .returned (.pointer (some ⟨w.heap.size + 2, 0, none⟩)) ∧ MState w0 R (w.heap.size + 2) QMaps.empty w' ∧ Below w.heap.size w w' := by
  refine (mapsNew_any w).mono ?_
  rintro e w' ⟨rfl, h1, h2⟩
  exact ⟨rfl, ⟨hb.trans (h2.mono hb.size), fun b hr => Nat.lt_of_lt_of_le (hR b hr) h2.size, _, h1, fun b hf => ⟨Nat.le_trans hb.size hf, fun hr => by have := hR b hr; omega⟩⟩, h2⟩

/-- a slice over a new array that is written out. -/
theorem slice_new {α : Type} {k : Nat} {enc : α → List Value} (hk : ∀ x, (enc x).length = k) (W : World) (cs : Array Value) (t : TypeId) (l : List α) (n c : Nat) (h : cs.toList = l.flatMap enc) (hn : l.length = n) (hn2 : n ≤ 9223372036854775807) :
    SliceAt k enc (W.alloc (.cells cs t)) (.slice (some ⟨W.heap.size, 0, none⟩) n c) l := by
  subst hn
  refine .inr ⟨W.heap.size, 0, c, rfl, hn2, by simp, fun j x hj i y hi => ?_⟩
  have hi' : i < k := by rw [← hk x]; exact (List.getElem?_eq_some_iff.1 hi).1
  have h1 := flat_get hk l j i x hj hi'
  rw [← h] at h1
  rw [Nat.zero_add, World.cell?, heap_alloc_new]
  simpa [hi] using h1
/-- what a slice of entries looks like, and its cells. -/
theorem EntAt.shape {S : Nat → Prop} {w : World} {v : Value} {l : List QEntry} (h : EntAt S w v l) : ∃ p cap, v = .slice p l.length cap ∧ l.length ≤ 9223372036854775807 ∧
    ∀ (j : Nat) q, l[j]? = some q → ∃ b e, p = some ⟨b, 0, none⟩ ∧ S b ∧ b < w.heap.size ∧ e.key = q.key ∧ e.v = q.v ∧ (∀ i y, (encRec e)[i]? = some y → w.cell? ⟨b, j * 6 + i, none⟩ = some y) ∧ EntAt S w e.kids q.kids := by
  obtain ⟨own, hS, len, hd, kids⟩ := h
  rename_i es
  have hsl := OwnAt.slice (k := 6) (enc := encRec) (fun _ => rfl) own
  obtain ⟨q, ncap, hv, hl9, hcell⟩ := hsl.shape
  refine ⟨q, ncap, by rw [hv, len], by rw [← len]; exact hl9, fun j x hx => ?_⟩
  have hj : j < l.length := (List.getElem?_eq_some_iff.1 hx).1
  obtain ⟨e, he⟩ : ∃ e, es[j]? = some e := ⟨es[j]'(by omega), by simp [len, hj]⟩
  obtain ⟨b, off, rfl, hb, hc⟩ := hcell j e he
  obtain ⟨h1, h2⟩ := hd j e x he hx
  have hoff : off = 0 := by
    rcases own.2 with ⟨hv2, _⟩ | ⟨g, cap, cur, hv2, _⟩
    · rw [hv] at hv2; cases hv2
    · rw [hv] at hv2; cases hv2; rfl
  subst hoff
  exact ⟨b, e, rfl, hS b (by rw [hv]; rfl), hb, h1.symm, h2.symm, fun i y hy => by have := hc i y hy; rwa [Nat.zero_add] at this, kids j e x he hx⟩
end Go.Proofs.Yteadongdlacgmaa
