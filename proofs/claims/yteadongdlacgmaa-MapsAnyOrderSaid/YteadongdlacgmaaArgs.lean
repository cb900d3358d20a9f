/- Arguments that came in, as lists: slices of whole numbers, of values. -/
import Derived.Test.YteadongdlacgmaaMem
import Derived.ProofKit
import Derived.OpenShut
import Derived.ShutString
import Derived.ChangeOld
import Derived.Below
import Derived.Deep.Slices
import Derived.Deep.Fields
import Derived.ChangeSame
namespace Go.Proofs.Yteadongdlacgmaa
open Go.ChangeShapes Go.WideShapes Go.Deep Go.RowKit

/-- the slice value v reads as the list l (SliceAt's own words, without the address of an empty one). -/
def SliceP {α : Type} (k : Nat) (enc : α → List Value) (w : World) (v : Value) (l : List α) : Prop :=
  ∃ p cap, v = .slice p l.length cap ∧ l.length ≤ 9223372036854775807 ∧ ∀ (j : Nat) x, l[j]? = some x → ∃ b off, p = some ⟨b, off, none⟩ ∧ b < w.heap.size ∧ ∀ i y, (enc x)[i]? = some y → w.cell? ⟨b, off + j * k + i, none⟩ = some y

theorem list_of {α : Type} (P : Nat → α → Prop) : ∀ n : Nat, (∀ i, i < n → ∃ x, P i x) → ∃ l : List α, l.length = n ∧ ∀ i x, l[i]? = some x → P i x
  | 0, _ => ⟨[], rfl, by simp⟩
  | n + 1, h => by
    obtain ⟨l, h1, h2⟩ := list_of P n fun i hi => h i (by omega)
    obtain ⟨x, hx⟩ := h n (by omega)
    refine ⟨l ++ [x], by simp [h1], fun i y hy => ?_⟩
    by_cases hi : i < l.length
    · rw [List.getElem?_append_left hi] at hy
      exact h2 i y hy
    · have hi2 : i = n := by have := (List.getElem?_eq_some_iff.1 hy).1; simp at this; omega
      subst hi2
      rw [← h1] at hy
      simp at hy
      subst hy
      rw [← h1]; exact h1 ▸ hx

section
variable {H : Type} {enc : TypeId × Value → H} {P : Program} {w : World} {base : Nat} {spare : Nat → Bool} {held : Bool} {fuel : Nat} {t : TypeId} {cs : List Value} {x : DataW H × List MemPlace}
theorem trod_float {k : FloatKind} (ht : P.underlying t = some (.float k)) (h : DataW.trod enc P w base spare held fuel t cs = some x) : ∃ n, cs = [.float k n] := by
  cases fuel with
  | zero => simp [DataW.trod] at h
  | succ n =>
    unfold DataW.trod at h
    rw [ht] at h
    split at h <;> simp_all

/-- a slice of structs of one-cell fields: each element's cells, field by field. -/
theorem open_slice_fields {e : TypeId} {fs : Array Field} (ht : P.underlying t = some (.slice e)) (he : P.underlying e = some (.struct fs))
    (hone : oneCellFields P fs = true) (hC : P.cellsOf e = fs.size) (h : DataW.trod enc P w base spare held fuel t cs = some x) :
    (cs = [.slice none 0 0]) ∨
    ∃ (a : Addr) (len cap : Nat), cs = [.slice (some a) len cap] ∧ len ≤ cap ∧ cap ≤ maxLen ∧
      ∀ i, i < len → ∃ n, ∀ (j : Nat) (f : Field), fs[j]? = some f → ∃ (v : Value) (y : DataW H × List MemPlace), w.cell? (a.add (i * fs.size + j)) = some v ∧ DataW.trod enc P w base spare held n f.type [v] = some y := by
  rcases open_slice ht h with h0 | ⟨a, len, cap, m, n, D, Pl, hcs, hb, hl, hm, hmm, hx, hi⟩
  · exact .inl h0.1
  · refine .inr ⟨a, len, cap, hcs, hl, hm, fun i him => ?_⟩
    have him' : i < m := by rw [hmm]; split <;> omega
    obtain ⟨cs', hc, ht'⟩ := hi i him'
    rw [hC] at hc
    obtain ⟨ys, n', hn', hy, hlen, hyl, hf⟩ := DataW.trod_struct he ht'
    obtain ⟨_, hcl, hat⟩ := World.cells?_some hc
    refine ⟨n', fun j f hj => ?_⟩
    obtain ⟨ho, hk⟩ := hone_of hone j f hj
    have hjl : j < fs.size := (Array.getElem?_eq_some_iff.1 hj).1
    have hcell := hat j hjl
    have hv : cs'[j]? = some (cs'[j]'(by omega)) := List.getElem?_eq_getElem (by omega)
    have h1 := hf j f hj
    rw [ho, hk] at h1
    have hone' : (cs'.drop j).take 1 = [cs'[j]'(by omega)] := by
      rw [List.drop_eq_getElem_cons (by omega)]
      rfl
    rw [hone'] at h1
    have hys : ys[j]? = some (ys[j]'(by omega)) := List.getElem?_eq_getElem (by omega)
    refine ⟨_, _, ?_, h1.trans hys⟩
    rw [← Go.Deep.add_add, hcell, hv]
end

/-- an address of which a cell is known. -/
theorem spot_of {w : World} {a : Addr} {v : Value} (h : w.cell? (a.add 0) = some v) : ∃ b off, a = ⟨b, off, none⟩ ∧ b < w.heap.size := by
  have h' : w.cell? a = some v := by simpa [Addr.add] using h
  obtain ⟨b, off, spot⟩ := a
  have hs : spot = none := World.cell?_spot h'
  subst hs
  exact ⟨b, off, rfl, World.block_lt_of_cell? w _ h'⟩

def encVal (v : QVal) : List Value := [.int .i64 v.kind, .int .i64 v.n, .float .f64 v.f, .string v.s]
def encU8i (n : Int) : List Value := [.int .u8 n]

theorem sliceP_vals {H : Type} {enc : TypeId × Value → H} {w : World} {base : Nat} {spare : Nat → Bool} {held : Bool} {fuel : Nat} {a : Option Addr} {len cap : Nat} {x : DataW H × List MemPlace}
    (h : DataW.trod enc Try.prog w base spare held fuel 58 (Value.slice a len cap).cells.toList = some x) : ∃ vs : List QVal, SliceP 4 encVal w (.slice a len cap) vs := by
  rcases open_slice_fields Try.underlying58 Try.underlying37 (by kernel_rfl) (by kernel_rfl) h with hcs | ⟨y, l, c, hcs, hl, hm, hf⟩
  · simp [Value.cells] at hcs
    obtain ⟨rfl, rfl, rfl⟩ := hcs
    exact ⟨[], none, 0, rfl, by simp, by simp⟩
  · simp [Value.cells] at hcs
    obtain ⟨rfl, rfl, rfl⟩ := hcs
    obtain ⟨vs, hvl, hvs⟩ := list_of (fun i (v : QVal) => ∀ k u, (encVal v)[k]? = some u → w.cell? (y.add (i * 4 + k)) = some u) len (fun i hi => by
      obtain ⟨n, hn⟩ := hf i hi
      obtain ⟨v0, y0, c0, t0⟩ := hn 0 _ rfl
      obtain ⟨v1, y1, c1, t1⟩ := hn 1 _ rfl
      obtain ⟨v2, y2, c2, t2⟩ := hn 2 _ rfl
      obtain ⟨v3, y3, c3, t3⟩ := hn 3 _ rfl
      obtain ⟨n0, e0, _⟩ := DataW.trod_int Try.underlying3 t0
      obtain ⟨n1, e1, _⟩ := DataW.trod_int Try.underlying2 t1
      obtain ⟨n2, e2⟩ := trod_float Try.underlying35 t2
      obtain ⟨n3, e3, _⟩ := DataW.trod_string Try.underlying9 t3
      simp only [List.cons.injEq, and_true] at e0 e1 e2 e3
      subst e0; subst e1; subst e2; subst e3
      refine ⟨⟨n0, n1, n2, n3⟩, fun k u hk => ?_⟩
      match k, hk with
      | 0, hk => simp [encVal] at hk; subst hk; exact c0
      | 1, hk => simp [encVal] at hk; subst hk; exact c1
      | 2, hk => simp [encVal] at hk; subst hk; exact c2
      | 3, hk => simp [encVal] at hk; subst hk; exact c3
      | k + 4, hk => simp [encVal] at hk)
    refine ⟨vs, some y, cap, by rw [hvl], by unfold maxLen at hm; omega, fun j v hj => ?_⟩
    have h0l : 0 < len := by have := (List.getElem?_eq_some_iff.1 hj).1; omega
    obtain ⟨v0, hv0⟩ : ∃ v, vs[0]? = some v := ⟨vs[0]'(by omega), by simp [hvl, h0l]⟩
    obtain ⟨b, off, rfl, hb⟩ := spot_of (hvs 0 v0 hv0 0 _ rfl)
    refine ⟨b, off, rfl, hb, fun i u hi => ?_⟩
    have := hvs j v hj i u hi
    rw [Addr.add_lit] at this
    rwa [Nat.add_assoc]
theorem sliceP_ints {H : Type} {enc : TypeId × Value → H} {w : World} {base : Nat} {spare : Nat → Bool} {held : Bool} {fuel : Nat} {t e : TypeId} {k : IntKind} {a : Option Addr} {len cap : Nat} {x : DataW H × List MemPlace}
    (ht : Try.prog.underlying t = some (.slice e)) (he : Try.prog.underlying e = some (.int k)) (hc : Try.prog.cellsOf e = 1) (h : DataW.trod enc Try.prog w base spare held fuel t (Value.slice a len cap).cells.toList = some x) :
    ∃ zs : List Int, SliceP 1 (fun n => [.int k n]) w (.slice a len cap) zs ∧ ∀ z ∈ zs, (Lit.int k z).wf = true := by
  rcases open_ints ht he hc h with ⟨hcs, _⟩ | ⟨y, l, c, zs, hcs, _, hl, hm, hz, _, hcell, hwz⟩
  · simp [Value.cells] at hcs
    obtain ⟨rfl, rfl, rfl⟩ := hcs
    exact ⟨[], ⟨none, 0, rfl, by simp, by simp⟩, by simp⟩
  · simp [Value.cells] at hcs
    obtain ⟨rfl, rfl, rfl⟩ := hcs
    have hzl : len ≤ zs.length := by rw [hz]; split <;> omega
    refine ⟨zs.take len, ⟨_, cap, by rw [List.length_take, Nat.min_eq_left hzl], ?_, fun j z hj => ?_⟩, fun z hz' => hwz z (List.mem_of_mem_take hz')⟩
    · rw [List.length_take, Nat.min_eq_left hzl]
      unfold maxLen at hm; omega
    · have hjl : j < len := by have := (List.getElem?_eq_some_iff.1 hj).1; rw [List.length_take] at this; omega
      have hc := hcell j (by omega)
      obtain ⟨b, off, rfl, hb⟩ := spot_of (hcell 0 (by omega))
      rw [List.getElem?_take_of_lt hjl] at hj
      refine ⟨b, off, rfl, hb, fun i u hi => ?_⟩
      cases i with
      | zero =>
        obtain rfl : Value.int k z = u := by simpa using hi
        rw [Addr.add_lit] at hc
        rw [Nat.mul_one, Nat.add_zero, hc]
        simp [List.getD, hj]
      | succ i => simp at hi
end Go.Proofs.Yteadongdlacgmaa
