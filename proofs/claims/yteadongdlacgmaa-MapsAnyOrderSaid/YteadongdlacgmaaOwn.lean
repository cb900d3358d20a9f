/- Lists of structs in rows of the call's own: as the kit's owned rows, as slices, as the sort's rows. -/
import Derived.Test.YteadongdlacgmaaMem
import Derived.Shelf.SlSortCmp.WholeK
namespace Go.Proofs.Yteadongdlacgmaa
open Go.RowKit Go.Shelf

theorem flat_get {α : Type} {enc : α → List Value} {k : Nat} (hk : ∀ x, (enc x).length = k) : ∀ (l : List α) (j i : Nat) (x : α), l[j]? = some x → i < k → (l.flatMap enc)[j * k + i]? = (enc x)[i]?
  | [], j, i, x, h, _ => by simp at h
  | y :: r, 0, i, x, h, hi => by
    obtain rfl : y = x := by simpa using h
    rw [List.flatMap_cons, List.getElem?_append_left (by rw [hk]; omega)]
    simp
  | y :: r, j + 1, i, x, h, hi => by
    rw [List.flatMap_cons, List.getElem?_append_right (by rw [hk, Nat.add_mul]; omega), hk, show (j + 1) * k + i - k = j * k + i by rw [Nat.add_mul]; omega]
    exact flat_get hk r j i x (by simpa using h) hi

theorem flat_length {α : Type} {enc : α → List Value} {k : Nat} (hk : ∀ x, (enc x).length = k) : ∀ l : List α, (l.flatMap enc).length = l.length * k
  | [] => by simp
  | y :: r => by rw [List.flatMap_cons, List.length_append, hk, flat_length hk r, List.length_cons, Nat.add_mul]; omega

/-- v owns a row of elements of type E from block base on: the list l. -/
def OwnAt {α : Type} (base E k : Nat) (enc : α → List Value) (w : World) (v : Value) (l : List α) : Prop := w.ownsRow base E k v l.length (l.flatMap enc)

theorem OwnAt.slice {α : Type} {base E k : Nat} {enc : α → List Value} (hk : ∀ x, (enc x).length = k) {w : World} {v : Value} {l : List α} (h : OwnAt base E k enc w v l) : SliceAt k enc w v l := by
  obtain ⟨h1, ⟨hv, h0⟩ | ⟨g, cap, cur, hv, hb, hg, hn, hc, hs, ht⟩⟩ := h
  · exact .inl ⟨hv, List.eq_nil_of_length_eq_zero h0⟩
  · refine .inr ⟨g, 0, cap, hv, by unfold maxLen at hc; omega, (Array.getElem?_eq_some_iff.1 hg).1, fun j x hj i y hi => ?_⟩
    have hj' : j < l.length := (List.getElem?_eq_some_iff.1 hj).1
    have hi' : i < k := by rw [← hk x]; exact (List.getElem?_eq_some_iff.1 hi).1
    have hlt : j * k + i < l.length * k := by
      have : (j + 1) * k ≤ l.length * k := Nat.mul_le_mul_right k hj'
      rw [Nat.add_mul] at this; omega
    have h3 : (cur.toList.take (l.length * k))[j * k + i]? = some y := by rw [ht, flat_get hk l j i x hj hi']; exact hi
    rw [List.getElem?_take_of_lt hlt, Array.getElem?_toList] at h3
    simp only [World.cell?, hg, Nat.zero_add]
    simpa using h3

theorem OwnAt.nil {α : Type} {base E k : Nat} {enc : α → List Value} {w : World} : OwnAt base E k enc w (.slice none 0 0) ([] : List α) := ⟨by simp, .inl ⟨rfl, rfl⟩⟩

/-- what the sort asks of a row. -/
theorem OwnAt.holds {α : Type} [Inhabited α] {base E k : Nat} {enc : α → List Value} (hk : ∀ x, (enc x).length = k) {w : World} {g off n cap : Nat} {l : List α} (h : OwnAt base E k enc w (.slice (some ⟨g, off, none⟩) n cap) l) :
    off = 0 ∧ n = l.length ∧ g < w.heap.size ∧ base ≤ g ∧ Sort.HoldsK enc k w g 0 l.toArray := by
  have hS := h.slice hk
  obtain ⟨h1, ⟨hv, h0⟩ | ⟨g', cap', cur, hv, hb, hg, hn, hc, hs, ht⟩⟩ := h
  · cases hv
  · cases hv
    refine ⟨rfl, rfl, (Array.getElem?_eq_some_iff.1 hg).1, hb, fun t ht' => ⟨?_, by simp [World.frozen?, hg]⟩⟩
    have ht2 : t < l.length * k := by simpa using ht'
    rw [Sort.get_flatK _ _ _ _ (by simpa using ht2)]
    rcases hS with ⟨e, _⟩ | ⟨b, off, cap, e, _, _, hcells⟩
    · cases e
    · cases e
      have k0 : 0 < k := by rcases Nat.eq_zero_or_pos k with h | h
                            · subst h; simp at ht2
                            · exact h
      have hj : t / k < l.length := Nat.div_lt_of_lt_mul (by rw [Nat.mul_comm]; exact ht2)
      have hm : t % k < k := Nat.mod_lt _ k0
      have := hcells (t / k) l[t / k] (by simp) (t % k) ((enc l[t / k])[t % k]'(by rw [hk]; exact hm)) (by simp)
      rw [show 0 + t / k * k + t % k = 0 + t by have := Nat.div_add_mod t k; rw [Nat.mul_comm] at this; omega] at this
      rw [this]
      simp [hj, hk, hm]

/-- behind the sort the same slice owns the sorted list. -/
theorem OwnAt.sorted {α : Type} [Inhabited α] {base E k : Nat} {enc : α → List Value} (hk : ∀ x, (enc x).length = k) {w : World} {g n cap m : Nat} {l : List α} {d' : Array α} {os : Array Obj}
    (h : OwnAt base E k enc w (.slice (some ⟨g, 0, none⟩) n cap) l) (hd : d'.size = l.length) :
    OwnAt base E k enc (sortWorldK enc k w g 0 m d' os) (.slice (some ⟨g, 0, none⟩) n cap) d'.toList ∧ w.grownBy (sortWorldK enc k w g 0 m d' os) (some g) := by
  obtain ⟨h1, ⟨hv, h0⟩ | ⟨g', cap', cur, hv, hb, hg, hn, hc, hs, ht⟩⟩ := h
  · cases hv
  · cases hv
    have hgl : g < w.heap.size := (Array.getElem?_eq_some_iff.1 hg).1
    refine ⟨⟨by rw [flat_length hk], .inr ⟨g, cap, Sort.putCells id 0 (Sort.flatK enc k d') cur, by simp [hd], hb, ?_, by simp [hd, hn], hc, by simp [Sort.putCells, hs], ?_⟩⟩, ?_⟩
    · show (Sort.grow (Sort.mapBlock (Sort.ahead w m) g _) os).heap[g]? = _
      rw [Sort.heap_grow_old _ _ (by simpa [Sort.mapBlock, Sort.ahead] using hgl)]
      simp [Sort.mapBlock, Sort.ahead, Array.getElem?_modify, hg, Sort.onCells]
    · apply List.ext_getElem?
      intro t
      by_cases htt : t < d'.toList.length * k
      · rw [List.getElem?_take_of_lt htt, Array.getElem?_toList]
        have ht2 : t < d'.size * k := by simpa using htt
        have ht3 : t < cur.size := by rw [hs]; have : l.length * k ≤ cap * k := Nat.mul_le_mul_right k hn
                                      rw [hd] at ht2; omega
        have k0 : 0 < k := by rcases Nat.eq_zero_or_pos k with h | h
                              · subst h; simp at ht2
                              · exact h
        have hj : t / k < d'.size := Nat.div_lt_of_lt_mul (by rw [Nat.mul_comm]; exact ht2)
        have hm : t % k < k := Nat.mod_lt _ k0
        have e1 : (d'.toList.flatMap enc)[t]? = (enc d'[t / k])[t % k]? := by
          have := flat_get hk d'.toList (t / k) (t % k) d'[t / k] (by simp [hj]) hm
          rw [show t / k * k + t % k = t by have := Nat.div_add_mod t k; rw [Nat.mul_comm] at this; omega] at this
          exact this
        rw [e1]
        have e2 := Sort.get_flatK enc k d' t ht2
        simp [Sort.putCells, ht3, ht2] at e2 ⊢
        rw [e2]
        simp [hj, hk, hm]
      · rw [List.getElem?_take_eq_none (by omega), List.getElem?_eq_none (by rw [flat_length hk]; omega)]
    · refine ⟨rfl, rfl, rfl, by simp [sortWorldK, Sort.putRowK, Sort.putRow, Sort.mapBlock, Sort.ahead], fun j hj hne => ?_⟩
      show (Sort.grow (Sort.mapBlock (Sort.ahead w m) g _) os).heap[j]? = _
      rw [Sort.heap_grow_old _ _ (by simpa [Sort.mapBlock, Sort.ahead] using hj)]
      have : g ≠ j := fun e => hne (by rw [e])
      simp [Sort.mapBlock, Sort.ahead, Array.getElem?_modify, this]

theorem flat_set {α : Type} {enc : α → List Value} {k : Nat} (hk : ∀ x, (enc x).length = k) {z : α} {i : Nat} {u : Value} (hi : i < k) : ∀ (l : List α) (j : Nat) (x : α), l[j]? = some x → enc z = (enc x).set i u → (l.set j z).flatMap enc = (l.flatMap enc).set (j * k + i) u
  | [], j, x, h, _ => by simp at h
  | y :: r, 0, x, h, hz => by
    obtain rfl : y = x := by simpa using h
    rw [List.set_cons_zero, List.flatMap_cons, List.flatMap_cons, hz, List.set_append_left _ _ (by rw [hk]; omega)]
    simp
  | y :: r, j + 1, x, h, hz => by
    rw [List.set_cons_succ, List.flatMap_cons, List.flatMap_cons, List.set_append_right _ _ (by rw [hk, Nat.add_mul]; omega), hk, show (j + 1) * k + i - k = j * k + i by rw [Nat.add_mul]; omega]
    rw [flat_set hk hi r j x (by simpa using h) hz]

/-- one cell of an element of an owned row is stored. -/
theorem OwnAt.set {α : Type} {base E k : Nat} {enc : α → List Value} (hk : ∀ x, (enc x).length = k) {w : World} {g n cap j i : Nat} {l : List α} {x z : α} {u : Value}
    (h : OwnAt base E k enc w (.slice (some ⟨g, 0, none⟩) n cap) l) (hj : l[j]? = some x) (hi : i < k) (hz : enc z = (enc x).set i u) :
    OwnAt base E k enc (w.setCell ⟨g, j * k + i, none⟩ u) (.slice (some ⟨g, 0, none⟩) n cap) (l.set j z) := by
  obtain ⟨h1, ⟨hv, h0⟩ | ⟨g', cap', cur, hv, hb, hg, hn, hc, hs, ht⟩⟩ := h
  · cases hv
  · cases hv
    have hjl : j < l.length := (List.getElem?_eq_some_iff.1 hj).1
    refine ⟨by rw [flat_length hk], .inr ⟨g, cap, cur.setIfInBounds (j * k + i) u, by simp, hb, ?_, by simpa using hn, hc, by simp [hs], ?_⟩⟩
    · simp [World.setCell, Array.getElem?_modify, hg]
    · rw [flat_set hk hi l j x hj hz, ← ht, List.length_set, Array.toList_setIfInBounds, List.take_set]

/-- what a slice's value looks like, and its cells. -/
theorem SliceAt.shape {α : Type} {k : Nat} {enc : α → List Value} {w : World} {v : Value} {l : List α} (h : SliceAt k enc w v l) :
    ∃ p cap, v = .slice p l.length cap ∧ l.length ≤ 9223372036854775807 ∧ ∀ (j : Nat) x, l[j]? = some x → ∃ b off, p = some ⟨b, off, none⟩ ∧ b < w.heap.size ∧ ∀ i y, (enc x)[i]? = some y → w.cell? ⟨b, off + j * k + i, none⟩ = some y := by
  rcases h with ⟨rfl, rfl⟩ | ⟨b, off, cap, rfl, hn, hb, hc⟩
  · exact ⟨none, 0, rfl, by simp, fun j x hj => by simp at hj⟩
  · exact ⟨_, cap, rfl, hn, fun j x hj => ⟨b, off, rfl, hb, hc j x hj⟩⟩
end Go.Proofs.Yteadongdlacgmaa
