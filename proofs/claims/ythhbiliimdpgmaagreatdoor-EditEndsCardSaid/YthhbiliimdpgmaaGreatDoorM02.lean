/- Lists of structs in rows of the call's own: as the kit's owned rows, as slices, as the sort's rows. -/
import Derived.Test.YthhbiliimdpgmaaGreatDoorM01
import Derived.Shelf.SlSortCmp.KitK
import Derived.Shelf.SlSortCmp.WholeK
import Derived.Shelf.SlicesQ.IndexFunc
import Derived.Shelf.SlicesE.Clone
import Derived.Shelf.Utf8.RuneCount
import Derived.Shelf.Unicode.DecodeAny
import Derived.Shelf.Small.Strs
import Derived.Shelf.Strings.OnBuilder
import Derived.Test.YthhbiliimdpgmaaGreatDoorProg
namespace Go.Proofs.YthhbiliimdpgmaaGreatDoor
open Go.RowKit Go.Shelf

theorem flat_get {α : Type} {enc : α → List Value} {k : Nat} (hk : ∀ x, (enc x).length = k) : ∀ (l : List α) (j i : Nat) (x : α), l[j]? = some x → i < k → (l.flatMap enc)[j * k + i]? = (enc x)[i]?
  | [], j, i, x, h, _ => by simp at h
  | y :: r, 0, i, x, h, hi => by
    obtain rfl : y = x := by simpa using h
    rw [List.flatMap_cons, List.getElem?_append_left (by rw [hk]; omega)]
    simp
  | y :: r, j + 1, i, x, h, hi => by
    rw [List.flatMap_cons, List.getElem?_append_right (by rw [hk, Nat.add_mul]; omega), hk, show (j + 1) * k + i - k = j * k + i by rw [Nat.add_mul]; omega]
    exact flat_get hk r j i x (by simpa using h) hi

theorem flat_length {α : Type} {enc : α → List Value} {k : Nat} (hk : ∀ x, (enc x).length = k) : ∀ l : List α, (l.flatMap enc).length = l.length * k
  | [] => by simp
  | y :: r => by rw [List.flatMap_cons, List.length_append, hk, flat_length hk r, List.length_cons, Nat.add_mul]; omega

/-- v owns a row of elements of type E from block base on: the list l. -/
def OwnAt {α : Type} (base E k : Nat) (enc : α → List Value) (w : World) (v : Value) (l : List α) : Prop := w.ownsRow base E k v l.length (l.flatMap enc)

theorem OwnAt.slice {α : Type} {base E k : Nat} {enc : α → List Value} (hk : ∀ x, (enc x).length = k) {w : World} {v : Value} {l : List α} (h : OwnAt base E k enc w v l) : SliceAt k enc w v l := by
  obtain ⟨h1, ⟨hv, h0⟩ | ⟨g, cap, cur, hv, hb, hg, hn, hc, hs, ht⟩⟩ := h
  · exact .inl ⟨hv, List.eq_nil_of_length_eq_zero h0⟩
  · refine .inr ⟨g, 0, cap, hv, by unfold maxLen at hc; omega, (Array.getElem?_eq_some_iff.1 hg).1, fun j x hj i y hi => ?_⟩
    have hj' : j < l.length := (List.getElem?_eq_some_iff.1 hj).1
    have hi' : i < k := by rw [← hk x]; exact (List.getElem?_eq_some_iff.1 hi).1
    have hlt : j * k + i < l.length * k := by
      have : (j + 1) * k ≤ l.length * k := Nat.mul_le_mul_right k hj'
      rw [Nat.add_mul] at this; omega
    have h3 : (cur.toList.take (l.length * k))[j * k + i]? = some y := by rw [ht, flat_get hk l j i x hj hi']; exact hi
    rw [List.getElem?_take_of_lt hlt, Array.getElem?_toList] at h3
    simp only [World.cell?, hg, Nat.zero_add]
    simpa using h3

theorem OwnAt.nil {α : Type} {base E k : Nat} {enc : α → List Value} {w : World} : OwnAt base E k enc w (.slice none 0 0) ([] : List α) := ⟨by simp, .inl ⟨rfl, rfl⟩⟩

/-- what the sort asks of a row. -/
theorem OwnAt.holds {α : Type} [Inhabited α] {base E k : Nat} {enc : α → List Value} (hk : ∀ x, (enc x).length = k) {w : World} {g off n cap : Nat} {l : List α} (h : OwnAt base E k enc w (.slice (some ⟨g, off, none⟩) n cap) l) :
    off = 0 ∧ n = l.length ∧ g < w.heap.size ∧ base ≤ g ∧ Sort.HoldsK enc k w g 0 l.toArray := by
  have hS := h.slice hk
  obtain ⟨h1, ⟨hv, h0⟩ | ⟨g', cap', cur, hv, hb, hg, hn, hc, hs, ht⟩⟩ := h
  · cases hv
  · cases hv
    refine ⟨rfl, rfl, (Array.getElem?_eq_some_iff.1 hg).1, hb, fun t ht' => ⟨?_, by simp [World.frozen?, hg]⟩⟩
    have ht2 : t < l.length * k := by simpa using ht'
    rw [Sort.get_flatK _ _ _ _ (by simpa using ht2)]
    rcases hS with ⟨e, _⟩ | ⟨b, off, cap, e, _, _, hcells⟩
    · cases e
    · cases e
      have k0 : 0 < k := by rcases Nat.eq_zero_or_pos k with h | h
                            · subst h; simp at ht2
                            · exact h
      have hj : t / k < l.length := Nat.div_lt_of_lt_mul (by rw [Nat.mul_comm]; exact ht2)
      have hm : t % k < k := Nat.mod_lt _ k0
      have := hcells (t / k) l[t / k] (by simp) (t % k) ((enc l[t / k])[t % k]'(by rw [hk]; exact hm)) (by simp)
      rw [show 0 + t / k * k + t % k = 0 + t by have := Nat.div_add_mod t k; rw [Nat.mul_comm] at this; omega] at this
      rw [this]
      simp [hj, hk, hm]

/-- behind the sort the same slice owns the sorted list. -/
theorem OwnAt.sorted {α : Type} [Inhabited α] {base E k : Nat} {enc : α → List Value} (hk : ∀ x, (enc x).length = k) {w : World} {g n cap m : Nat} {l : List α} {d' : Array α} {os : Array Obj}
    (h : OwnAt base E k enc w (.slice (some ⟨g, 0, none⟩) n cap) l) (hd : d'.size = l.length) :
    OwnAt base E k enc (sortWorldK enc k w g 0 m d' os) (.slice (some ⟨g, 0, none⟩) n cap) d'.toList ∧ w.grownBy (sortWorldK enc k w g 0 m d' os) (some g) := by
  obtain ⟨h1, ⟨hv, h0⟩ | ⟨g', cap', cur, hv, hb, hg, hn, hc, hs, ht⟩⟩ := h
  · cases hv
  · cases hv
    have hgl : g < w.heap.size := (Array.getElem?_eq_some_iff.1 hg).1
    refine ⟨⟨by rw [flat_length hk], .inr ⟨g, cap, Sort.putCells id 0 (Sort.flatK enc k d') cur, by simp [hd], hb, ?_, by simp [hd, hn], hc, by simp [Sort.putCells, hs], ?_⟩⟩, ?_⟩
    · show (Sort.grow (Sort.mapBlock (Sort.ahead w m) g _) os).heap[g]? = _
      rw [Sort.heap_grow_old _ _ (by simpa [Sort.mapBlock, Sort.ahead] using hgl)]
      simp [Sort.mapBlock, Sort.ahead, Array.getElem?_modify, hg, Sort.onCells]
    · apply List.ext_getElem?
      intro t
      by_cases htt : t < d'.toList.length * k
      · rw [List.getElem?_take_of_lt htt, Array.getElem?_toList]
        have ht2 : t < d'.size * k := by simpa using htt
        have ht3 : t < cur.size := by rw [hs]; have : l.length * k ≤ cap * k := Nat.mul_le_mul_right k hn
                                      rw [hd] at ht2; omega
        have k0 : 0 < k := by rcases Nat.eq_zero_or_pos k with h | h
                              · subst h; simp at ht2
                              · exact h
        have hj : t / k < d'.size := Nat.div_lt_of_lt_mul (by rw [Nat.mul_comm]; exact ht2)
        have hm : t % k < k := Nat.mod_lt _ k0
        have e1 : (d'.toList.flatMap enc)[t]? = (enc d'[t / k])[t % k]? := by
          have := flat_get hk d'.toList (t / k) (t % k) d'[t / k] (by simp [hj]) hm
          rw [show t / k * k + t % k = t by have := Nat.div_add_mod t k; rw [Nat.mul_comm] at this; omega] at this
          exact this
        rw [e1]
        have e2 := Sort.get_flatK enc k d' t ht2
        simp [Sort.putCells, ht3, ht2] at e2 ⊢
        rw [e2]
        simp [hj, hk, hm]
      · rw [List.getElem?_take_eq_none (by omega), List.getElem?_eq_none (by rw [flat_length hk]; omega)]
    · refine ⟨rfl, rfl, rfl, by simp [sortWorldK, Sort.putRowK, Sort.putRow, Sort.mapBlock, Sort.ahead], fun j hj hne => ?_⟩
      show (Sort.grow (Sort.mapBlock (Sort.ahead w m) g _) os).heap[j]? = _
      rw [Sort.heap_grow_old _ _ (by simpa [Sort.mapBlock, Sort.ahead] using hj)]
      have : g ≠ j := fun e => hne (by rw [e])
      simp [Sort.mapBlock, Sort.ahead, Array.getElem?_modify, this]

theorem flat_set {α : Type} {enc : α → List Value} {k : Nat} (hk : ∀ x, (enc x).length = k) {z : α} {i : Nat} {u : Value} (hi : i < k) : ∀ (l : List α) (j : Nat) (x : α), l[j]? = some x → enc z = (enc x).set i u → (l.set j z).flatMap enc = (l.flatMap enc).set (j * k + i) u
  | [], j, x, h, _ => by simp at h
  | y :: r, 0, x, h, hz => by
    obtain rfl : y = x := by simpa using h
    rw [List.set_cons_zero, List.flatMap_cons, List.flatMap_cons, hz, List.set_append_left _ _ (by rw [hk]; omega)]
    simp
  | y :: r, j + 1, x, h, hz => by
    rw [List.set_cons_succ, List.flatMap_cons, List.flatMap_cons, List.set_append_right _ _ (by rw [hk, Nat.add_mul]; omega), hk, show (j + 1) * k + i - k = j * k + i by rw [Nat.add_mul]; omega]
    rw [flat_set hk hi r j x (by simpa using h) hz]

/-- one cell of an element of an owned row is stored. -/
theorem OwnAt.set {α : Type} {base E k : Nat} {enc : α → List Value} (hk : ∀ x, (enc x).length = k) {w : World} {g n cap j i : Nat} {l : List α} {x z : α} {u : Value}
    (h : OwnAt base E k enc w (.slice (some ⟨g, 0, none⟩) n cap) l) (hj : l[j]? = some x) (hi : i < k) (hz : enc z = (enc x).set i u) :
    OwnAt base E k enc (w.setCell ⟨g, j * k + i, none⟩ u) (.slice (some ⟨g, 0, none⟩) n cap) (l.set j z) := by
  obtain ⟨h1, ⟨hv, h0⟩ | ⟨g', cap', cur, hv, hb, hg, hn, hc, hs, ht⟩⟩ := h
  · cases hv
  · cases hv
    have hjl : j < l.length := (List.getElem?_eq_some_iff.1 hj).1
    refine ⟨by rw [flat_length hk], .inr ⟨g, cap, cur.setIfInBounds (j * k + i) u, by simp, hb, ?_, by simpa using hn, hc, by simp [hs], ?_⟩⟩
    · simp [World.setCell, Array.getElem?_modify, hg]
    · rw [flat_set hk hi l j x hj hz, ← ht, List.length_set, Array.toList_setIfInBounds, List.take_set]

/-- what a slice's value looks like, and its cells. -/
theorem SliceAt.shape {α : Type} {k : Nat} {enc : α → List Value} {w : World} {v : Value} {l : List α} (h : SliceAt k enc w v l) :
    ∃ p cap, v = .slice p l.length cap ∧ l.length ≤ 9223372036854775807 ∧ ∀ (j : Nat) x, l[j]? = some x → ∃ b off, p = some ⟨b, off, none⟩ ∧ b < w.heap.size ∧ ∀ i y, (enc x)[i]? = some y → w.cell? ⟨b, off + j * k + i, none⟩ = some y := by
  rcases h with ⟨rfl, rfl⟩ | ⟨b, off, cap, rfl, hn, hb, hc⟩
  · exact ⟨none, 0, rfl, by simp, fun j x hj => by simp at hj⟩
  · exact ⟨_, cap, rfl, hn, fun j x hj => ⟨b, off, rfl, hb, hc j x hj⟩⟩
end Go.Proofs.YthhbiliimdpgmaaGreatDoor
/-
  The contracts of the library functions at this translation, laid by the kit (lay-plain.mjs).
-/
namespace Go.Proofs
open Go.Shelf
def Tryz.sortRng_ren : Go.Shelf.Ren := ⟨fun | 6 => 86 | 15 => 127 | 14 => 131 | 28 => 161 | 29 => 162 | 20 => 163 | 21 => 164 | 22 => 165 | 23 => 166 | 24 => 167 | 25 => 168 | 26 => 169 | 27 => 170 | 46 => 195 | 47 => 191 | 48 => 192 | 49 => 196 | 50 => 197 | 57 => 210 | n => n, fun | 22 => 65 | 24 => 95 | 25 => 152 | 3 => 3 | 39 => 191 | 0 => 0 | 53 => 225 | 55 => 26 | 4 => 4 | 46 => 219 | 45 => 218 | 50 => 184 | 5 => 5 | 9 => 9 | 66 => 245 | 70 => 248 | 76 => 260 | 77 => 261 | n => n, fun | n => n⟩
theorem Tryz.sortRng : Go.Proofs.SlLaysF0.n6 Tryz.prog Tryz.sortRng_ren := {
  mixed := by kernel_rfl
  f6 := ⟨Tryz.f86.name, by decide, Tryz.func86.trans (congrArg some (by kernel_rfl))⟩
  f14 := ⟨Tryz.f131.name, by decide, Tryz.func131.trans (congrArg some (by kernel_rfl))⟩
  f15 := Tryz.func127.trans (congrArg some (by kernel_rfl))
  f20 := ⟨Tryz.f163.name, by decide, Tryz.func163.trans (congrArg some (by kernel_rfl))⟩
  f21 := ⟨Tryz.f164.name, by decide, Tryz.func164.trans (congrArg some (by kernel_rfl))⟩
  f22 := ⟨Tryz.f165.name, by decide, Tryz.func165.trans (congrArg some (by kernel_rfl))⟩
  f23 := ⟨Tryz.f166.name, by decide, Tryz.func166.trans (congrArg some (by kernel_rfl))⟩
  f24 := ⟨Tryz.f167.name, by decide, Tryz.func167.trans (congrArg some (by kernel_rfl))⟩
  f25 := ⟨Tryz.f168.name, by decide, Tryz.func168.trans (congrArg some (by kernel_rfl))⟩
  f26 := ⟨Tryz.f169.name, by decide, Tryz.func169.trans (congrArg some (by kernel_rfl))⟩
  f27 := ⟨Tryz.f170.name, by decide, Tryz.func170.trans (congrArg some (by kernel_rfl))⟩
  f28 := Tryz.func161.trans (congrArg some (by kernel_rfl))
  f29 := Tryz.func162.trans (congrArg some (by kernel_rfl))
  f46 := ⟨Tryz.f195.name, by decide, Tryz.func195.trans (congrArg some (by kernel_rfl))⟩
  f47 := Tryz.func191.trans (congrArg some (by kernel_rfl))
  f48 := Tryz.func192.trans (congrArg some (by kernel_rfl))
  f49 := ⟨Tryz.f196.name, by decide, Tryz.func196.trans (congrArg some (by kernel_rfl))⟩
  f50 := ⟨Tryz.f197.name, by decide, Tryz.func197.trans (congrArg some (by kernel_rfl))⟩
  f57 := ⟨Tryz.f210.name, by decide, Tryz.func210.trans (congrArg some (by kernel_rfl))⟩
  t0 := Tryz.underlying0
  a0 := Tryz.isAgg0
  z0 := Tryz.sizeOf0
  v0 := Tryz.zeroValue0
  t3 := Tryz.underlying3
  a3 := Tryz.isAgg3
  z3 := Tryz.sizeOf3
  v3 := Tryz.zeroValue3
  t4 := Tryz.underlying4
  a4 := Tryz.isAgg4
  z4 := Tryz.sizeOf4
  v4 := Tryz.zeroValue4
  t5 := Tryz.underlying5
  a5 := Tryz.isAgg5
  z5 := Tryz.sizeOf5
  v5 := Tryz.zeroValue5
  t9 := Tryz.underlying9
  a9 := Tryz.isAgg9
  z9 := Tryz.sizeOf9
  v9 := Tryz.zeroValue9
  t22 := Tryz.underlying65
  a22 := Tryz.isAgg65
  z22 := Tryz.sizeOf65
  v22 := Tryz.zeroValue65
  t25 := Tryz.underlying152
  a25 := Tryz.isAgg152
  z25 := Tryz.sizeOf152
  v25 := Tryz.zeroValue152
  t39 := Tryz.underlying191
  a39 := Tryz.isAgg191
  z39 := Tryz.sizeOf191
  v39 := Tryz.zeroValue191
  t45 := Tryz.underlying218
  a45 := Tryz.isAgg218
  z45 := Tryz.sizeOf218
  v45 := Tryz.zeroValue218
  t46 := Tryz.underlying219
  a46 := Tryz.isAgg219
  z46 := Tryz.sizeOf219
  v46 := Tryz.zeroValue219
  t50 := Tryz.underlying184
  a50 := Tryz.isAgg184
  z50 := Tryz.sizeOf184
  v50 := Tryz.zeroValue184
  t53 := Tryz.underlying225
  a53 := Tryz.isAgg225
  z53 := Tryz.sizeOf225
  v53 := Tryz.zeroValue225
  t55 := Tryz.underlying26
  a55 := Tryz.isAgg26
  z55 := Tryz.sizeOf26
  v55 := Tryz.zeroValue26
  t66 := Tryz.underlying245
  a66 := Tryz.isAgg245
  z66 := Tryz.sizeOf245
  v66 := Tryz.zeroValue245
  t70 := Tryz.underlying248
  a70 := Tryz.isAgg248
  z70 := Tryz.sizeOf248
  v70 := Tryz.zeroValue248
  t76 := Tryz.underlying260
  a76 := Tryz.isAgg260
  z76 := Tryz.sizeOf260
  v76 := Tryz.zeroValue260
  t77 := Tryz.underlying261
  a77 := Tryz.isAgg261
  z77 := Tryz.sizeOf261
  v77 := Tryz.zeroValue261 }
def Tryz.sortTurn_ren : Go.Shelf.Ren := ⟨fun | 6 => 75 | 15 => 127 | 14 => 126 | 28 => 161 | 29 => 162 | 20 => 153 | 21 => 154 | 22 => 155 | 23 => 156 | 24 => 157 | 25 => 158 | 26 => 159 | 27 => 160 | 46 => 190 | 47 => 191 | 48 => 192 | 49 => 193 | 50 => 194 | 57 => 209 | n => n, fun | 22 => 40 | 24 => 54 | 25 => 141 | 3 => 3 | 39 => 191 | 0 => 0 | 53 => 225 | 55 => 26 | 4 => 4 | 46 => 219 | 45 => 218 | 50 => 184 | 5 => 5 | 9 => 9 | 66 => 245 | 70 => 248 | 76 => 260 | 77 => 261 | n => n, fun | n => n⟩
theorem Tryz.sortTurn : Go.Proofs.SlLaysF0.n6 Tryz.prog Tryz.sortTurn_ren := {
  mixed := by kernel_rfl
  f6 := ⟨Tryz.f75.name, by decide, Tryz.func75.trans (congrArg some (by kernel_rfl))⟩
  f14 := ⟨Tryz.f126.name, by decide, Tryz.func126.trans (congrArg some (by kernel_rfl))⟩
  f15 := Tryz.func127.trans (congrArg some (by kernel_rfl))
  f20 := ⟨Tryz.f153.name, by decide, Tryz.func153.trans (congrArg some (by kernel_rfl))⟩
  f21 := ⟨Tryz.f154.name, by decide, Tryz.func154.trans (congrArg some (by kernel_rfl))⟩
  f22 := ⟨Tryz.f155.name, by decide, Tryz.func155.trans (congrArg some (by kernel_rfl))⟩
  f23 := ⟨Tryz.f156.name, by decide, Tryz.func156.trans (congrArg some (by kernel_rfl))⟩
  f24 := ⟨Tryz.f157.name, by decide, Tryz.func157.trans (congrArg some (by kernel_rfl))⟩
  f25 := ⟨Tryz.f158.name, by decide, Tryz.func158.trans (congrArg some (by kernel_rfl))⟩
  f26 := ⟨Tryz.f159.name, by decide, Tryz.func159.trans (congrArg some (by kernel_rfl))⟩
  f27 := ⟨Tryz.f160.name, by decide, Tryz.func160.trans (congrArg some (by kernel_rfl))⟩
  f28 := Tryz.func161.trans (congrArg some (by kernel_rfl))
  f29 := Tryz.func162.trans (congrArg some (by kernel_rfl))
  f46 := ⟨Tryz.f190.name, by decide, Tryz.func190.trans (congrArg some (by kernel_rfl))⟩
  f47 := Tryz.func191.trans (congrArg some (by kernel_rfl))
  f48 := Tryz.func192.trans (congrArg some (by kernel_rfl))
  f49 := ⟨Tryz.f193.name, by decide, Tryz.func193.trans (congrArg some (by kernel_rfl))⟩
  f50 := ⟨Tryz.f194.name, by decide, Tryz.func194.trans (congrArg some (by kernel_rfl))⟩
  f57 := ⟨Tryz.f209.name, by decide, Tryz.func209.trans (congrArg some (by kernel_rfl))⟩
  t0 := Tryz.underlying0
  a0 := Tryz.isAgg0
  z0 := Tryz.sizeOf0
  v0 := Tryz.zeroValue0
  t3 := Tryz.underlying3
  a3 := Tryz.isAgg3
  z3 := Tryz.sizeOf3
  v3 := Tryz.zeroValue3
  t4 := Tryz.underlying4
  a4 := Tryz.isAgg4
  z4 := Tryz.sizeOf4
  v4 := Tryz.zeroValue4
  t5 := Tryz.underlying5
  a5 := Tryz.isAgg5
  z5 := Tryz.sizeOf5
  v5 := Tryz.zeroValue5
  t9 := Tryz.underlying9
  a9 := Tryz.isAgg9
  z9 := Tryz.sizeOf9
  v9 := Tryz.zeroValue9
  t22 := Tryz.underlying40
  a22 := Tryz.isAgg40
  z22 := Tryz.sizeOf40
  v22 := Tryz.zeroValue40
  t25 := Tryz.underlying141
  a25 := Tryz.isAgg141
  z25 := Tryz.sizeOf141
  v25 := Tryz.zeroValue141
  t39 := Tryz.underlying191
  a39 := Tryz.isAgg191
  z39 := Tryz.sizeOf191
  v39 := Tryz.zeroValue191
  t45 := Tryz.underlying218
  a45 := Tryz.isAgg218
  z45 := Tryz.sizeOf218
  v45 := Tryz.zeroValue218
  t46 := Tryz.underlying219
  a46 := Tryz.isAgg219
  z46 := Tryz.sizeOf219
  v46 := Tryz.zeroValue219
  t50 := Tryz.underlying184
  a50 := Tryz.isAgg184
  z50 := Tryz.sizeOf184
  v50 := Tryz.zeroValue184
  t53 := Tryz.underlying225
  a53 := Tryz.isAgg225
  z53 := Tryz.sizeOf225
  v53 := Tryz.zeroValue225
  t55 := Tryz.underlying26
  a55 := Tryz.isAgg26
  z55 := Tryz.sizeOf26
  v55 := Tryz.zeroValue26
  t66 := Tryz.underlying245
  a66 := Tryz.isAgg245
  z66 := Tryz.sizeOf245
  v66 := Tryz.zeroValue245
  t70 := Tryz.underlying248
  a70 := Tryz.isAgg248
  z70 := Tryz.sizeOf248
  v70 := Tryz.zeroValue248
  t76 := Tryz.underlying260
  a76 := Tryz.isAgg260
  z76 := Tryz.sizeOf260
  v76 := Tryz.zeroValue260
  t77 := Tryz.underlying261
  a77 := Tryz.isAgg261
  z77 := Tryz.sizeOf261
  v77 := Tryz.zeroValue261 }
def Tryz.containsRng_ren : Go.Shelf.Ren := ⟨fun | 8 => 108 | 6 => 143 | n => n, fun | 22 => 65 | 23 => 95 | 25 => 150 | 4 => 4 | 3 => 3 | 0 => 0 | n => n, fun | n => n⟩
theorem Tryz.containsRng : Go.Proofs.SlLaysH0.n8 Tryz.prog Tryz.containsRng_ren := {
  mixed := by kernel_rfl
  f6 := ⟨Tryz.f143.name, by decide, Tryz.func143.trans (congrArg some (by kernel_rfl))⟩
  f8 := ⟨Tryz.f108.name, by decide, Tryz.func108.trans (congrArg some (by kernel_rfl))⟩
  t0 := Tryz.underlying0
  a0 := Tryz.isAgg0
  z0 := Tryz.sizeOf0
  v0 := Tryz.zeroValue0
  t3 := Tryz.underlying3
  a3 := Tryz.isAgg3
  z3 := Tryz.sizeOf3
  v3 := Tryz.zeroValue3
  t4 := Tryz.underlying4
  a4 := Tryz.isAgg4
  z4 := Tryz.sizeOf4
  v4 := Tryz.zeroValue4
  t22 := Tryz.underlying65
  a22 := Tryz.isAgg65
  z22 := Tryz.sizeOf65
  v22 := Tryz.zeroValue65
  t25 := Tryz.underlying150
  a25 := Tryz.isAgg150
  z25 := Tryz.sizeOf150
  v25 := Tryz.zeroValue150 }
def Tryz.containsId_ren : Go.Shelf.Ren := ⟨fun | 8 => 61 | 6 => 110 | n => n, fun | 22 => 108 | 23 => 28 | 25 => 126 | 4 => 4 | 3 => 3 | 0 => 0 | n => n, fun | n => n⟩
theorem Tryz.containsId : Go.Proofs.SlLaysH0.n8 Tryz.prog Tryz.containsId_ren := {
  mixed := by kernel_rfl
  f6 := ⟨Tryz.f110.name, by decide, Tryz.func110.trans (congrArg some (by kernel_rfl))⟩
  f8 := ⟨Tryz.f61.name, by decide, Tryz.func61.trans (congrArg some (by kernel_rfl))⟩
  t0 := Tryz.underlying0
  a0 := Tryz.isAgg0
  z0 := Tryz.sizeOf0
  v0 := Tryz.zeroValue0
  t3 := Tryz.underlying3
  a3 := Tryz.isAgg3
  z3 := Tryz.sizeOf3
  v3 := Tryz.zeroValue3
  t4 := Tryz.underlying4
  a4 := Tryz.isAgg4
  z4 := Tryz.sizeOf4
  v4 := Tryz.zeroValue4
  t22 := Tryz.underlying108
  a22 := Tryz.isAgg108
  z22 := Tryz.sizeOf108
  v22 := Tryz.zeroValue108
  t25 := Tryz.underlying126
  a25 := Tryz.isAgg126
  z25 := Tryz.sizeOf126
  v25 := Tryz.zeroValue126 }
def Tryz.indexId_ren : Go.Shelf.Ren := ⟨fun | 6 => 110 | n => n, fun | 22 => 108 | 23 => 28 | 25 => 126 | 3 => 3 | 0 => 0 | 4 => 4 | n => n, fun | n => n⟩
theorem Tryz.indexId : Go.Proofs.SlLaysH0.n6 Tryz.prog Tryz.indexId_ren := {
  mixed := by kernel_rfl
  f6 := ⟨Tryz.f110.name, by decide, Tryz.func110.trans (congrArg some (by kernel_rfl))⟩
  t0 := Tryz.underlying0
  a0 := Tryz.isAgg0
  z0 := Tryz.sizeOf0
  v0 := Tryz.zeroValue0
  t3 := Tryz.underlying3
  a3 := Tryz.isAgg3
  z3 := Tryz.sizeOf3
  v3 := Tryz.zeroValue3
  t4 := Tryz.underlying4
  a4 := Tryz.isAgg4
  z4 := Tryz.sizeOf4
  v4 := Tryz.zeroValue4
  t22 := Tryz.underlying108
  a22 := Tryz.isAgg108
  z22 := Tryz.sizeOf108
  v22 := Tryz.zeroValue108
  t25 := Tryz.underlying126
  a25 := Tryz.isAgg126
  z25 := Tryz.sizeOf126
  v25 := Tryz.zeroValue126 }
def Tryz.indexTurn_ren : Go.Shelf.Ren := ⟨fun | 6 => 129 | n => n, fun | 22 => 40 | 23 => 54 | 25 => 137 | 3 => 3 | 0 => 0 | 4 => 4 | n => n, fun | n => n⟩
theorem Tryz.indexTurn : Go.Proofs.SlLaysH0.n6 Tryz.prog Tryz.indexTurn_ren := {
  mixed := by kernel_rfl
  f6 := ⟨Tryz.f129.name, by decide, Tryz.func129.trans (congrArg some (by kernel_rfl))⟩
  t0 := Tryz.underlying0
  a0 := Tryz.isAgg0
  z0 := Tryz.sizeOf0
  v0 := Tryz.zeroValue0
  t3 := Tryz.underlying3
  a3 := Tryz.isAgg3
  z3 := Tryz.sizeOf3
  v3 := Tryz.zeroValue3
  t4 := Tryz.underlying4
  a4 := Tryz.isAgg4
  z4 := Tryz.sizeOf4
  v4 := Tryz.zeroValue4
  t22 := Tryz.underlying40
  a22 := Tryz.isAgg40
  z22 := Tryz.sizeOf40
  v22 := Tryz.zeroValue40
  t25 := Tryz.underlying137
  a25 := Tryz.isAgg137
  z25 := Tryz.sizeOf137
  v25 := Tryz.zeroValue137 }
def Tryz.cloneOp_ren : Go.Shelf.Ren := ⟨fun | 41 => 139 | n => n, fun | 22 => 39 | 23 => 35 | 4 => 4 | n => n, fun | n => n⟩
theorem Tryz.cloneOp : Go.Proofs.SlLaysE0.n41 Tryz.prog Tryz.cloneOp_ren := {
  mixed := by kernel_rfl
  f41 := ⟨Tryz.f139.name, by decide, Tryz.func139.trans (congrArg some (by kernel_rfl))⟩
  t4 := Tryz.underlying4
  a4 := Tryz.isAgg4
  z4 := Tryz.sizeOf4
  v4 := Tryz.zeroValue4
  t22 := Tryz.underlying39
  a22 := Tryz.isAgg39
  z22 := Tryz.sizeOf39
  v22 := Tryz.zeroValue39 }
def Tryz.cloneClk_ren : Go.Shelf.Ren := ⟨fun | 41 => 100 | n => n, fun | 22 => 50 | 23 => 78 | 4 => 4 | n => n, fun | n => n⟩
theorem Tryz.cloneClk : Go.Proofs.SlLaysE0.n41 Tryz.prog Tryz.cloneClk_ren := {
  mixed := by kernel_rfl
  f41 := ⟨Tryz.f100.name, by decide, Tryz.func100.trans (congrArg some (by kernel_rfl))⟩
  t4 := Tryz.underlying4
  a4 := Tryz.isAgg4
  z4 := Tryz.sizeOf4
  v4 := Tryz.zeroValue4
  t22 := Tryz.underlying50
  a22 := Tryz.isAgg50
  z22 := Tryz.sizeOf50
  v22 := Tryz.zeroValue50 }
def Tryz.cloneRng_ren : Go.Shelf.Ren := ⟨fun | 41 => 67 | n => n, fun | 22 => 65 | 23 => 95 | 4 => 4 | n => n, fun | n => n⟩
theorem Tryz.cloneRng : Go.Proofs.SlLaysE0.n41 Tryz.prog Tryz.cloneRng_ren := {
  mixed := by kernel_rfl
  f41 := ⟨Tryz.f67.name, by decide, Tryz.func67.trans (congrArg some (by kernel_rfl))⟩
  t4 := Tryz.underlying4
  a4 := Tryz.isAgg4
  z4 := Tryz.sizeOf4
  v4 := Tryz.zeroValue4
  t22 := Tryz.underlying65
  a22 := Tryz.isAgg65
  z22 := Tryz.sizeOf65
  v22 := Tryz.zeroValue65 }
def Tryz.cloneTurn_ren : Go.Shelf.Ren := ⟨fun | 41 => 97 | n => n, fun | 22 => 40 | 23 => 54 | 4 => 4 | n => n, fun | n => n⟩
theorem Tryz.cloneTurn : Go.Proofs.SlLaysE0.n41 Tryz.prog Tryz.cloneTurn_ren := {
  mixed := by kernel_rfl
  f41 := ⟨Tryz.f97.name, by decide, Tryz.func97.trans (congrArg some (by kernel_rfl))⟩
  t4 := Tryz.underlying4
  a4 := Tryz.isAgg4
  z4 := Tryz.sizeOf4
  v4 := Tryz.zeroValue4
  t22 := Tryz.underlying40
  a22 := Tryz.isAgg40
  z22 := Tryz.sizeOf40
  v22 := Tryz.zeroValue40 }
def Tryz.insClk_ren : Go.Shelf.Ren := ⟨fun | 20 => 177 | n => n, fun | 24 => 78 | 22 => 50 | 3 => 3 | 25 => 166 | 4 => 4 | 0 => 0 | n => n, fun | n => n⟩
theorem Tryz.insClk : Go.Proofs.SlLaysF0.n20 Tryz.prog Tryz.insClk_ren := {
  mixed := by kernel_rfl
  f20 := ⟨Tryz.f177.name, by decide, Tryz.func177.trans (congrArg some (by kernel_rfl))⟩
  t0 := Tryz.underlying0
  a0 := Tryz.isAgg0
  z0 := Tryz.sizeOf0
  v0 := Tryz.zeroValue0
  t3 := Tryz.underlying3
  a3 := Tryz.isAgg3
  z3 := Tryz.sizeOf3
  v3 := Tryz.zeroValue3
  t4 := Tryz.underlying4
  a4 := Tryz.isAgg4
  z4 := Tryz.sizeOf4
  v4 := Tryz.zeroValue4
  t22 := Tryz.underlying50
  a22 := Tryz.isAgg50
  z22 := Tryz.sizeOf50
  v22 := Tryz.zeroValue50
  t25 := Tryz.underlying166
  a25 := Tryz.isAgg166
  z25 := Tryz.sizeOf166
  v25 := Tryz.zeroValue166 }
def Tryz.runeCount_ren : Go.Shelf.Ren := ⟨fun | 195 => 93 | n => n, fun | 9 => 9 | 3 => 3 | 0 => 0 | 4 => 4 | n => n, fun | n => n⟩
theorem Tryz.runeCount : Go.Proofs.Lays.n195 Tryz.prog Tryz.runeCount_ren := {
  mixed := by kernel_rfl
  f195 := Tryz.func93.trans (congrArg some (by kernel_rfl))
  t0 := Tryz.underlying0
  a0 := Tryz.isAgg0
  z0 := Tryz.sizeOf0
  v0 := Tryz.zeroValue0
  t3 := Tryz.underlying3
  a3 := Tryz.isAgg3
  z3 := Tryz.sizeOf3
  v3 := Tryz.zeroValue3
  t4 := Tryz.underlying4
  a4 := Tryz.isAgg4
  z4 := Tryz.sizeOf4
  v4 := Tryz.zeroValue4
  t9 := Tryz.underlying9
  a9 := Tryz.isAgg9
  z9 := Tryz.sizeOf9
  v9 := Tryz.zeroValue9 }
def Tryz.valid_ren : Go.Shelf.Ren := ⟨fun | 196 => 92 | 259 => 136 | n => n, fun | 9 => 9 | 4 => 4 | 3 => 3 | 5 => 5 | 12 => 12 | 119 => 198 | 0 => 0 | 46 => 191 | 139 => 201 | 138 => 200 | 53 => 26 | n => n, fun | 3 => 1 | 4 => 2 | n => n⟩
theorem Tryz.valid : Go.Proofs.Lays.n196 Tryz.prog Tryz.valid_ren := {
  mixed := by kernel_rfl
  f196 := Tryz.func92.trans (congrArg some (by kernel_rfl))
  f259 := Tryz.func136.trans (congrArg some (by kernel_rfl))
  t0 := Tryz.underlying0
  a0 := Tryz.isAgg0
  z0 := Tryz.sizeOf0
  v0 := Tryz.zeroValue0
  t3 := Tryz.underlying3
  a3 := Tryz.isAgg3
  z3 := Tryz.sizeOf3
  v3 := Tryz.zeroValue3
  t4 := Tryz.underlying4
  a4 := Tryz.isAgg4
  z4 := Tryz.sizeOf4
  v4 := Tryz.zeroValue4
  t5 := Tryz.underlying5
  a5 := Tryz.isAgg5
  z5 := Tryz.sizeOf5
  v5 := Tryz.zeroValue5
  t9 := Tryz.underlying9
  a9 := Tryz.isAgg9
  z9 := Tryz.sizeOf9
  v9 := Tryz.zeroValue9
  t12 := Tryz.underlying12
  a12 := Tryz.isAgg12
  z12 := Tryz.sizeOf12
  v12 := Tryz.zeroValue12
  t46 := Tryz.underlying191
  a46 := Tryz.isAgg191
  z46 := Tryz.sizeOf191
  v46 := Tryz.zeroValue191
  t53 := Tryz.underlying26
  a53 := Tryz.isAgg26
  z53 := Tryz.sizeOf26
  v53 := Tryz.zeroValue26
  t119 := Tryz.underlying198
  a119 := Tryz.isAgg198
  z119 := Tryz.sizeOf198
  t138 := Tryz.underlying200
  a138 := Tryz.isAgg200
  z138 := Tryz.sizeOf200
  v138 := Tryz.zeroValue200
  t139 := Tryz.underlying201
  a139 := Tryz.isAgg201
  z139 := Tryz.sizeOf201
  v139 := Tryz.zeroValue201
  g3 := by kernel_rfl
  g4 := by kernel_rfl }
def Tryz.strCmp_ren : Go.Shelf.Ren := ⟨fun | 106 => 182 | 213 => 204 | 265 => 213 | n => n, fun | 9 => 9 | 3 => 3 | n => n, fun | n => n⟩
theorem Tryz.strCmp : Go.Proofs.Lays.n106 Tryz.prog Tryz.strCmp_ren := {
  mixed := by kernel_rfl
  f106 := Tryz.func182.trans (congrArg some (by kernel_rfl))
  f213 := Tryz.func204.trans (congrArg some (by kernel_rfl))
  f265 := Tryz.func213.trans (congrArg some (by kernel_rfl))
  t3 := Tryz.underlying3
  a3 := Tryz.isAgg3
  z3 := Tryz.sizeOf3
  v3 := Tryz.zeroValue3
  t9 := Tryz.underlying9
  a9 := Tryz.isAgg9
  z9 := Tryz.sizeOf9
  v9 := Tryz.zeroValue9 }
end Go.Proofs
