/- Plain: sets that came one by one: no set is in a map of its own or of a later one; so the depth of a map is bounded. -/
import Derived.Test.YteadongdlacgmaaMapsLaw
namespace Go.Proofs.Yteadongdlacgmaa

/-- each set's map is the root or of an earlier set; ids once each. -/
structure MWf (ops : List QOp) : Prop where
  par : ∀ (i : Nat) o, ops[i]? = some o → o.parent = idZero ∨ ∃ (j : Nat) (q : QOp), j < i ∧ ops[j]? = some q ∧ q.id = o.parent
  nz : ∀ o ∈ ops, o.id ≠ idZero
  once : ∀ (i j : Nat) o q, ops[i]? = some o → ops[j]? = some q → o.id = q.id → i = j

theorem MWf.nil : MWf [] := ⟨by simp, by simp, by simp⟩

theorem at_some {M : QMaps} {i : QId} {o : QOp} (h : M.at_ i = some o) : o ∈ M.ops ∧ o.id = i :=
  ⟨List.mem_of_find?_eq_some h, by simpa using List.find?_some h⟩
theorem has_false {M : QMaps} {i : QId} (h : M.has i = false) : ∀ o ∈ M.ops, o.id ≠ i := by
  unfold QMaps.has QMaps.at_ at h
  simpa using h
theorem clean_id (o : QOp) : o.clean.id = o.id := rfl

theorem MWf.snoc {M : QMaps} {o : QOp} (h : MWf M.ops) (hs : M.setB o = true) : MWf (M.ops ++ [o.clean]) := by
  simp only [QMaps.setB, Bool.and_eq_true, decide_eq_true_eq, Bool.not_eq_true'] at hs
  obtain ⟨⟨⟨h4, hr⟩, hno⟩, hm⟩ := hs
  have hno' := has_false hno
  refine ⟨?_, ?_, ?_⟩
  · intro i q hq
    by_cases hi : i < M.ops.length
    · rw [List.getElem?_append_left hi] at hq
      rcases h.par i q hq with e | ⟨j, x, hj, hx, e⟩
      · exact .inl e
      · exact .inr ⟨j, x, hj, by rw [List.getElem?_append_left (by omega)]; exact hx, e⟩
    · have hi2 : i = M.ops.length := by
        have := (List.getElem?_eq_some_iff.1 hq).1
        simp at this; omega
      subst hi2
      obtain rfl : o.clean = q := by simpa using hq
      unfold QMaps.isMap at hm
      by_cases hz : o.parent = idZero
      · exact .inl hz
      · right
        cases ha : M.at_ o.parent with
        | none => rw [ha] at hm; simp [hz] at hm
        | some x =>
          obtain ⟨hx, he⟩ := at_some ha
          obtain ⟨j, hj, e⟩ := List.getElem_of_mem hx
          exact ⟨j, x, hj, by rw [List.getElem?_append_left hj, List.getElem?_eq_getElem hj, e], he⟩
  · intro q hq
    rcases List.mem_append.1 hq with hq | hq
    · exact h.nz q hq
    · obtain rfl : q = o.clean := by simpa using hq
      intro e
      have e2 : o.id = idZero := e
      rw [e2] at hr
      simp [QId.rightB, numB, idZero] at hr
  · intro i j a b ha hb e
    by_cases hi : i < M.ops.length
    · rw [List.getElem?_append_left hi] at ha
      by_cases hj : j < M.ops.length
      · rw [List.getElem?_append_left hj] at hb
        exact h.once i j a b ha hb e
      · have hj2 : j = M.ops.length := by
          have := (List.getElem?_eq_some_iff.1 hb).1
          simp at this; omega
        subst hj2
        obtain rfl : o.clean = b := by simpa using hb
        exact absurd e (hno' a (List.mem_of_getElem? ha))
    · have hi2 : i = M.ops.length := by
        have := (List.getElem?_eq_some_iff.1 ha).1
        simp at this; omega
      subst hi2
      obtain rfl : o.clean = a := by simpa using ha
      by_cases hj : j < M.ops.length
      · rw [List.getElem?_append_left hj] at hb
        exact absurd e.symm (hno' b (List.mem_of_getElem? hb))
      · have := (List.getElem?_eq_some_iff.1 hb).1
        simp at this; omega

/-- all sets in the map p come from place i on. -/
def From (ops : List QOp) (i : Nat) (p : QId) : Prop := ∀ (j : Nat) q, ops[j]? = some q → q.parent = p → i ≤ j
theorem From.zero (ops : List QOp) (p : QId) : From ops 0 p := fun _ _ _ _ => Nat.zero_le _

theorem mem_bestOp (hid : List QRng) : ∀ (l : List QOp) (b : Option QOp) (o : QOp), l.foldl (pickOp hid) b = some o → b = some o ∨ o ∈ l
  | [], b, o, h => .inl h
  | x :: l, b, o, h => by
    rw [List.foldl_cons] at h
    rcases mem_bestOp hid l _ o h with h1 | h1
    · unfold pickOp at h1
      split at h1
      · exact .inl h1
      · cases b with
        | none => right; simp at h1; simp [h1]
        | some y =>
          simp only at h1
          split at h1
          · right; simp at h1; simp [h1]
          · exact .inl h1
    · exact .inr (List.mem_cons_of_mem _ h1)
theorem mem_get {M : QMaps} {p : QId} {k : ByteArray} {o : QOp} (h : M.get p k = some o) : o ∈ M.ops ∧ o.parent = p ∧ o.key = k ∧ o.v.kind ≠ 0 := by
  unfold QMaps.get seen at h
  cases hb : bestOp M.hidden (opsAt M.ops p k) with
  | none => rw [hb] at h; cases h
  | some x =>
    rw [hb] at h
    simp only at h
    split at h
    · cases h
    · next hk =>
      cases h
      rcases mem_bestOp _ _ _ _ hb with h1 | h1
      · cases h1
      · unfold opsAt at h1
        simp at h1
        exact ⟨h1.1, h1.2.1, h1.2.2, hk⟩
theorem From.kid {M : QMaps} (h : MWf M.ops) {i : Nat} {p : QId} (hf : From M.ops i p) {k : ByteArray} {o : QOp} (hg : M.get p k = some o) : i < M.ops.length ∧ From M.ops (i + 1) o.id := by
  obtain ⟨ho, hp, _, _⟩ := mem_get hg
  obtain ⟨j, hj, e⟩ := List.getElem_of_mem ho
  have hj2 : M.ops[j]? = some o := by rw [List.getElem?_eq_getElem hj, e]
  have hij := hf j o hj2 hp
  refine ⟨by omega, fun m q hq hqp => ?_⟩
  rcases h.par m q hq with e2 | ⟨n, x, hn, hx, e2⟩
  · exact absurd (hqp ▸ e2) (h.nz o ho)
  · have := h.once n j x o hx hj2 (by rw [e2, hqp])
    omega

def viewOne (M : QMaps) (kids : QId → List QEntry) (p : QId) (k : ByteArray) : Option QEntry := match M.get p k with
  | some o => some (.mk k o.v.clean (if o.v.kind = 5 then kids o.id else []))
  | none => none
def viewWith (M : QMaps) (kids : QId → List QEntry) (p : QId) : List QEntry := (sortKeys (keysAt M.ops p)).filterMap (viewOne M kids p)
theorem viewWith_viewN (M : QMaps) (n : Nat) (p : QId) : viewWith M (M.viewN n) p = M.viewN (n + 1) p := rfl

/-- all that is in a map M: depth bounded by the number of sets. -/
def QMaps.view (M : QMaps) : List QEntry := M.viewN (M.ops.length + 1) idZero
end Go.Proofs.Yteadongdlacgmaa
