/- Plain: who wins, whatever the order in which sets came; the view, whatever that order; how long a view's text is. -/
import Derived.Test.YteadongdlacgmaaMapsWf
namespace Go.Proofs.Yteadongdlacgmaa

theorem From.at {ops : List QOp} (h : MWf ops) {j : Nat} {o : QOp} (hj : ops[j]? = some o) : From ops (j + 1) o.id := fun m q hq hqp => by
  rcases h.par m q hq with e2 | ⟨n, x, hn, hx, e2⟩
  · exact absurd (hqp ▸ e2) (h.nz o (List.mem_of_getElem? hj))
  · have := h.once n j x o hx hj (by rw [e2, hqp])
    omega

theorem lessB_irr (x : QOp) : x.lessB x = false := by simp [QOp.lessB, QId.lessB]
theorem lessB_trans {x y z : QOp} (h : x.lessB y = true) (g : y.lessB z = true) : x.lessB z = true := by
  simp only [QOp.lessB, QId.lessB, Bool.or_eq_true, Bool.and_eq_true, decide_eq_true_eq] at h g ⊢
  omega
theorem lessB_total {x y : QOp} (h : x.lessB y = false) (g : y.lessB x = false) : x.id = y.id := by
  simp only [QOp.lessB, QId.lessB, Bool.or_eq_false_iff, Bool.and_eq_false_iff, decide_eq_false_iff_not] at h g
  have : x.id.c = y.id.c ∧ x.id.k = y.id.k := by omega
  cases hx : x.id; cases hy : y.id
  simp_all
theorem lessB_asymm {x y : QOp} (h : x.lessB y = true) : y.lessB x = false := by
  cases g : y.lessB x
  · rfl
  · have := lessB_trans h g
    rw [lessB_irr] at this; cases this

/-- b is the one that wins among l. -/
def Wins (hid : List QRng) (l : List QOp) (b : QOp) : Prop := b ∈ l ∧ hasRngs hid b.id = false ∧ ∀ x ∈ l, hasRngs hid x.id = false → b.lessB x = false
theorem bestOp_from (hid : List QRng) : ∀ (l pre : List QOp) (b : Option QOp), (∀ x, b = some x → Wins hid pre x) → (b = none → ∀ x ∈ pre, hasRngs hid x.id = true) →
    (∀ x, l.foldl (pickOp hid) b = some x → Wins hid (pre ++ l) x) ∧ (l.foldl (pickOp hid) b = none → ∀ x ∈ pre ++ l, hasRngs hid x.id = true)
  | [], pre, b, h1, h2 => by simpa using ⟨h1, h2⟩
  | o :: l, pre, b, h1, h2 => by
    rw [List.foldl_cons, show pre ++ o :: l = (pre ++ [o]) ++ l by simp]
    apply bestOp_from hid l (pre ++ [o])
    · intro x hx
      unfold pickOp at hx
      cases hh : hasRngs hid o.id
      · rw [hh] at hx
        cases b with
        | none =>
          simp at hx; subst hx
          refine ⟨by simp, hh, fun y hy hy2 => ?_⟩
          rcases List.mem_append.1 hy with hy | hy
          · rw [h2 rfl y hy] at hy2; cases hy2
          · obtain rfl : y = o := by simpa using hy
            exact lessB_irr y
        | some b =>
          obtain ⟨w1, w2, w3⟩ := h1 b rfl
          simp only [Bool.false_eq_true, if_false] at hx
          cases hl : b.lessB o
          · rw [hl] at hx
            simp at hx; subst hx
            refine ⟨by simp [w1], w2, fun y hy hy2 => ?_⟩
            rcases List.mem_append.1 hy with hy | hy
            · exact w3 y hy hy2
            · obtain rfl : y = o := by simpa using hy
              exact hl
          · rw [hl] at hx
            simp at hx; subst hx
            refine ⟨by simp, hh, fun y hy hy2 => ?_⟩
            rcases List.mem_append.1 hy with hy | hy
            · cases hoy : o.lessB y
              · rfl
              · have := lessB_trans hl hoy
                rw [w3 y hy hy2] at this; cases this
            · obtain rfl : y = o := by simpa using hy
              exact lessB_irr y
      · rw [hh] at hx
        simp at hx
        obtain ⟨w1, w2, w3⟩ := h1 x hx
        refine ⟨by simp [w1], w2, fun y hy hy2 => ?_⟩
        rcases List.mem_append.1 hy with hy | hy
        · exact w3 y hy hy2
        · obtain rfl : y = o := by simpa using hy
          rw [hh] at hy2; cases hy2
    · intro hx x hxm
      unfold pickOp at hx
      cases hh : hasRngs hid o.id
      · rw [hh] at hx
        cases b with
        | none => simp at hx
        | some b => simp only [Bool.false_eq_true, if_false] at hx; split at hx <;> cases hx
      · rw [hh] at hx
        simp at hx
        rcases List.mem_append.1 hxm with hy | hy
        · exact h2 hx x hy
        · obtain rfl : x = o := by simpa using hy
          exact hh
theorem bestOp_wins {hid : List QRng} {l : List QOp} {b : QOp} (h : bestOp hid l = some b) : Wins hid l b := by
  have := (bestOp_from hid l [] none (by simp) (by simp)).1 b h
  simpa using this
theorem bestOp_none {hid : List QRng} {l : List QOp} (h : bestOp hid l = none) : ∀ x ∈ l, hasRngs hid x.id = true := by
  have := (bestOp_from hid l [] none (by simp) (by simp)).2 h
  simpa using this
theorem Wins.best {hid : List QRng} {l : List QOp} {b : QOp} (h : Wins hid l b) (hid1 : ∀ x ∈ l, x.id = b.id → x = b) : bestOp hid l = some b := by
  cases hb : bestOp hid l with
  | none => have := bestOp_none hb b h.1; rw [h.2.1] at this; cases this
  | some c =>
    have hc := bestOp_wins hb
    have := lessB_total (h.2.2 c hc.1 hc.2.1) (hc.2.2 b h.1 h.2.1)
    rw [hid1 c hc.1 this.symm]
theorem bestOp_all_hidden {hid : List QRng} {l : List QOp} (h : ∀ x ∈ l, hasRngs hid x.id = true) : bestOp hid l = none := by
  cases hb : bestOp hid l with
  | none => rfl
  | some c => have hc := bestOp_wins hb; have := h c hc.1; rw [hc.2.1] at this; cases this
/-- who wins hangs on which ones are there alone. -/
theorem bestOp_same {hid hid' : List QRng} {l l' : List QOp} (hh : ∀ i, hasRngs hid i = hasRngs hid' i) (hm : ∀ x, x ∈ l ↔ x ∈ l') (h1 : ∀ x ∈ l, ∀ y ∈ l, x.id = y.id → x = y) : bestOp hid l = bestOp hid' l' := by
  cases hb : bestOp hid l with
  | none => exact (bestOp_all_hidden fun x hx => by rw [← hh]; exact bestOp_none hb x ((hm x).2 hx)).symm
  | some b =>
    have hw := bestOp_wins hb
    have hw' : Wins hid' l' b := ⟨(hm b).1 hw.1, by rw [← hh]; exact hw.2.1, fun x hx hx2 => hw.2.2 x ((hm x).2 hx) (by rw [hh]; exact hx2)⟩
    exact (hw'.best fun x hx e => h1 x ((hm x).2 hx) b hw.1 e).symm

theorem MWf.inj {ops : List QOp} (h : MWf ops) : ∀ x ∈ ops, ∀ y ∈ ops, x.id = y.id → x = y := fun x hx y hy e => by
  obtain ⟨i, hi, e1⟩ := List.getElem_of_mem hx
  obtain ⟨j, hj, e2⟩ := List.getElem_of_mem hy
  have := h.once i j x y (by rw [List.getElem?_eq_getElem hi, e1]) (by rw [List.getElem?_eq_getElem hj, e2]) e
  subst this
  rw [← e1, ← e2]

theorem get_same {M N : QMaps} (hM : MWf M.ops) (hm : ∀ x, x ∈ M.ops ↔ x ∈ N.ops) (hh : ∀ i, hasRngs M.hidden i = hasRngs N.hidden i) (p : QId) (k : ByteArray) : M.get p k = N.get p k := by
  unfold QMaps.get
  rw [bestOp_same hh (l := opsAt M.ops p k) (l' := opsAt N.ops p k)]
  · intro x; unfold opsAt; simp [hm x]
  · intro x hx y hy e
    unfold opsAt at hx hy
    exact hM.inj x ((List.mem_filter.1 hx).1) y ((List.mem_filter.1 hy).1) e

theorem keysAt_nodup (p : QId) (l : List QOp) : (keysAt l p).Nodup := by
  unfold keysAt
  suffices h : ∀ (l : List QOp) (acc : List ByteArray), acc.Nodup → (l.foldl (fun (ks : List ByteArray) (o : QOp) => if o.parent = p ∧ (ks.any fun x => decide (x = o.key)) = false then ks ++ [o.key] else ks) acc).Nodup from h l [] List.nodup_nil
  intro l
  induction l with
  | nil => exact fun _ h => h
  | cons o l ih =>
    intro acc h
    rw [List.foldl_cons]
    apply ih
    split
    · next hc =>
      refine List.nodup_append.2 ⟨h, by simp, fun a ha b hb => ?_⟩
      obtain rfl : b = o.key := by simpa using hb
      rintro rfl
      have := List.any_eq_false.1 hc.2 _ ha
      simp at this
    · exact h

theorem keysAt_length (p : QId) (l : List QOp) : (keysAt l p).length ≤ l.length := by
  have : ∀ (l : List QOp) (acc : List ByteArray), (l.foldl (fun (ks : List ByteArray) (o : QOp) => if o.parent = p ∧ (ks.any fun x => decide (x = o.key)) = false then ks ++ [o.key] else ks) acc).length ≤ acc.length + l.length := by
    intro l
    induction l with
    | nil => intro acc; simp
    | cons o l ih =>
      intro acc
      rw [List.foldl_cons]
      refine Nat.le_trans (ih _) ?_
      split
      · simp; omega
      · simp
  have := this l []
  unfold keysAt
  simpa using this
theorem leBytes_total (x y : ByteArray) : (decide (x.data.toList ≤ y.data.toList) || decide (y.data.toList ≤ x.data.toList)) = true := by
  rcases List.le_total x.data.toList y.data.toList with h | h <;> simp [h]
theorem leBytes_trans (x y z : ByteArray) (h : decide (x.data.toList ≤ y.data.toList) = true) (g : decide (y.data.toList ≤ z.data.toList) = true) : decide (x.data.toList ≤ z.data.toList) = true := by
  simp only [decide_eq_true_eq] at *
  exact List.le_trans h g
theorem sortKeys_perm (ks : List ByteArray) : (sortKeys ks).Perm ks := List.mergeSort_perm _ _
theorem sortKeys_sorted (ks : List ByteArray) : (sortKeys ks).Pairwise fun x y => decide (x.data.toList ≤ y.data.toList) = true :=
  List.pairwise_mergeSort (fun a b c => leBytes_trans a b c) leBytes_total ks
theorem sortKeys_same {a b : List ByteArray} (ha : a.Nodup) (hb : b.Nodup) (h : ∀ x, x ∈ a ↔ x ∈ b) : sortKeys a = sortKeys b := by
  have hp : (sortKeys a).Perm (sortKeys b) := (sortKeys_perm a).trans (((List.perm_ext_iff_of_nodup ha hb).2 h).trans (sortKeys_perm b).symm)
  refine hp.eq_of_pairwise (le := fun x y => decide (x.data.toList ≤ y.data.toList) = true) (fun x y _ _ h1 h2 => ?_) (sortKeys_sorted a) (sortKeys_sorted b)
  simp only [decide_eq_true_eq] at h1 h2
  have := List.le_antisymm h1 h2
  exact ByteArray.ext (Array.toList_inj.1 this)

theorem mem_keysAt_iff2 {l : List QOp} {p : QId} {k : ByteArray} : k ∈ keysAt l p ↔ ∃ o ∈ l, o.parent = p ∧ o.key = k := by
  rw [mem_keysAt_iff, opsAt_ne]
theorem keys_same {l l' : List QOp} (hm : ∀ x, x ∈ l ↔ x ∈ l') (p : QId) : sortKeys (keysAt l p) = sortKeys (keysAt l' p) :=
  sortKeys_same (keysAt_nodup p l) (keysAt_nodup p l') fun x => by rw [mem_keysAt_iff2, mem_keysAt_iff2]; simp [hm]

theorem viewN_same {M N : QMaps} (hM : MWf M.ops) (hm : ∀ x, x ∈ M.ops ↔ x ∈ N.ops) (hh : ∀ i, hasRngs M.hidden i = hasRngs N.hidden i) : ∀ (n : Nat) (p : QId), M.viewN n p = N.viewN n p
  | 0, _ => rfl
  | n + 1, p => by
    unfold QMaps.viewN
    rw [keys_same hm p]
    congr 1
    funext k
    rw [get_same hM hm hh p k]
    cases N.get p k with
    | none => rfl
    | some o => simp only [viewN_same hM hm hh n o.id]
end Go.Proofs.Yteadongdlacgmaa
