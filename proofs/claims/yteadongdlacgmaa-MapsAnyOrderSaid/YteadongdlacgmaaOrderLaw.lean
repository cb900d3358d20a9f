/- Plain: sets that can come one after the other: in whichever order they come, each one's map ahead of it. -/
import Derived.Test.YteadongdlacgmaaNestLaw
namespace Go.Proofs.Yteadongdlacgmaa

def growV (n i : Nat) : QVal := if n / 1024 % 4 = 0 then kMap else if n / 1024 % 4 = 1 then ⟨0, 0, 0, ⟨#[]⟩⟩ else ⟨2, i, 0, ⟨#[]⟩⟩
def growOp (ins : List QId) (n i : Nat) : QOp := { mkOp ((i : Int) + 1) (1 + (n : Int) / 64 % 5) (ins.getD (n % ins.length) idZero) (abcAt ((n / 4 : Nat) : Int)) (growV n i) with id := ⟨1 + (n : Int) / 16 % 3, (i : Int) + 1⟩ }
/-- what is grown, and the maps that are there, after j numbers. -/
def growS (zs : List Int) : Nat → List QOp × List QId
  | 0 => ([], [idZero])
  | j + 1 => ((growS zs j).1 ++ [growOp (growS zs j).2 (zs.getD j 0).toNat j], if (zs.getD j 0).toNat / 1024 % 4 = 0 then (growS zs j).2 ++ [(growOp (growS zs j).2 (zs.getD j 0).toNat j).id] else (growS zs j).2)

structure Grown (l : List QOp) : Prop where
  idk : ∀ (i : Nat) o, l[i]? = some o → o.id.k = (i : Int) + 1
  good : ∀ o ∈ l, o.kind = 4 ∧ o.id.rightB = true ∧ o.clean = o ∧ o.key.size ≤ 1 ∧ (o.v.kind ≠ 0 → o.v.plainB = true)
  par : ∀ (i : Nat) o, l[i]? = some o → o.parent = idZero ∨ ∃ (j : Nat) (q : QOp), j < i ∧ l[j]? = some q ∧ q.id = o.parent ∧ q.v.kind = 5

theorem growV_f (n i : Nat) : (growV n i).f = 0 := by
  unfold growV
  split
  · rfl
  · split <;> rfl
theorem growV_plain (n i : Nat) (hi : i ≤ 1000) : (growV n i).kind ≠ 0 → (growV n i).plainB = true := by
  unfold growV
  split
  · exact fun _ => by decide
  · split
    · exact fun h => absurd rfl h
    · intro _; simp [QVal.plainB]; omega
theorem growOp_good (ins : List QId) (n i : Nat) (hi : i ≤ 1000) : (growOp ins n i).kind = 4 ∧ (growOp ins n i).id.rightB = true ∧ (growOp ins n i).clean = growOp ins n i ∧ (growOp ins n i).key.size ≤ 1 ∧ ((growOp ins n i).v.kind ≠ 0 → (growOp ins n i).v.plainB = true) := by
  refine ⟨rfl, ?_, ?_, ?_, growV_plain n i hi⟩
  · show (numB (1 + (n : Int) / 16 % 3) && numB ((i : Int) + 1)) = true
    simp [numB]; omega
  · unfold QOp.clean growOp mkOp
    simp only [clean_of (growV_f n i)]
  · show (abcAt _).size ≤ 1
    unfold abcAt
    split
    · decide
    · split <;> decide
theorem Grown.snoc {l : List QOp} (h : Grown l) {o : QOp} (hk : o.id.k = (l.length : Int) + 1) (hg : o.kind = 4 ∧ o.id.rightB = true ∧ o.clean = o ∧ o.key.size ≤ 1 ∧ (o.v.kind ≠ 0 → o.v.plainB = true))
    (hp : o.parent = idZero ∨ ∃ q ∈ l, q.id = o.parent ∧ q.v.kind = 5) : Grown (l ++ [o]) := by
  refine ⟨fun i x hx => ?_, fun x hx => ?_, fun i x hx => ?_⟩
  · by_cases hi : i < l.length
    · rw [List.getElem?_append_left hi] at hx
      exact h.idk i x hx
    · have hi2 : i = l.length := by
        have := (List.getElem?_eq_some_iff.1 hx).1
        simp at this; omega
      subst hi2
      obtain rfl : o = x := by simpa using hx
      exact hk
  · rcases List.mem_append.1 hx with hx | hx
    · exact h.good x hx
    · obtain rfl : x = o := by simpa using hx
      exact hg
  · by_cases hi : i < l.length
    · rw [List.getElem?_append_left hi] at hx
      rcases h.par i x hx with e | ⟨j, q, hj, hq, e⟩
      · exact .inl e
      · exact .inr ⟨j, q, hj, by rw [List.getElem?_append_left (by omega)]; exact hq, e⟩
    · have hi2 : i = l.length := by
        have := (List.getElem?_eq_some_iff.1 hx).1
        simp at this; omega
      subst hi2
      obtain rfl : o = x := by simpa using hx
      rcases hp with e | ⟨q, hq, e⟩
      · exact .inl e
      · obtain ⟨j, hj, ej⟩ := List.getElem_of_mem hq
        exact .inr ⟨j, q, hj, by rw [List.getElem?_append_left hj, List.getElem?_eq_getElem hj, ej], e⟩
theorem growS_inv (zs : List Int) : ∀ j, j ≤ 1000 → Grown (growS zs j).1 ∧ (growS zs j).1.length = j ∧ (growS zs j).2 ≠ [] ∧ (growS zs j).2.length ≤ j + 1 ∧ ∀ p ∈ (growS zs j).2, p = idZero ∨ ∃ q ∈ (growS zs j).1, q.id = p ∧ q.v.kind = 5
  | 0, _ => ⟨⟨by simp [growS], by simp [growS], by simp [growS]⟩, rfl, by simp [growS], by simp [growS], by simp [growS]⟩
  | j + 1, hj => by
    obtain ⟨h1, h2, h3, h3', h4⟩ := growS_inv zs j (by omega)
    generalize hs : growS zs j = s at h1 h2 h3 h3' h4
    obtain ⟨out, ins⟩ := s
    simp only at h1 h2 h3 h3' h4
    have hpar : (growOp ins (zs.getD j 0).toNat j).parent ∈ ins := by
      show ins.getD _ idZero ∈ ins
      have hl : 0 < ins.length := List.length_pos_iff.2 h3
      have := Nat.mod_lt (zs.getD j 0).toNat hl
      rw [List.getD, List.getElem?_eq_getElem this]
      exact List.getElem_mem this
    have hg := h1.snoc (o := growOp ins (zs.getD j 0).toNat j) (by rw [h2]; rfl) (growOp_good _ _ _ (by omega)) (h4 _ hpar)
    refine ⟨by simpa [growS, hs] using hg, by simp [growS, hs, h2], ?_, ?_, ?_⟩
    · simp only [growS, hs]
      split
      · simp
      · exact h3
    · simp only [growS, hs]
      split
      · simp; omega
      · omega
    · simp only [growS, hs]
      intro p hp
      have old : p ∈ ins → p = idZero ∨ ∃ q ∈ out ++ [growOp ins (zs.getD j 0).toNat j], q.id = p ∧ q.v.kind = 5 := fun hp => by
        rcases h4 p hp with e | ⟨q, hq, e⟩
        · exact .inl e
        · exact .inr ⟨q, List.mem_append_left _ hq, e⟩
      split at hp
      · rename_i h0
        rcases List.mem_append.1 hp with hp | hp
        · exact old hp
        · obtain rfl : p = _ := by simpa using hp
          refine .inr ⟨_, List.mem_append_right _ (List.mem_singleton.2 rfl), rfl, ?_⟩
          show (growV _ _).kind = 5
          unfold growV
          rw [if_pos h0]
          rfl
      · exact old hp

theorem Grown.inj {l : List QOp} (h : Grown l) {x y : QOp} (hx : x ∈ l) (hy : y ∈ l) (e : x.id = y.id) : x = y := by
  obtain ⟨i, hi, rfl⟩ := List.getElem_of_mem hx
  obtain ⟨j, hj, rfl⟩ := List.getElem_of_mem hy
  have h1 := h.idk i _ (List.getElem?_eq_getElem hi)
  have h2 := h.idk j _ (List.getElem?_eq_getElem hj)
  have : i = j := by rw [e] at h1; omega
  subst this
  rfl
theorem Grown.isMap {l : List QOp} (h : Grown l) {B : List QOp} (hid : List QRng) (hB : ∀ x ∈ B, x ∈ l) {q : QOp} (hq : q ∈ B) (h5 : q.v.kind = 5) : QMaps.isMap ⟨B, hid⟩ q.id = true := by
  unfold QMaps.isMap
  have hs : (QMaps.at_ ⟨B, hid⟩ q.id).isSome = true := by
    unfold QMaps.at_
    rw [List.find?_isSome]
    exact ⟨q, hq, by simp⟩
  cases ha : QMaps.at_ ⟨B, hid⟩ q.id with
  | none => rw [ha] at hs; cases hs
  | some x =>
    obtain ⟨hx, he⟩ := at_some ha
    obtain rfl := h.inj (hB _ hx) (hB _ hq) he
    simp [h5, (h.good x (hB _ hx)).1]
theorem Grown.setB {l : List QOp} (h : Grown l) {B : List QOp} (hid : List QRng) (hB : ∀ x ∈ B, x ∈ l) {o : QOp} (ho : o ∈ l) (hn : o ∉ B) (hm : QMaps.isMap ⟨B, hid⟩ o.parent = true) : QMaps.setB ⟨B, hid⟩ o = true := by
  have h1 : QMaps.has ⟨B, hid⟩ o.id = false := by
    cases hh : QMaps.has ⟨B, hid⟩ o.id with
    | false => rfl
    | true =>
      unfold QMaps.has QMaps.at_ at hh
      rw [List.find?_isSome] at hh
      obtain ⟨x, hx, he⟩ := hh
      exact absurd (h.inj (hB x hx) ho (of_decide_eq_true he) ▸ hx) hn
  obtain ⟨g1, g2, _⟩ := h.good o ho
  simp [QMaps.setB, h1, hm, g1, g2]
theorem Grown.set {l : List QOp} (h : Grown l) (B : List QOp) (hid : List QRng) {o : QOp} (ho : o ∈ l) : QMaps.set ⟨B, hid⟩ o = ⟨B ++ [o], hid⟩ := by
  unfold QMaps.set
  rw [(h.good o ho).2.2.1]
/-- some set that is left can come. -/
theorem Grown.next {l : List QOp} (h : Grown l) (hid : List QRng) {B left : List QOp} (hp : (B ++ left).Perm l) : ∀ (i : Nat) (o : QOp), l[i]? = some o → o ∈ left → ∃ q ∈ left, QMaps.isMap ⟨B, hid⟩ q.parent = true := by
  intro i
  induction i using Nat.strongRecOn with
  | _ i ih =>
    intro o ho hl
    rcases h.par i o ho with e | ⟨j, q, hj, hq, e, h5⟩
    · exact ⟨o, hl, by unfold QMaps.isMap; simp [e]⟩
    · rcases List.mem_append.1 (hp.mem_iff.2 (List.mem_of_getElem? hq)) with hb | hb
      · exact ⟨o, hl, by rw [← e]; exact h.isMap hid (fun x hx => hp.mem_iff.1 (List.mem_append_left _ hx)) hb h5⟩
      · exact ih j hj q hq hb
theorem Grown.able {l : List QOp} (h : Grown l) (hid : List QRng) {B left : List QOp} (hp : (B ++ left).Perm l) (hne : 0 < left.length) : ∃ (k : Nat) (o : QOp), left[k]? = some o ∧ QMaps.isMap ⟨B, hid⟩ o.parent = true := by
  have hm : left[0] ∈ left := List.getElem_mem hne
  obtain ⟨i, hi, e⟩ := List.getElem_of_mem (hp.mem_iff.1 (List.mem_append_right B hm))
  obtain ⟨q, hq, hq2⟩ := h.next hid hp i left[0] (by rw [List.getElem?_eq_getElem hi, e]) hm
  obtain ⟨k, hk, rfl⟩ := List.getElem_of_mem hq
  exact ⟨k, _, List.getElem?_eq_getElem hk, hq2⟩
theorem Grown.nodup {l : List QOp} (h : Grown l) : l.Nodup := by
  rw [List.nodup_iff_pairwise_ne, List.pairwise_iff_getElem]
  intro i j hi hj hij e
  have h1 := h.idk i _ (List.getElem?_eq_getElem hi)
  have h2 := h.idk j _ (List.getElem?_eq_getElem hj)
  rw [e] at h1
  omega
/-- one that is left, and whose map is there, comes. -/
theorem Grown.come {l : List QOp} (h : Grown l) (hid : List QRng) {B left : List QOp} (hp : (B ++ left).Perm l) {k : Nat} {o : QOp} (hk : left[k]? = some o) (hm : QMaps.isMap ⟨B, hid⟩ o.parent = true) :
    QMaps.setB ⟨B, hid⟩ o = true ∧ QMaps.set ⟨B, hid⟩ o = ⟨B ++ [o], hid⟩ ∧ ((B ++ [o]) ++ (left.take k ++ left.drop (k + 1))).Perm l := by
  have hol : o ∈ left := List.mem_of_getElem? hk
  have ho : o ∈ l := hp.mem_iff.1 (List.mem_append_right _ hol)
  have hn : o ∉ B := fun hb => (List.nodup_append.1 (hp.nodup_iff.2 h.nodup)).2.2 o hb o hol rfl
  refine ⟨h.setB hid (fun x hx => hp.mem_iff.1 (List.mem_append_left _ hx)) ho hn hm, h.set B hid ho, ?_⟩
  refine List.Perm.trans ?_ hp
  rw [List.append_assoc]
  refine List.Perm.append_left B ?_
  have hkl := (List.getElem?_eq_some_iff.1 hk)
  obtain ⟨hlt, he⟩ := hkl
  have e : left = left.take k ++ o :: left.drop (k + 1) := by
    rw [← he, List.getElem_cons_drop, List.take_append_drop]
  conv => rhs; rw [e]
  exact (List.perm_middle (a := o) (l₁ := left.take k) (l₂ := left.drop (k + 1))).symm
/-- the sets in their own order. -/
theorem Grown.order {l : List QOp} (h : Grown l) (hid : List QRng) {i : Nat} {o : QOp} (hi : l[i]? = some o) : QMaps.setB ⟨l.take i, hid⟩ o = true ∧ QMaps.set ⟨l.take i, hid⟩ o = ⟨l.take (i + 1), hid⟩ := by
  have hp : (l.take i ++ l.drop i).Perm l := by rw [List.take_append_drop]
  obtain ⟨hlt, he⟩ := List.getElem?_eq_some_iff.1 hi
  have hm : QMaps.isMap ⟨l.take i, hid⟩ o.parent = true := by
    rcases h.par i o hi with e | ⟨j, q, hj, hq, e, h5⟩
    · unfold QMaps.isMap; simp [e]
    · rw [← e]
      exact h.isMap hid (fun x hx => List.mem_of_mem_take hx) (List.mem_of_getElem? (i := j) (by rw [List.getElem?_take_of_lt hj]; exact hq)) h5
  have hd : (l.drop i)[0]? = some o := by rw [List.getElem?_drop]; simpa using hi
  obtain ⟨h1, h2, _⟩ := h.come hid hp hd hm
  refine ⟨h1, ?_⟩
  rw [h2, ← he, List.take_append_getElem]
theorem Grown.wf {l : List QOp} (h : Grown l) : MWf l := by
  refine ⟨fun i o ho => ?_, fun o ho e => ?_, fun i j o q ho hq e => ?_⟩
  · rcases h.par i o ho with e | ⟨j, q, hj, hq, e, _⟩
    · exact .inl e
    · exact .inr ⟨j, q, hj, hq, e⟩
  · have := (h.good o ho).2.1
    rw [e] at this
    simp [QId.rightB, numB, idZero] at this
  · have h1 := h.idk i _ ho
    have h2 := h.idk j _ hq
    rw [e] at h1
    omega
/-- whatever the order, the same view. -/
theorem Grown.same {l B : List QOp} (h : Grown l) (hid : List QRng) (hp : B.Perm l) : QMaps.view ⟨l, hid⟩ = QMaps.view ⟨B, hid⟩ := by
  unfold QMaps.view
  rw [show (QMaps.mk B hid).ops.length = (QMaps.mk l hid).ops.length from hp.length_eq]
  exact viewN_same (M := ⟨l, hid⟩) (N := ⟨B, hid⟩) h.wf (fun x => hp.mem_iff.symm) (fun _ => rfl) _ _
/-- round and round: one step nearer. -/
theorem round_nearer {at' k n : Nat} (ha : at' < n) (hk : k < n) (hne : at' ≠ k) : (k + n - (at' + 1) % n) % n < (k + n - at') % n := by
  by_cases hl : at' + 1 = n
  · rw [hl, Nat.mod_self, Nat.sub_zero, Nat.add_mod_right, Nat.mod_eq_of_lt hk, show k + n - at' = k + 1 by omega, Nat.mod_eq_of_lt (by omega)]
    omega
  · rw [Nat.mod_eq_of_lt (by omega : at' + 1 < n)]
    by_cases hlt : at' < k
    · rw [show k + n - (at' + 1) = (k - at' - 1) + n by omega, show k + n - at' = (k - at') + n by omega, Nat.add_mod_right, Nat.add_mod_right, Nat.mod_eq_of_lt (by omega), Nat.mod_eq_of_lt (by omega)]
      omega
    · rw [Nat.mod_eq_of_lt (by omega), Nat.mod_eq_of_lt (by omega)]
      omega
theorem Grown.text_ok {l : List QOp} (h : Grown l) (hid : List QRng) : entOk (QMaps.view ⟨l, hid⟩) = true := viewN_ok _ (fun o ho => ⟨by have := (h.good o ho).2.2.2.1; omega, fun hk => by
  rw [show o.v.clean = o.v from congrArg QOp.v (h.good o ho).2.2.1]
  exact (h.good o ho).2.2.2.2 hk⟩) _ _
theorem Grown.text_size {l : List QOp} (h : Grown l) (hid : List QRng) (hl : l.length ≤ 40) : (entText noB (QMaps.view ⟨l, hid⟩)).size ≤ 1000000000000000000 :=
  Nat.le_trans (view_size _ h.wf hl (fun o ho => by have := (h.good o ho).2.2.2.1; omega)) (by decide)
end Go.Proofs.Yteadongdlacgmaa
