/- Plain: of sets of one key the one that wins, whatever their NaNs. -/
import Derived.Test.YteadongdlacgmaaViewLaw
import Derived.Test.YteadongdlacgmaaRef5
namespace Go.Proofs.Yteadongdlacgmaa

def lastOp (zs : List Int) (vs : List QVal) (i : Nat) : QOp := kOp (zs.getD i 0 / 64 + 1) ((i : Int) + 1) (zs.getD i 0 % 6 + 1) (vs.getD i valZero)
def lastOps (zs : List Int) (vs : List QVal) (n : Nat) : List QOp := (List.range n).map (lastOp zs vs)
def lastM (zs : List Int) (vs : List QVal) (n : Nat) : QMaps := ⟨(lastOps zs vs n).map QOp.clean, []⟩

theorem lastOps_succ (zs : List Int) (vs : List QVal) (n : Nat) : lastOps zs vs (n + 1) = lastOps zs vs n ++ [lastOp zs vs n] := by simp [lastOps, List.range_succ]
theorem lastM_succ (zs : List Int) (vs : List QVal) (n : Nat) : lastM zs vs (n + 1) = (lastM zs vs n).set (lastOp zs vs n) := by
  simp [lastM, QMaps.set, lastOps_succ]
theorem lastM_length (zs : List Int) (vs : List QVal) (n : Nat) : (lastM zs vs n).ops.length = n := by simp [lastM, lastOps]
theorem mem_lastM {zs : List Int} {vs : List QVal} {n : Nat} {o : QOp} (h : o ∈ (lastM zs vs n).ops) : ∃ i, i < n ∧ o = (lastOp zs vs i).clean := by
  simp only [lastM, lastOps, List.mem_map, List.mem_range] at h
  obtain ⟨a, ⟨i, hi, rfl⟩, rfl⟩ := h
  exact ⟨i, hi, rfl⟩
theorem lastM_setB (zs : List Int) (vs : List QVal) (n : Nat) (hn : n ≤ 1000) (hz : 0 ≤ zs.getD n 0 ∧ zs.getD n 0 < 256) : (lastM zs vs n).setB (lastOp zs vs n) = true := by
  have h1 : (lastM zs vs n).has (lastOp zs vs n).id = false := by
    cases h : (lastM zs vs n).has (lastOp zs vs n).id with
    | false => rfl
    | true =>
      unfold QMaps.has QMaps.at_ at h
      rw [List.find?_isSome] at h
      obtain ⟨o, ho, he⟩ := h
      obtain ⟨i, hi, rfl⟩ := mem_lastM ho
      have e := of_decide_eq_true he
      have e2 : ((i : Int) + 1) = ((n : Int) + 1) := congrArg QId.k e
      omega
  have h2 : (lastOp zs vs n).id.rightB = true := by
    show (numB (zs.getD n 0 / 64 + 1) && numB ((n : Int) + 1)) = true
    generalize zs.getD n 0 = z at hz ⊢
    simp [numB]; omega
  have h3 : (lastM zs vs n).isMap (lastOp zs vs n).parent = true := by
    unfold QMaps.isMap; simp [lastOp, kOp]
  simp only [QMaps.setB, h1, h2, h3]
  rfl
theorem lastM_wf (zs : List Int) (vs : List QVal) : ∀ n, n ≤ 1000 → (∀ i, i < n → 0 ≤ zs.getD i 0 ∧ zs.getD i 0 < 256) → MWf (lastM zs vs n).ops
  | 0, _, _ => MWf.nil
  | n + 1, hn, hz => by
    rw [lastM_succ]
    exact (lastM_wf zs vs n (by omega) fun i hi => hz i (by omega)).snoc (lastM_setB zs vs n (by omega) (hz n (by omega)))

theorem lessB_clean (x y : QOp) : x.clean.lessB y.clean = x.lessB y := rfl
theorem bestOp_clean (l : List QOp) : bestOp [] (l.map QOp.clean) = (bestOp [] l).map QOp.clean := by
  unfold bestOp
  suffices h : ∀ (l : List QOp) (b : Option QOp), (l.map QOp.clean).foldl (pickOp []) (b.map QOp.clean) = (l.foldl (pickOp []) b).map QOp.clean from h l none
  intro l
  induction l with
  | nil => intro b; rfl
  | cons o l ih =>
    intro b
    rw [List.map_cons, List.foldl_cons, List.foldl_cons, ← ih]
    congr 1
    unfold pickOp
    simp only [hasRngs, List.any_nil, Bool.and_false, Bool.false_eq_true, if_false]
    cases b with
    | none => rfl
    | some b =>
      simp only [Option.map_some, lessB_clean]
      by_cases h : b.lessB o = true
      · simp [h]
      · simp [h]
theorem lastM_opsAt (zs : List Int) (vs : List QVal) (n : Nat) : opsAt (lastM zs vs n).ops idZero ⟨#[107]⟩ = (lastOps zs vs n).map QOp.clean := by
  unfold opsAt
  rw [List.filter_eq_self.2]
  · rfl
  · intro o ho
    obtain ⟨i, _, rfl⟩ := mem_lastM ho
    simp [lastOp, kOp, QOp.clean]
def lastBest (zs : List Int) (vs : List QVal) (n : Nat) : Option QOp := bestOp [] (lastOps zs vs n)
theorem lastBest_succ (zs : List Int) (vs : List QVal) (n : Nat) : lastBest zs vs (n + 1) = pickOp [] (lastBest zs vs n) (lastOp zs vs n) := by
  unfold lastBest; rw [lastOps_succ]; simp [bestOp]
theorem lastM_get (zs : List Int) (vs : List QVal) (n : Nat) : (lastM zs vs n).get idZero ⟨#[107]⟩ = seen ((lastBest zs vs n).map QOp.clean) := by
  unfold QMaps.get
  rw [lastM_opsAt]
  show seen (bestOp [] _) = _
  rw [bestOp_clean]
  rfl
theorem clean_kind (v : QVal) : v.clean.kind = v.kind := by unfold QVal.clean; split <;> rfl
theorem lastM_keys (zs : List Int) (vs : List QVal) (n : Nat) : ∀ k ∈ keysAt (lastM zs vs n).ops idZero, k = ⟨#[107]⟩ := by
  intro k hk
  obtain ⟨o, ho, _, rfl⟩ := mem_keysAt_iff2.1 hk
  obtain ⟨i, _, rfl⟩ := mem_lastM ho
  rfl
theorem lastM_view (zs : List Int) (vs : List QVal) (n : Nat) : (lastM zs vs n).view.length = if ((lastM zs vs n).get idZero ⟨#[107]⟩).isSome then 1 else 0 := by
  unfold QMaps.view
  rw [← viewWith_viewN]
  unfold viewWith
  have hn := (sortKeys_perm (keysAt (lastM zs vs n).ops idZero)).symm.nodup (keysAt_nodup idZero _)
  have hm : ∀ k ∈ sortKeys (keysAt (lastM zs vs n).ops idZero), k = ⟨#[107]⟩ := fun k hk => lastM_keys zs vs n k ((sortKeys_perm _).mem_iff.1 hk)
  have hmem : (lastM zs vs n).get idZero ⟨#[107]⟩ ≠ none → (⟨#[107]⟩ : ByteArray) ∈ sortKeys (keysAt (lastM zs vs n).ops idZero) := fun h => by
    cases hg : (lastM zs vs n).get idZero ⟨#[107]⟩ with
    | none => exact absurd hg h
    | some o =>
      obtain ⟨ho, hp, hk, _⟩ := mem_get hg
      exact (sortKeys_perm _).mem_iff.2 (mem_keysAt_iff2.2 ⟨o, ho, hp, hk⟩)
  generalize sortKeys (keysAt (lastM zs vs n).ops idZero) = ks at hn hm hmem
  cases hg : (lastM zs vs n).get idZero ⟨#[107]⟩ with
  | none =>
    rw [List.filterMap_eq_nil_iff.2 (fun k hk => by rw [hm k hk]; unfold viewOne; rw [hg])]
    rfl
  | some o =>
    have h1 := hmem (by rw [hg]; simp)
    have hks : ks = [⟨#[107]⟩] := by
      cases ks with
      | nil => cases h1
      | cons a t =>
        cases t with
        | nil => rw [hm a (by simp)]
        | cons b t =>
          rw [hm a (by simp), hm b (by simp)] at hn
          simp at hn
    rw [hks]
    simp [viewOne, hg]
end Go.Proofs.Yteadongdlacgmaa
