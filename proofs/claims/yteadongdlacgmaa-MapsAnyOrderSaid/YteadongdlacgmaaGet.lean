/- Walk: maps.Get. -/
import Derived.Test.YteadongdlacgmaaMaps1
import Derived.Test.YteadongdlacgmaaRegion
import Derived.Test.YteadongdlacgmaaHas
namespace Go.Proofs.Yteadongdlacgmaa
open Go.RowKit

def innBlk (L : MLay) (p : QId) : Option Nat := (L.PL.find? fun x => decide (x.1 = p)).map (·.2)
def rowOf (L : MLay) (M : QMaps) (p : QId) (k : ByteArray) : Value := if opsAt M.ops p k = [] then .slice none 0 0 else L.row p k

theorem look_inn {w : World} {bm : Nat} {L : MLay} {M : QMaps} (h : MapsAt w bm L M) (p : QId) :
    (Instr.lookup 66 (.map (some L.inn)) (idV p) false).run Try.prog w = .ok (.map (innBlk L p)) w := by
  have := run_look (T := 66) (E := 71) idKey (by kernel_rfl) (z := .map none) (fun w => by kernel_rfl) h.inn p false
  rw [this, look_find (fun x : QId × Nat => Value.map (some x.2)) Prod.fst]
  unfold innBlk
  cases List.find? (fun o : QId × Nat => decide (o.1 = p)) L.PL <;> rfl

theorem innBlk_some {w : World} {bm : Nat} {L : MLay} {M : QMaps} (h : MapsAt w bm L M) {p : QId} {r : Nat} (hr : innBlk L p = some r) : (p, r) ∈ L.PL := by
  unfold innBlk at hr
  cases hf : L.PL.find? fun x => decide (x.1 = p) with
  | none => rw [hf] at hr; cases hr
  | some x =>
    rw [hf] at hr
    have h1 := List.mem_of_find?_eq_some hf
    have h2 := List.find?_some hf
    simp at h2 hr
    rw [← h2, ← hr]
    exact h1
theorem innBlk_none {w : World} {bm : Nat} {L : MLay} {M : QMaps} (h : MapsAt w bm L M) {p : QId} (hr : innBlk L p = none) : ∀ o ∈ M.ops, o.parent ≠ p := by
  intro o ho hp
  have h1 : p ∈ L.PL.map (·.1) := by rw [h.par]; exact mem_parents_iff.2 ⟨o, ho, hp⟩
  obtain ⟨x, hx, hxp⟩ := List.mem_map.1 h1
  unfold innBlk at hr
  simp only [Option.map_eq_none_iff, List.find?_eq_none, decide_eq_true_eq] at hr
  exact hr x hx hxp

theorem look_row_yes (ks : List ByteArray) (f : ByteArray → Value) (k : ByteArray) (hk : k ∈ ks) : (look (ks.map fun k => (k, f k)) k).getD (.slice none 0 0) = f k := by
  unfold look
  rw [List.find?_map]
  have e : ((fun p : ByteArray × Value => decide (p.1 = k)) ∘ fun k => (k, f k)) = fun x => decide (x = k) := rfl
  rw [e]
  cases hf : ks.find? fun x => decide (x = k) with
  | none => simp at hf; exact absurd hk (fun h => hf k h rfl)
  | some x =>
    have := List.find?_some hf
    simp at this
    subst this
    rfl
theorem look_row_no (ks : List ByteArray) (f : ByteArray → Value) (k : ByteArray) (hk : ¬ k ∈ ks) : look (ks.map fun k => (k, f k)) k = none := by
  unfold look
  rw [List.find?_map]
  have e : ((fun p : ByteArray × Value => decide (p.1 = k)) ∘ fun k => (k, f k)) = fun x => decide (x = k) := rfl
  rw [e]
  have : (ks.find? fun x => decide (x = k)) = none := by
    rw [List.find?_eq_none]
    intro x hx h
    exact hk ((of_decide_eq_true h) ▸ hx)
  rw [this]; rfl

theorem look_key {w : World} {bm : Nat} {L : MLay} {M : QMaps} (h : MapsAt w bm L M) (p : QId) (k : ByteArray) :
    (Instr.lookup 71 (.map (innBlk L p)) (.string k) false).run Try.prog w = .ok (rowOf L M p k) w := by
  unfold rowOf
  cases hb : innBlk L p with
  | none =>
    have := run_look_nil (T := 71) (E := 26) strKey (by kernel_rfl) (z := .slice none 0 0) (fun w => by kernel_rfl) w k false
    rw [this, if_neg (by decide), if_pos]
    by_cases hne : opsAt M.ops p k = []
    · exact hne
    · obtain ⟨o, ho, hp, _⟩ := opsAt_ne.1 hne
      exact absurd hp (innBlk_none h hb o ho)
  | some r =>
    have := run_look (T := 71) (E := 26) strKey (by kernel_rfl) (z := .slice none 0 0) (fun w => by kernel_rfl) (h.inner _ (innBlk_some h hb)) k false
    rw [this, if_neg (by decide)]
    by_cases hne : opsAt M.ops p k = []
    · rw [look_row_no _ _ _ (fun hm => mem_keysAt_iff.1 hm hne), if_pos hne]; rfl
    · rw [look_row_yes _ _ _ (mem_keysAt_iff.2 hne), if_neg hne]

/-- the row of a key, as a slice. -/
theorem rowOf_slice {w : World} {bm : Nat} {L : MLay} {M : QMaps} (h : MapsAt w bm L M) (p : QId) (k : ByteArray) : SliceAt 22 encOp w (rowOf L M p k) (opsAt M.ops p k) := by
  unfold rowOf
  by_cases hne : opsAt M.ops p k = []
  · rw [if_pos hne, hne]; exact .inl ⟨rfl, rfl⟩
  · rw [if_neg hne]; exact OwnAt.slice (k := 22) (enc := encOp) (fun _ => rfl) (h.rows p k hne)
end Go.Proofs.Yteadongdlacgmaa
