/- The two kinds of keys: texts, ids. -/
import Derived.Test.YteadongdlacgmaaMapRaw
namespace Go.Proofs.Yteadongdlacgmaa
open Go.RowKit Go.MapKept

theorem findNow_str (x : ByteArray) : ∀ (es : List MapEntry) (l : List (ByteArray × Value)) (i : Nat), es.map (fun e => (e.key, e.val)) = l.map (fun p => (Value.string p.1, p.2)) → Instr.findNow .string (.string x) es i = some (findIx x l i)
  | [], [], _, _ => rfl
  | [], _ :: _, _, h => by simp at h
  | _ :: _, [], _, h => by simp at h
  | e :: es, p :: l, i, h => by
    simp only [List.map_cons, List.cons.injEq, Prod.mk.injEq] at h
    obtain ⟨⟨h1, h2⟩, h3⟩ := h
    unfold Instr.findNow findIx
    rw [h1]
    simp only [Instr.sameNow]
    by_cases hx : p.1 = x
    · have : (x == p.1) = true := (bytes_beq x p.1).2 hx.symm
      rw [this]
      simp [hx, h2]
    · have : (x == p.1) = false := by
        cases h : (x == p.1)
        · rfl
        · exact absurd ((bytes_beq x p.1).1 h).symm hx
      rw [this]
      simp only [hx, if_false]
      exact findNow_str x es l (i + 1) h3

theorem strKey : KeyQ Try.prog 9 Value.string where
  inj h := by cases h; rfl
  check w em x := run_checkKey (d := .string) (k := .string x) (by kernel_rfl) trivial em 9999
  find w x es l h := run_findKey (d := .string) (by kernel_rfl) (findNow_str x es l 0 h)
  stays w x := run_keyThatStays (d := .string) (k := .string x) trivial

def idV (i : QId) : Value := .agg #[.int .u64 i.c, .int .u64 i.k]

theorem idCheck (w : World) (em : Bool) (x : QId) : (Instr.checkKey em 10000 34 (idV x)).run Try.prog w = .ok () w := by kernel_rfl

theorem idEqual (w : World) (x y : QId) : (Op.equal 34 (idV x) (idV y)).run Try.prog w = .ok (decide (x = y)) w := by
  unfold Op.equal Op.maxDepth Op.equalIn idV
  go_simp
  obtain ⟨a, b⟩ := x
  obtain ⟨c, d⟩ := y
  by_cases h1 : a = c <;> by_cases h2 : b = d <;> simp [h1, h2]

theorem idStays (w : World) (x : QId) : (Instr.keyThatStays (idV x) (idV x)).run Try.prog w = .ok (idV x) w := by
  have : Instr.sameBits 10000 (idV x) (idV x) = true := by simp [Instr.sameBits, idV]
  simp [Instr.keyThatStays, this]

theorem idAsking (w : World) (x : QId) : ∀ (es : List MapEntry) (l : List (QId × Value)) (i : Nat), es.map (fun e => (e.key, e.val)) = l.map (fun p => (idV p.1, p.2)) → (Instr.findAsking 34 (idV x) es i).run Try.prog w = .ok (findIx x l i) w
  | [], [], _, _ => rfl
  | [], _ :: _, _, h => by simp at h
  | _ :: _, [], _, h => by simp at h
  | e :: es, p :: l, i, h => by
    simp only [List.map_cons, List.cons.injEq, Prod.mk.injEq] at h
    obtain ⟨⟨h1, h2⟩, h3⟩ := h
    unfold Instr.findAsking findIx
    rw [h1]
    simp only [Sem.run_bind, idEqual, Result.andThen]
    by_cases hx : p.1 = x
    · simp [hx, h2]
    · have hx' : ¬ x = p.1 := fun h => hx h.symm
      simp only [hx, hx', decide_false, Bool.false_eq_true, if_false]
      exact idAsking w x es l (i + 1) h3

theorem idKey : KeyQ Try.prog 34 idV where
  inj {x y} h := by
    obtain ⟨a, b⟩ := x
    obtain ⟨c, d⟩ := y
    simp [idV] at h
    simp [h]
  check w em x := idCheck w em x
  find w x es l h := by
    rw [run_findKey_eq w (by rw [Try.underlying34])]
    exact idAsking w x _ l 0 h
  stays w x := idStays w x
end Go.Proofs.Yteadongdlacgmaa
