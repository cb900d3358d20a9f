/- Plain: maps within maps as a list of sets; who wins; the view. -/
import Derived.Test.YteadongdlacgmaaCleanLaw
namespace Go.Proofs.Yteadongdlacgmaa

structure QMaps where
  ops : List QOp
  hidden : List QRng
  deriving Inhabited

def QOp.clean (o : QOp) : QOp := { o with v := o.v.clean }
def idZero : QId := ⟨0, 0⟩
def valZero : QVal := ⟨0, 0, 0, ByteArray.empty⟩
def opZero : QOp := ⟨idZero, 0, 0, idZero, idZero, ByteArray.empty, valZero, ByteArray.empty, idZero, idZero, false, idZero, false⟩

namespace QMaps
def at_ (M : QMaps) (i : QId) : Option QOp := M.ops.find? fun o => decide (o.id = i)
def has (M : QMaps) (i : QId) : Bool := (M.at_ i).isSome
def isMap (M : QMaps) (i : QId) : Bool := decide (i = idZero) || (match M.at_ i with | some o => decide (o.v.kind = 5) && decide (o.kind = 4) | none => false)
def setB (M : QMaps) (o : QOp) : Bool := decide (o.kind = 4) && o.id.rightB && !M.has o.id && M.isMap o.parent
def set (M : QMaps) (o : QOp) : QMaps := { M with ops := M.ops ++ [o.clean] }
end QMaps

def opsAt (l : List QOp) (p : QId) (k : ByteArray) : List QOp := l.filter fun o => decide (o.parent = p) && decide (o.key = k)
/-- the keys of a map, in the order in which they came. -/
def keysAt (l : List QOp) (p : QId) : List ByteArray := l.foldl (fun (ks : List ByteArray) (o : QOp) => if o.parent = p ∧ (ks.any fun x => decide (x = o.key)) = false then ks ++ [o.key] else ks) []
def parents (l : List QOp) : List QId := l.foldl (fun (ps : List QId) (o : QOp) => if o.parent ∈ ps then ps else ps ++ [o.parent]) []

def pickOp (hid : List QRng) (best : Option QOp) (o : QOp) : Option QOp :=
  if hasRngs hid o.id then best else match best with
    | none => some o
    | some b => if b.lessB o then some o else some b
def bestOp (hid : List QRng) (l : List QOp) : Option QOp := l.foldl (pickOp hid) none
/-- a null wins, but is not seen. -/
def seen (b : Option QOp) : Option QOp := match b with
  | some o => if o.v.kind = 0 then none else some o
  | none => none
def QMaps.get (M : QMaps) (p : QId) (k : ByteArray) : Option QOp := seen (bestOp M.hidden (opsAt M.ops p k))

def QMaps.findFrom (M : QMaps) : QId → List ByteArray → Option QId
  | i, [] => some i
  | i, k :: path => match M.get i k with
    | some o => if o.v.kind = 5 then M.findFrom o.id path else none
    | none => none

inductive QEntry where
  | mk (key : ByteArray) (v : QVal) (kids : List QEntry)
  deriving Inhabited

def sortKeys (ks : List ByteArray) : List ByteArray := (ks.mergeSort fun x y => decide (x.data.toList ≤ y.data.toList))
def QMaps.viewN (M : QMaps) : Nat → QId → List QEntry
  | 0, _ => []
  | n + 1, p => (sortKeys (keysAt M.ops p)).filterMap fun k => match M.get p k with
    | some o => some (.mk k o.v.clean (if o.v.kind = 5 then M.viewN n o.id else []))
    | none => none

theorem mem_keysAt {p : QId} {k : ByteArray} : ∀ (l : List QOp) (acc : List ByteArray), k ∈ l.foldl (fun (ks : List ByteArray) (o : QOp) => if o.parent = p ∧ (ks.any fun x => decide (x = o.key)) = false then ks ++ [o.key] else ks) acc ↔ k ∈ acc ∨ ∃ o ∈ l, o.parent = p ∧ o.key = k
  | [], acc => by simp
  | o :: l, acc => by
    rw [List.foldl_cons, mem_keysAt l]
    by_cases hp : o.parent = p
    · by_cases hk : (acc.any fun x => decide (x = o.key)) = false
      · rw [if_pos ⟨hp, hk⟩]
        simp [hp, or_assoc, eq_comm]
      · rw [if_neg (fun h => hk h.2)]
        have : o.key ∈ acc := by
          have h1 : (acc.any fun x => decide (x = o.key)) = true := by simpa using hk
          obtain ⟨x, hx, he⟩ := List.any_eq_true.1 h1
          rw [← of_decide_eq_true he]; exact hx
        constructor
        · rintro (h | ⟨x, hx, h⟩)
          · exact .inl h
          · exact .inr ⟨x, by simp [hx], h⟩
        · rintro (h | ⟨x, hx, h1, h2⟩)
          · exact .inl h
          · rcases List.mem_cons.1 hx with rfl | hx
            · exact .inl (h2 ▸ this)
            · exact .inr ⟨x, hx, h1, h2⟩
    · rw [if_neg (fun h => hp h.1)]
      simp [hp]
theorem opsAt_ne {l : List QOp} {p : QId} {k : ByteArray} : opsAt l p k ≠ [] ↔ ∃ o ∈ l, o.parent = p ∧ o.key = k := by
  unfold opsAt
  rw [ne_eq, List.filter_eq_nil_iff]
  simp
theorem mem_keysAt_iff {l : List QOp} {p : QId} {k : ByteArray} : k ∈ keysAt l p ↔ opsAt l p k ≠ [] := by
  unfold keysAt
  rw [mem_keysAt, opsAt_ne]
  simp
theorem mem_parents {p : QId} : ∀ (l : List QOp) (acc : List QId), p ∈ l.foldl (fun (ps : List QId) (o : QOp) => if o.parent ∈ ps then ps else ps ++ [o.parent]) acc ↔ p ∈ acc ∨ ∃ o ∈ l, o.parent = p
  | [], acc => by simp
  | o :: l, acc => by
    rw [List.foldl_cons, mem_parents l]
    by_cases hp : o.parent ∈ acc
    · rw [if_pos hp]
      constructor
      · rintro (h | ⟨x, hx, h⟩)
        · exact .inl h
        · exact .inr ⟨x, by simp [hx], h⟩
      · rintro (h | ⟨x, hx, h⟩)
        · exact .inl h
        · rcases List.mem_cons.1 hx with rfl | hx
          · exact .inl (h ▸ hp)
          · exact .inr ⟨x, hx, h⟩
    · rw [if_neg hp]
      simp [or_assoc, eq_comm]
theorem mem_parents_iff {l : List QOp} {p : QId} : p ∈ parents l ↔ ∃ o ∈ l, o.parent = p := by
  unfold parents
  rw [mem_parents]
  simp

theorem nan_nan : nanB nanBits = true := by decide +kernel
theorem clean_clean (v : QVal) : v.clean.clean = v.clean := by
  unfold QVal.clean
  cases h : nanB v.f
  · simp [h]
  · simp [nan_nan]
end Go.Proofs.Yteadongdlacgmaa
