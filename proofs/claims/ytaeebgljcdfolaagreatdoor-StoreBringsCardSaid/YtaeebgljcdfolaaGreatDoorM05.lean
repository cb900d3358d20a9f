/- Plain law: cleaned ranges lie apart and in order; what minus leaves. -/
import Derived.Test.YtaeebgljcdfolaaGreatDoorM03
namespace Go.Proofs.YtaeebgljcdfolaaGreatDoor

/-- right ranges, in order, with a gap between any two of one client. -/
def CleanL (l : List QRng) : Prop := (∀ r ∈ l, r.rightB = true) ∧ l.Pairwise fun x y => x.c < y.c ∨ (x.c = y.c ∧ x.b < y.a)

theorem right_lt {r : QRng} (h : r.rightB = true) : r.a < r.b ∧ 1 ≤ r.a ∧ r.b ≤ 9007199254740992 ∧ 1 ≤ r.c ∧ r.c ≤ 9007199254740991 := by
  simp [QRng.rightB, numB] at h; omega
theorem merge_clean {out : List QRng} {r : QRng} (ho : CleanL out) (hr : r.rightB = true) (hs : ∀ x, out.getLast? = some x → x.c < r.c ∨ (x.c = r.c ∧ x.a ≤ r.a)) :
    CleanL (mergeRng out r) ∧ ∀ z, (mergeRng out r).getLast? = some z → z.c = r.c ∧ z.a ≤ r.a := by
  unfold mergeRng
  cases hl : out.getLast? with
  | none =>
    have : out = [] := by simpa using hl
    subst this
    refine ⟨⟨by simpa using hr, by simp⟩, fun z hz => ?_⟩
    obtain rfl : r = z := by simpa using hz
    exact ⟨rfl, Int.le_refl _⟩
  | some x =>
    obtain ⟨ys, rfl⟩ := List.getLast?_eq_some_iff.1 hl
    obtain ⟨h1, h2⟩ := ho
    obtain ⟨hp1, _, hp3⟩ := List.pairwise_append.1 h2
    have hx := right_lt (h1 x (by simp))
    have hr' := right_lt hr
    have hxr := hs x hl
    dsimp only
    split
    · rename_i hc
      rw [List.dropLast_concat]
      refine ⟨⟨fun y hy => ?_, List.pairwise_append.2 ⟨hp1, by simp, fun y hy z hz => ?_⟩⟩, fun z hz => ?_⟩
      · rcases List.mem_append.1 hy with hy | hy
        · exact h1 y (by simp [hy])
        · obtain rfl : y = _ := by simpa using hy
          exact (hasB_join (i := ⟨0, 0⟩) (h1 x (by simp)) hr hc.1 (by omega) hc.2).1
      · obtain rfl : z = _ := by simpa using hz
        exact hp3 y hy x (by simp)
      · obtain rfl : _ = z := by simpa using hz
        exact ⟨hc.1, by show x.a ≤ r.a; omega⟩
    · rename_i hc
      refine ⟨⟨fun y hy => ?_, List.pairwise_append.2 ⟨h2, by simp, fun y hy z hz => ?_⟩⟩, fun z hz => ?_⟩
      · rcases List.mem_append.1 hy with hy | hy
        · exact h1 y hy
        · obtain rfl : y = _ := by simpa using hy
          exact hr
      · obtain rfl : z = _ := by simpa using hz
        have hxz : x.c < z.c ∨ (x.c = z.c ∧ x.b < z.a) := by
          rcases hxr with h | ⟨h, _⟩
          · exact .inl h
          · exact .inr ⟨h, Int.not_le.1 fun h3 => hc ⟨h, h3⟩⟩
        rcases List.mem_append.1 hy with hy | hy
        · have hyx := hp3 y hy x (by simp)
          omega
        · obtain rfl : y = _ := by simpa using hy
          exact hxz
      · obtain rfl : r = z := by simpa using hz
        exact ⟨rfl, Int.le_refl _⟩
theorem merge_clean_all : ∀ (d out : List QRng), CleanL out → (∀ r ∈ d, r.rightB = true) → d.Pairwise (fun x y => x.c < y.c ∨ (x.c = y.c ∧ x.a ≤ y.a)) →
    (∀ x, out.getLast? = some x → ∀ r ∈ d, x.c < r.c ∨ (x.c = r.c ∧ x.a ≤ r.a)) → CleanL (d.foldl mergeRng out)
  | [], out, ho, _, _, _ => ho
  | r :: d, out, ho, hr, hp, hl => by
    obtain ⟨hp1, hp2⟩ := List.pairwise_cons.1 hp
    obtain ⟨h1, h2⟩ := merge_clean ho (hr r (by simp)) fun x hx => hl x hx r (by simp)
    refine merge_clean_all d _ h1 (fun y hy => hr y (by simp [hy])) hp2 fun z hz y hy => ?_
    have := h2 z hz
    have := hp1 y hy
    omega
theorem join_clean {l d : List QRng} (hp : d.Perm (l.filter QRng.rightB)) (hs : SortedRngs d) : CleanL (joinRngs d) := by
  refine merge_clean_all d [] ⟨by simp, by simp⟩ (fun r hr => (List.mem_filter.1 (hp.mem_iff.1 hr)).2) (hs.imp fun {x y} h => ?_) (by simp)
  rw [rngCmp_lt] at h
  omega

/-- a clock of a range, rightly or not. -/
def QRng.inR (x : QRng) (i : QId) : Prop := x.c = i.c ∧ x.a ≤ i.k ∧ i.k < x.b
/-- right but for its being empty. -/
def QRng.near (x : QRng) : Prop := 1 ≤ x.c ∧ x.c ≤ 9007199254740991 ∧ 1 ≤ x.a ∧ x.b ≤ 9007199254740992
theorem near_has {x : QRng} (h : x.near) (i : QId) : x.hasB i = true ↔ x.inR i := by
  obtain ⟨h1, h2, h3, h4⟩ := h
  simp only [QRng.hasB, QRng.rightB, numB, QRng.inR, Bool.and_eq_true, decide_eq_true_eq]
  omega
theorem right_near {x : QRng} (h : x.rightB = true) : x.near := by
  have := right_lt h
  exact ⟨by omega, by omega, by omega, by omega⟩

def minusStep (s : List QRng × QRng) (y : QRng) : List QRng × QRng := if s.2.c ≠ y.c ∨ y.b ≤ s.2.a ∨ s.2.b ≤ y.a then s else (s.1 ++ [⟨s.2.c, s.2.a, y.a⟩], ⟨s.2.c, y.b, s.2.b⟩)
def minusOne (b : List QRng) (out : List QRng) (x : QRng) : List QRng := (b.foldl minusStep (out, x)).1 ++ [(b.foldl minusStep (out, x)).2]
def minusRaw (a b : List QRng) : List QRng := a.foldl (minusOne b) []

theorem minusStep_length (s : List QRng × QRng) (y : QRng) : (minusStep s y).1.length ≤ s.1.length + 1 := by
  unfold minusStep; split <;> simp
theorem minusFold_length : ∀ (b : List QRng) (s : List QRng × QRng), (b.foldl minusStep s).1.length ≤ s.1.length + b.length
  | [], s => by simp
  | y :: b, s => by
    rw [List.foldl_cons]
    have := minusFold_length b (minusStep s y)
    have := minusStep_length s y
    simp; omega
theorem minusOne_length (b out : List QRng) (x : QRng) : (minusOne b out x).length ≤ out.length + b.length + 1 := by
  have := minusFold_length b (out, x)
  simp [minusOne]; simpa using this
theorem minusAll_length (b : List QRng) : ∀ (a out : List QRng), (a.foldl (minusOne b) out).length ≤ out.length + a.length * (b.length + 1)
  | [], out => by simp
  | x :: a, out => by
    rw [List.foldl_cons, List.length_cons, Nat.add_mul]
    have := minusAll_length b a (minusOne b out x)
    have := minusOne_length b out x
    omega

theorem has_append (l m : List QRng) (i : QId) : anyHas (l ++ m) i = (anyHas l i || anyHas m i) := by simp [anyHas]
theorem has_one (x : QRng) (i : QId) : anyHas [x] i = x.hasB i := by simp [anyHas]
theorem minus_fold (i : QId) : ∀ (b out : List QRng) (x : QRng), x.near → CleanL b →
    let s := b.foldl minusStep (out, x)
    s.2.near ∧ (anyHas (s.1 ++ [s.2]) i = true ↔ anyHas out i = true ∨ (x.inR i ∧ ¬ anyHas b i = true))
  | [], out, x, hx, _ => by
    refine ⟨hx, ?_⟩
    show anyHas (out ++ [x]) i = true ↔ _
    rw [has_append, has_one, Bool.or_eq_true, near_has hx]
    simp [anyHas]
  | y :: b, out, x, hx, hb => by
    obtain ⟨hb1, hb2⟩ := hb
    obtain ⟨hp1, hp2⟩ := List.pairwise_cons.1 hb2
    have hy := hb1 y (by simp)
    have hyl := right_lt hy
    have hbb : CleanL b := ⟨fun r hr => hb1 r (by simp [hr]), hp2⟩
    have hcons : anyHas (y :: b) i = true ↔ y.inR i ∨ anyHas b i = true := by
      rw [← near_has (right_near hy)]; simp [anyHas]
    dsimp only
    rw [List.foldl_cons]
    unfold minusStep
    dsimp only
    split
    · rename_i hc
      obtain ⟨h1, h2⟩ := minus_fold i b out x hx hbb
      refine ⟨h1, ?_⟩
      unfold minusStep at h2
      rw [h2, hcons]
      refine or_congr Iff.rfl ⟨fun ⟨h3, h4⟩ => ⟨h3, fun h5 => ?_⟩, fun ⟨h3, h4⟩ => ⟨h3, fun h5 => h4 (.inr h5)⟩⟩
      rcases h5 with h5 | h5
      · obtain ⟨e1, e2, e3⟩ := h3
        obtain ⟨f1, f2, f3⟩ := h5
        omega
      · exact h4 h5
    · rename_i hc
      have hxy : x.c = y.c := Classical.not_not.1 fun h => hc (.inl h)
      have hc2 : x.a < y.b := Int.not_le.1 fun h => hc (.inr (.inl h))
      have hc3 : y.a < x.b := Int.not_le.1 fun h => hc (.inr (.inr h))
      obtain ⟨n1, n2, n3, n4⟩ := hx
      have hn1 : (⟨x.c, x.a, y.a⟩ : QRng).near := ⟨n1, n2, n3, by show y.a ≤ _; omega⟩
      have hn2 : (⟨x.c, y.b, x.b⟩ : QRng).near := ⟨n1, n2, by show 1 ≤ y.b; omega, n4⟩
      obtain ⟨h1, h2⟩ := minus_fold i b (out ++ [⟨x.c, x.a, y.a⟩]) ⟨x.c, y.b, x.b⟩ hn2 hbb
      refine ⟨h1, ?_⟩
      unfold minusStep at h2
      rw [h2, hcons, has_append, has_one, Bool.or_eq_true, near_has hn1, or_assoc]
      refine or_congr Iff.rfl ⟨fun h => ?_, fun ⟨h3, h4⟩ => ?_⟩
      · rcases h with h | ⟨h, h4⟩
        · obtain ⟨e1, e2, e3⟩ := h
          dsimp only at e1 e2 e3
          refine ⟨⟨e1, e2, by omega⟩, fun h5 => ?_⟩
          rcases h5 with ⟨f1, f2, f3⟩ | h5
          · omega
          · obtain ⟨r, hr, hri⟩ := List.any_eq_true.1 h5
            obtain ⟨g1, g2, g3⟩ := (near_has (right_near (hbb.1 r hr)) i).1 hri
            have := hp1 r hr
            omega
        · obtain ⟨e1, e2, e3⟩ := h
          dsimp only at e1 e2 e3
          refine ⟨⟨e1, by omega, e3⟩, fun h5 => ?_⟩
          rcases h5 with ⟨f1, f2, f3⟩ | h5
          · omega
          · exact h4 h5
      · obtain ⟨e1, e2, e3⟩ := h3
        by_cases h6 : i.k < y.a
        · exact .inl ⟨e1, e2, h6⟩
        · refine .inr ⟨⟨e1, ?_, e3⟩, fun h5 => h4 (.inr h5)⟩
          show y.b ≤ i.k
          exact Int.not_lt.1 fun h7 => h4 (.inl ⟨by omega, by omega, h7⟩)
theorem minus_all (i : QId) (b : List QRng) (hb : CleanL b) : ∀ (a out : List QRng), (∀ x ∈ a, x.near) →
    (anyHas (a.foldl (minusOne b) out) i = true ↔ anyHas out i = true ∨ ((∃ x ∈ a, x.inR i) ∧ ¬ anyHas b i = true))
  | [], out, _ => by simp
  | x :: a, out, ha => by
    rw [List.foldl_cons, minus_all i b hb a _ fun y hy => ha y (by simp [hy])]
    have h := (minus_fold i b out x (ha x (by simp)) hb).2
    unfold minusOne
    rw [h, or_assoc]
    refine or_congr Iff.rfl ⟨fun h => ?_, fun ⟨⟨y, hy, hyi⟩, h2⟩ => ?_⟩
    · rcases h with ⟨h, h2⟩ | ⟨⟨y, hy, hyi⟩, h2⟩
      · exact ⟨⟨x, by simp, h⟩, h2⟩
      · exact ⟨⟨y, by simp [hy], hyi⟩, h2⟩
    · rcases List.mem_cons.1 hy with rfl | hy
      · exact .inl ⟨hyi, h2⟩
      · exact .inr ⟨⟨y, hy, hyi⟩, h2⟩
theorem minus_has {a b : List QRng} (ha : CleanL a) (hb : CleanL b) (i : QId) : hasRngs (minusRaw a b) i = (hasRngs a i && !hasRngs b i) := by
  have h := minus_all i b hb a [] fun x hx => right_near (ha.1 x hx)
  have h1 : (∃ x ∈ a, x.inR i) ↔ anyHas a i = true := by
    rw [anyHas, List.any_eq_true]
    exact ⟨fun ⟨x, hx, hxi⟩ => ⟨x, hx, (near_has (right_near (ha.1 x hx)) i).2 hxi⟩, fun ⟨x, hx, hxi⟩ => ⟨x, hx, (near_has (right_near (ha.1 x hx)) i).1 hxi⟩⟩
  rw [h1] at h
  have h2 : anyHas (minusRaw a b) i = (anyHas a i && !anyHas b i) := by
    rw [Bool.eq_iff_iff, minusRaw, h]
    simp [anyHas]
  show (i.rightB && anyHas (minusRaw a b) i) = ((i.rightB && anyHas a i) && !(i.rightB && anyHas b i))
  rw [h2]
  cases i.rightB <;> simp
theorem clean_none {l : List QRng} (h : CleanL l) (h0 : ∀ i, hasRngs l i = false) : l = [] := by
  cases l with
  | nil => rfl
  | cons r l =>
    have hr := right_lt (h.1 r (by simp))
    have := h0 ⟨r.c, r.a⟩
    have hh : r.hasB ⟨r.c, r.a⟩ = true := (near_has (right_near (h.1 r (by simp))) _).2 ⟨rfl, Int.le_refl _, hr.1⟩
    have h1 : (⟨r.c, r.a⟩ : QId).rightB = true := by simp [QId.rightB, numB]; omega
    simp [hasRngs, hh, h1] at this
end Go.Proofs.YtaeebgljcdfolaaGreatDoor
