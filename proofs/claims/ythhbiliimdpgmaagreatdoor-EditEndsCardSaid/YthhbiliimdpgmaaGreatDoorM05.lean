/- Plain law: cleaned ranges lie apart and in order; what minus leaves. -/
import Derived.Test.YthhbiliimdpgmaaGreatDoorM03
import Derived.Test.YthhbiliimdpgmaaGreatDoorM01
import Derived.Lib.MapLaws
import Derived.Lib.ValidU
import Derived.Lib.RuneCount
import Derived.Lib.RuneBytes
import Derived.Laws.Cover4
import Derived.Test.YthhbiliimdpgmaaGreatDoorM02
import Derived.Maps.AppendAt
import Derived.Sort.Grow
import Derived.Maps.OwnRows
import Derived.WalkSpells
namespace Go.Proofs.YthhbiliimdpgmaaGreatDoor

/-- right ranges, in order, with a gap between any two of one client. -/
def CleanL (l : List QRng) : Prop := (∀ r ∈ l, r.rightB = true) ∧ l.Pairwise fun x y => x.c < y.c ∨ (x.c = y.c ∧ x.b < y.a)

theorem right_lt {r : QRng} (h : r.rightB = true) : r.a < r.b ∧ 1 ≤ r.a ∧ r.b ≤ 9007199254740992 ∧ 1 ≤ r.c ∧ r.c ≤ 9007199254740991 := by
  simp [QRng.rightB, numB] at h; omega
theorem merge_clean {out : List QRng} {r : QRng} (ho : CleanL out) (hr : r.rightB = true) (hs : ∀ x, out.getLast? = some x → x.c < r.c ∨ (x.c = r.c ∧ x.a ≤ r.a)) :
    CleanL (mergeRng out r) ∧ ∀ z, (mergeRng out r).getLast? = some z → z.c = r.c ∧ z.a ≤ r.a := by
  unfold mergeRng
  cases hl : out.getLast? with
  | none =>
    have : out = [] := by simpa using hl
    subst this
    refine ⟨⟨by simpa using hr, by simp⟩, fun z hz => ?_⟩
    obtain rfl : r = z := by simpa using hz
    exact ⟨rfl, Int.le_refl _⟩
  | some x =>
    obtain ⟨ys, rfl⟩ := List.getLast?_eq_some_iff.1 hl
    obtain ⟨h1, h2⟩ := ho
    obtain ⟨hp1, _, hp3⟩ := List.pairwise_append.1 h2
    have hx := right_lt (h1 x (by simp))
    have hr' := right_lt hr
    have hxr := hs x hl
    dsimp only
    split
    · rename_i hc
      rw [List.dropLast_concat]
      refine ⟨⟨fun y hy => ?_, List.pairwise_append.2 ⟨hp1, by simp, fun y hy z hz => ?_⟩⟩, fun z hz => ?_⟩
      · rcases List.mem_append.1 hy with hy | hy
        · exact h1 y (by simp [hy])
        · obtain rfl : y = _ := by simpa using hy
          exact (hasB_join (i := ⟨0, 0⟩) (h1 x (by simp)) hr hc.1 (by omega) hc.2).1
      · obtain rfl : z = _ := by simpa using hz
        exact hp3 y hy x (by simp)
      · obtain rfl : _ = z := by simpa using hz
        exact ⟨hc.1, by show x.a ≤ r.a; omega⟩
    · rename_i hc
      refine ⟨⟨fun y hy => ?_, List.pairwise_append.2 ⟨h2, by simp, fun y hy z hz => ?_⟩⟩, fun z hz => ?_⟩
      · rcases List.mem_append.1 hy with hy | hy
        · exact h1 y hy
        · obtain rfl : y = _ := by simpa using hy
          exact hr
      · obtain rfl : z = _ := by simpa using hz
        have hxz : x.c < z.c ∨ (x.c = z.c ∧ x.b < z.a) := by
          rcases hxr with h | ⟨h, _⟩
          · exact .inl h
          · exact .inr ⟨h, Int.not_le.1 fun h3 => hc ⟨h, h3⟩⟩
        rcases List.mem_append.1 hy with hy | hy
        · have hyx := hp3 y hy x (by simp)
          omega
        · obtain rfl : y = _ := by simpa using hy
          exact hxz
      · obtain rfl : r = z := by simpa using hz
        exact ⟨rfl, Int.le_refl _⟩
theorem merge_clean_all : ∀ (d out : List QRng), CleanL out → (∀ r ∈ d, r.rightB = true) → d.Pairwise (fun x y => x.c < y.c ∨ (x.c = y.c ∧ x.a ≤ y.a)) →
    (∀ x, out.getLast? = some x → ∀ r ∈ d, x.c < r.c ∨ (x.c = r.c ∧ x.a ≤ r.a)) → CleanL (d.foldl mergeRng out)
  | [], out, ho, _, _, _ => ho
  | r :: d, out, ho, hr, hp, hl => by
    obtain ⟨hp1, hp2⟩ := List.pairwise_cons.1 hp
    obtain ⟨h1, h2⟩ := merge_clean ho (hr r (by simp)) fun x hx => hl x hx r (by simp)
    refine merge_clean_all d _ h1 (fun y hy => hr y (by simp [hy])) hp2 fun z hz y hy => ?_
    have := h2 z hz
    have := hp1 y hy
    omega
theorem join_clean {l d : List QRng} (hp : d.Perm (l.filter QRng.rightB)) (hs : SortedRngs d) : CleanL (joinRngs d) := by
  refine merge_clean_all d [] ⟨by simp, by simp⟩ (fun r hr => (List.mem_filter.1 (hp.mem_iff.1 hr)).2) (hs.imp fun {x y} h => ?_) (by simp)
  rw [rngCmp_lt] at h
  omega

/-- a clock of a range, rightly or not. -/
def QRng.inR (x : QRng) (i : QId) : Prop := x.c = i.c ∧ x.a ≤ i.k ∧ i.k < x.b
/-- right but for its being empty. -/
def QRng.near (x : QRng) : Prop := 1 ≤ x.c ∧ x.c ≤ 9007199254740991 ∧ 1 ≤ x.a ∧ x.b ≤ 9007199254740992
theorem near_has {x : QRng} (h : x.near) (i : QId) : x.hasB i = true ↔ x.inR i := by
  obtain ⟨h1, h2, h3, h4⟩ := h
  simp only [QRng.hasB, QRng.rightB, numB, QRng.inR, Bool.and_eq_true, decide_eq_true_eq]
  omega
theorem right_near {x : QRng} (h : x.rightB = true) : x.near := by
  have := right_lt h
  exact ⟨by omega, by omega, by omega, by omega⟩

def minusStep (s : List QRng × QRng) (y : QRng) : List QRng × QRng := if s.2.c ≠ y.c ∨ y.b ≤ s.2.a ∨ s.2.b ≤ y.a then s else (s.1 ++ [⟨s.2.c, s.2.a, y.a⟩], ⟨s.2.c, y.b, s.2.b⟩)
def minusOne (b : List QRng) (out : List QRng) (x : QRng) : List QRng := (b.foldl minusStep (out, x)).1 ++ [(b.foldl minusStep (out, x)).2]
def minusRaw (a b : List QRng) : List QRng := a.foldl (minusOne b) []

theorem minusStep_length (s : List QRng × QRng) (y : QRng) : (minusStep s y).1.length ≤ s.1.length + 1 := by
  unfold minusStep; split <;> simp
theorem minusFold_length : ∀ (b : List QRng) (s : List QRng × QRng), (b.foldl minusStep s).1.length ≤ s.1.length + b.length
  | [], s => by simp
  | y :: b, s => by
    rw [List.foldl_cons]
    have := minusFold_length b (minusStep s y)
    have := minusStep_length s y
    simp; omega
theorem minusOne_length (b out : List QRng) (x : QRng) : (minusOne b out x).length ≤ out.length + b.length + 1 := by
  have := minusFold_length b (out, x)
  simp [minusOne]; simpa using this
theorem minusAll_length (b : List QRng) : ∀ (a out : List QRng), (a.foldl (minusOne b) out).length ≤ out.length + a.length * (b.length + 1)
  | [], out => by simp
  | x :: a, out => by
    rw [List.foldl_cons, List.length_cons, Nat.add_mul]
    have := minusAll_length b a (minusOne b out x)
    have := minusOne_length b out x
    omega

theorem has_append (l m : List QRng) (i : QId) : anyHas (l ++ m) i = (anyHas l i || anyHas m i) := by simp [anyHas]
theorem has_one (x : QRng) (i : QId) : anyHas [x] i = x.hasB i := by simp [anyHas]
theorem minus_fold (i : QId) : ∀ (b out : List QRng) (x : QRng), x.near → CleanL b →
    let s := b.foldl minusStep (out, x)
    s.2.near ∧ (anyHas (s.1 ++ [s.2]) i = true ↔ anyHas out i = true ∨ (x.inR i ∧ ¬ anyHas b i = true))
  | [], out, x, hx, _ => by
    refine ⟨hx, ?_⟩
    show anyHas (out ++ [x]) i = true ↔ _
    rw [has_append, has_one, Bool.or_eq_true, near_has hx]
    simp [anyHas]
  | y :: b, out, x, hx, hb => by
    obtain ⟨hb1, hb2⟩ := hb
    obtain ⟨hp1, hp2⟩ := List.pairwise_cons.1 hb2
    have hy := hb1 y (by simp)
    have hyl := right_lt hy
    have hbb : CleanL b := ⟨fun r hr => hb1 r (by simp [hr]), hp2⟩
    have hcons : anyHas (y :: b) i = true ↔ y.inR i ∨ anyHas b i = true := by
      rw [← near_has (right_near hy)]; simp [anyHas]
    dsimp only
    rw [List.foldl_cons]
    unfold minusStep
    dsimp only
    split
    · rename_i hc
      obtain ⟨h1, h2⟩ := minus_fold i b out x hx hbb
      refine ⟨h1, ?_⟩
      unfold minusStep at h2
      rw [h2, hcons]
      refine or_congr Iff.rfl ⟨fun ⟨h3, h4⟩ => ⟨h3, fun h5 => ?_⟩, fun ⟨h3, h4⟩ => ⟨h3, fun h5 => h4 (.inr h5)⟩⟩
      rcases h5 with h5 | h5
      · obtain ⟨e1, e2, e3⟩ := h3
        obtain ⟨f1, f2, f3⟩ := h5
        omega
      · exact h4 h5
    · rename_i hc
      have hxy : x.c = y.c := Classical.not_not.1 fun h => hc (.inl h)
      have hc2 : x.a < y.b := Int.not_le.1 fun h => hc (.inr (.inl h))
      have hc3 : y.a < x.b := Int.not_le.1 fun h => hc (.inr (.inr h))
      obtain ⟨n1, n2, n3, n4⟩ := hx
      have hn1 : (⟨x.c, x.a, y.a⟩ : QRng).near := ⟨n1, n2, n3, by show y.a ≤ _; omega⟩
      have hn2 : (⟨x.c, y.b, x.b⟩ : QRng).near := ⟨n1, n2, by show 1 ≤ y.b; omega, n4⟩
      obtain ⟨h1, h2⟩ := minus_fold i b (out ++ [⟨x.c, x.a, y.a⟩]) ⟨x.c, y.b, x.b⟩ hn2 hbb
      refine ⟨h1, ?_⟩
      unfold minusStep at h2
      rw [h2, hcons, has_append, has_one, Bool.or_eq_true, near_has hn1, or_assoc]
      refine or_congr Iff.rfl ⟨fun h => ?_, fun ⟨h3, h4⟩ => ?_⟩
      · rcases h with h | ⟨h, h4⟩
        · obtain ⟨e1, e2, e3⟩ := h
          dsimp only at e1 e2 e3
          refine ⟨⟨e1, e2, by omega⟩, fun h5 => ?_⟩
          rcases h5 with ⟨f1, f2, f3⟩ | h5
          · omega
          · obtain ⟨r, hr, hri⟩ := List.any_eq_true.1 h5
            obtain ⟨g1, g2, g3⟩ := (near_has (right_near (hbb.1 r hr)) i).1 hri
            have := hp1 r hr
            omega
        · obtain ⟨e1, e2, e3⟩ := h
          dsimp only at e1 e2 e3
          refine ⟨⟨e1, by omega, e3⟩, fun h5 => ?_⟩
          rcases h5 with ⟨f1, f2, f3⟩ | h5
          · omega
          · exact h4 h5
      · obtain ⟨e1, e2, e3⟩ := h3
        by_cases h6 : i.k < y.a
        · exact .inl ⟨e1, e2, h6⟩
        · refine .inr ⟨⟨e1, ?_, e3⟩, fun h5 => h4 (.inr h5)⟩
          show y.b ≤ i.k
          exact Int.not_lt.1 fun h7 => h4 (.inl ⟨by omega, by omega, h7⟩)
theorem minus_all (i : QId) (b : List QRng) (hb : CleanL b) : ∀ (a out : List QRng), (∀ x ∈ a, x.near) →
    (anyHas (a.foldl (minusOne b) out) i = true ↔ anyHas out i = true ∨ ((∃ x ∈ a, x.inR i) ∧ ¬ anyHas b i = true))
  | [], out, _ => by simp
  | x :: a, out, ha => by
    rw [List.foldl_cons, minus_all i b hb a _ fun y hy => ha y (by simp [hy])]
    have h := (minus_fold i b out x (ha x (by simp)) hb).2
    unfold minusOne
    rw [h, or_assoc]
    refine or_congr Iff.rfl ⟨fun h => ?_, fun ⟨⟨y, hy, hyi⟩, h2⟩ => ?_⟩
    · rcases h with ⟨h, h2⟩ | ⟨⟨y, hy, hyi⟩, h2⟩
      · exact ⟨⟨x, by simp, h⟩, h2⟩
      · exact ⟨⟨y, by simp [hy], hyi⟩, h2⟩
    · rcases List.mem_cons.1 hy with rfl | hy
      · exact .inl ⟨hyi, h2⟩
      · exact .inr ⟨⟨y, hy, hyi⟩, h2⟩
theorem minus_has {a b : List QRng} (ha : CleanL a) (hb : CleanL b) (i : QId) : hasRngs (minusRaw a b) i = (hasRngs a i && !hasRngs b i) := by
  have h := minus_all i b hb a [] fun x hx => right_near (ha.1 x hx)
  have h1 : (∃ x ∈ a, x.inR i) ↔ anyHas a i = true := by
    rw [anyHas, List.any_eq_true]
    exact ⟨fun ⟨x, hx, hxi⟩ => ⟨x, hx, (near_has (right_near (ha.1 x hx)) i).2 hxi⟩, fun ⟨x, hx, hxi⟩ => ⟨x, hx, (near_has (right_near (ha.1 x hx)) i).1 hxi⟩⟩
  rw [h1] at h
  have h2 : anyHas (minusRaw a b) i = (anyHas a i && !anyHas b i) := by
    rw [Bool.eq_iff_iff, minusRaw, h]
    simp [anyHas]
  show (i.rightB && anyHas (minusRaw a b) i) = ((i.rightB && anyHas a i) && !(i.rightB && anyHas b i))
  rw [h2]
  cases i.rightB <;> simp
theorem clean_none {l : List QRng} (h : CleanL l) (h0 : ∀ i, hasRngs l i = false) : l = [] := by
  cases l with
  | nil => rfl
  | cons r l =>
    have hr := right_lt (h.1 r (by simp))
    have := h0 ⟨r.c, r.a⟩
    have hh : r.hasB ⟨r.c, r.a⟩ = true := (near_has (right_near (h.1 r (by simp))) _).2 ⟨rfl, Int.le_refl _, hr.1⟩
    have h1 : (⟨r.c, r.a⟩ : QId).rightB = true := by simp [QId.rightB, numB]; omega
    simp [hasRngs, hh, h1] at this
end Go.Proofs.YthhbiliimdpgmaaGreatDoor
/- Plain: texts as lists of runes: a text is right just where it is the bytes of right runes, and then of one list of them. -/
namespace Go.Proofs.YthhbiliimdpgmaaGreatDoor
open Go.Lib

/-- may a rune be so? -/
def okRune (r : Int) : Prop := (0 ≤ r ∧ r < 55296) ∨ (57344 ≤ r ∧ r ≤ 1114111)
instance (r : Int) : Decidable (okRune r) := by unfold okRune; infer_instance
/-- the bytes of runes. -/
def ebytes (rs : List Int) : List UInt8 := rs.flatMap encodeRune
/-- the text of runes. -/
def estr (rs : List Int) : ByteArray := runesBytes rs

theorem toByteNat (n : Nat) (_ : n < 256) (z : Int) (hz : z = n) : z.toNat.toUInt8 = UInt8.ofNat n := by subst hz; simp [Nat.toUInt8]
theorem encode_rune (r : Int) (h : okRune r) : (Utf8.encode r).data.toList = encodeRune r := by
  have hv : Utf8.valid r = true := by unfold Utf8.valid; unfold okRune at h; simp; omega
  have h0 : 0 ≤ r := by unfold okRune at h; omega
  obtain ⟨n, rfl⟩ := Int.eq_ofNat_of_zero_le h0
  unfold okRune at h
  unfold Utf8.encode encodeRune
  simp only [hv, if_true, Int.toNat_natCast]
  by_cases h1 : n < 128
  · rw [if_pos h1, encodeRuneZ_one (by omega) (by omega)]
    simp [Nat.toUInt8]
  · rw [if_neg h1]
    by_cases h2 : n < 2048
    · rw [if_pos h2, encodeRuneZ_two (by omega) (by omega)]
      simp only [List.map_cons, List.map_nil]
      rw [toByteNat (192 + n / 64) (by omega) _ (by omega), toByteNat (128 + n % 64) (by omega) _ (by omega)]
    · rw [if_neg h2]
      by_cases h3 : n < 65536
      · rw [if_pos h3, encodeRuneZ_three (by omega)]
        simp only [List.map_cons, List.map_nil]
        rw [toByteNat (224 + n / 4096) (by omega) _ (by omega), toByteNat (128 + n / 64 % 64) (by omega) _ (by omega), toByteNat (128 + n % 64) (by omega) _ (by omega)]
      · rw [if_neg h3, encodeRuneZ_four (by omega) (by omega)]
        simp only [List.map_cons, List.map_nil]
        rw [toByteNat (240 + n / 262144) (by omega) _ (by omega), toByteNat (128 + n / 4096 % 64) (by omega) _ (by omega), toByteNat (128 + n / 64 % 64) (by omega) _ (by omega), toByteNat (128 + n % 64) (by omega) _ (by omega)]

theorem ba_append (a b : ByteArray) : (a ++ b).data.toList = a.data.toList ++ b.data.toList := by simp
theorem fold_bytes (rs : List Int) (h : ∀ r ∈ rs, okRune r) : ∀ s : ByteArray, (rs.foldl (fun r n => r ++ Utf8.encode n) s).data.toList = s.data.toList ++ ebytes rs := by
  induction rs with
  | nil => intro s; simp [ebytes]
  | cons r rs ih =>
    intro s
    rw [List.foldl_cons, ih (fun x hx => h x (List.mem_cons_of_mem _ hx)), ba_append, encode_rune r (h r (List.mem_cons_self ..))]
    simp [ebytes]
theorem estr_bytes {rs : List Int} (h : ∀ r ∈ rs, okRune r) : (estr rs).data.toList = ebytes rs := by
  unfold estr runesBytes
  rw [fold_bytes rs h]
  simp
theorem ebytes_append (a b : List Int) : ebytes (a ++ b) = ebytes a ++ ebytes b := by simp [ebytes]
theorem estr_append (a b : List Int) : estr (a ++ b) = estr a ++ estr b := by
  have key : ∀ (b : List Int) (x y : ByteArray), b.foldl (fun r n => r ++ Utf8.encode n) (x ++ y) = x ++ b.foldl (fun r n => r ++ Utf8.encode n) y := by
    intro b
    induction b with
    | nil => intro x y; rfl
    | cons c b ih => intro x y; rw [List.foldl_cons, List.foldl_cons, ByteArray.append_assoc, ih]
  unfold estr runesBytes
  rw [List.foldl_append]
  have := key b (a.foldl (fun r n => r ++ Utf8.encode n) ByteArray.empty) ByteArray.empty
  rwa [ByteArray.append_empty] at this
theorem ext_bytes {a b : ByteArray} (h : a.data.toList = b.data.toList) : a = b := by
  obtain ⟨⟨a⟩⟩ := a; obtain ⟨⟨b⟩⟩ := b; simpa using h

/-- what decodes ahead of anything: the rune that was encoded. -/
theorem decode_encode (r : Int) (h : okRune r) (t : List UInt8) : decodeL (encodeRune r ++ t) = (r.toNat, (encodeRune r).length) := by
  have h0 : 0 ≤ r := by unfold okRune at h; omega
  obtain ⟨n, rfl⟩ := Int.eq_ofNat_of_zero_le h0
  unfold okRune at h
  rw [decodeL_N]
  have tb : ∀ (m : Nat) (z : Int), z = m → m < 256 → (z.toNat.toUInt8).toNat = m := fun m z hz hm => by subst hz; simp [Nat.toUInt8]; omega
  unfold encodeRune
  by_cases h1 : n < 128
  · rw [encodeRuneZ_one (by omega) (by omega)]
    simp only [List.map_cons, List.map_nil, List.cons_append, List.nil_append, List.getD_cons_zero, List.length_cons, List.length_nil]
    rw [tb n _ rfl (by omega)]
    unfold decodeN
    rw [if_pos h1]
    simp
  · by_cases h2 : n < 2048
    · rw [encodeRuneZ_two (by omega) (by omega)]
      simp only [List.map_cons, List.map_nil, List.cons_append, List.nil_append, List.getD_cons_zero, List.getD_cons_succ, List.length_cons, List.length_nil]
      rw [tb (192 + n / 64) _ (by omega) (by omega), tb (128 + n % 64) _ (by omega) (by omega)]
      unfold decodeN
      rw [if_neg (by omega), if_pos (by omega), if_pos (by omega)]
      apply Prod.ext <;> simp <;> omega
    · by_cases h3 : n < 65536
      · rw [encodeRuneZ_three (by omega)]
        simp only [List.map_cons, List.map_nil, List.cons_append, List.nil_append, List.getD_cons_zero, List.getD_cons_succ, List.length_cons, List.length_nil]
        rw [tb (224 + n / 4096) _ (by omega) (by omega), tb (128 + n / 64 % 64) _ (by omega) (by omega), tb (128 + n % 64) _ (by omega) (by omega)]
        unfold decodeN
        rw [if_neg (by omega), if_neg (by omega), if_pos (by omega), if_pos (by omega)]
        apply Prod.ext <;> simp <;> omega
      · rw [encodeRuneZ_four (by omega) (by omega)]
        simp only [List.map_cons, List.map_nil, List.cons_append, List.nil_append, List.getD_cons_zero, List.getD_cons_succ, List.length_cons, List.length_nil]
        rw [tb (240 + n / 262144) _ (by omega) (by omega), tb (128 + n / 4096 % 64) _ (by omega) (by omega), tb (128 + n / 64 % 64) _ (by omega) (by omega), tb (128 + n % 64) _ (by omega) (by omega)]
        unfold decodeN
        rw [if_neg (by omega), if_neg (by omega), if_neg (by omega), if_pos (by omega), if_pos (by omega)]
        apply Prod.ext <;> simp <;> omega
theorem encodeRune_pos (r : Int) : 1 ≤ (encodeRune r).length ∧ (encodeRune r).length ≤ 4 := by
  have := encodeRuneZ_length r
  unfold encodeRune
  rwa [List.length_map]
theorem ok_not_bad {r : Int} (h : okRune r) : ¬ (r.toNat = 65533 ∧ (encodeRune r).length = 1) := by
  rintro ⟨h1, h2⟩
  have : r = 65533 := by unfold okRune at h; omega
  subst this
  revert h2
  decide
/-- a decoded rune is a right one. -/
theorem decode_ok (l : List UInt8) (hv : ¬ ((decodeL l).1 = 65533 ∧ (decodeL l).2 = 1)) : okRune ((decodeL l).1 : Int) := by
  rw [decodeL_N] at hv ⊢
  have k0 := (l.getD 0 0).toNat_lt
  generalize (l.getD 0 0).toNat = b0 at *
  generalize (l.getD 1 0).toNat = b1 at *
  generalize (l.getD 2 0).toNat = b2 at *
  generalize (l.getD 3 0).toNat = b3 at *
  unfold okRune
  unfold decodeN at *
  repeat' split at *
  all_goals first | (exfalso; exact hv ⟨rfl, rfl⟩) | (simp only; omega)

/-- a text's runes; none: it is no text. -/
def runesGo : Nat → List UInt8 → Option (List Int)
  | 0, _ => some []
  | n + 1, l => if l = [] then some [] else if (decodeL l).1 = 65533 ∧ (decodeL l).2 = 1 then none else (runesGo n (l.drop (decodeL l).2)).map (((decodeL l).1 : Int) :: ·)
def runesL (l : List UInt8) : Option (List Int) := runesGo l.length l

theorem runesGo_of : ∀ (n : Nat) (l : List UInt8) (rs : List Int), l.length ≤ n → runesGo n l = some rs → ebytes rs = l ∧ ∀ r ∈ rs, okRune r
  | 0, l, rs, hl, h => by
    obtain rfl : l = [] := List.eq_nil_of_length_eq_zero (by omega)
    simp [runesGo] at h
    subst h
    exact ⟨rfl, by simp⟩
  | n + 1, l, rs, hl, h => by
    unfold runesGo at h
    by_cases hne : l = []
    · rw [if_pos hne] at h
      obtain rfl := Option.some.inj h
      exact ⟨by rw [hne]; rfl, by simp⟩
    · rw [if_neg hne] at h
      by_cases hv : (decodeL l).1 = 65533 ∧ (decodeL l).2 = 1
      · rw [if_pos hv] at h; cases h
      · rw [if_neg hv] at h
        obtain ⟨rs', h1, rfl⟩ := Option.map_eq_some_iff.1 h
        have hw := decodeL_width l
        obtain ⟨h2, h3⟩ := runesGo_of n _ rs' (by rw [List.length_drop]; omega) h1
        refine ⟨?_, fun r hr => ?_⟩
        · have e : ebytes (((decodeL l).1 : Int) :: rs') = encodeRune ((decodeL l).1 : Int) ++ ebytes rs' := by simp [ebytes]
          rw [e, h2, encode_decode l hne hv, List.take_append_drop]
        · rcases List.mem_cons.1 hr with rfl | hr
          · exact decode_ok l hv
          · exact h3 r hr
theorem runesGo_enc : ∀ (rs : List Int) (n : Nat), (∀ r ∈ rs, okRune r) → (ebytes rs).length ≤ n → runesGo n (ebytes rs) = some rs
  | [], 0, _, _ => rfl
  | [], n + 1, _, _ => rfl
  | r :: rs, n, h, hn => by
    have e : ebytes (r :: rs) = encodeRune r ++ ebytes rs := by simp [ebytes]
    have hp := encodeRune_pos r
    rw [e, List.length_append] at hn
    cases n with
    | zero => omega
    | succ n =>
      unfold runesGo
      have hr := h r (List.mem_cons_self ..)
      rw [e, if_neg (by intro h0; have := congrArg List.length h0; rw [List.length_append, List.length_nil] at this; omega), decode_encode r hr]
      simp only
      rw [if_neg (ok_not_bad hr), List.drop_left, runesGo_enc rs n (fun x hx => h x (List.mem_cons_of_mem _ hx)) (by omega)]
      simp only [Option.map_some]
      rw [Int.toNat_of_nonneg (by unfold okRune at hr; omega)]
theorem runesGo_fuel : ∀ (n m : Nat) (l : List UInt8), l.length ≤ n → l.length ≤ m → runesGo n l = runesGo m l
  | 0, m, l, h, _ => by
    obtain rfl : l = [] := List.eq_nil_of_length_eq_zero (by omega)
    cases m <;> rfl
  | n + 1, 0, l, _, h => by
    obtain rfl : l = [] := List.eq_nil_of_length_eq_zero (by omega)
    rfl
  | n + 1, m + 1, l, h1, h2 => by
    unfold runesGo
    by_cases hne : l = []
    · rw [if_pos hne, if_pos hne]
    · have hw := decodeL_width l
      rw [if_neg hne, if_neg hne, runesGo_fuel n m (l.drop (decodeL l).2) (by rw [List.length_drop]; omega) (by rw [List.length_drop]; omega)]
theorem runesL_nil : runesL [] = some [] := rfl
theorem runesL_step (l : List UInt8) (hne : l ≠ []) : runesL l = if (decodeL l).1 = 65533 ∧ (decodeL l).2 = 1 then none else (runesL (l.drop (decodeL l).2)).map (((decodeL l).1 : Int) :: ·) := by
  have hl : 0 < l.length := List.length_pos_iff.2 hne
  have hw := decodeL_width l
  unfold runesL
  obtain ⟨n, hn⟩ : ∃ n, l.length = n + 1 := ⟨l.length - 1, by omega⟩
  rw [hn]
  conv => lhs; unfold runesGo
  rw [if_neg hne, runesGo_fuel n (l.drop (decodeL l).2).length (l.drop (decodeL l).2) (by rw [List.length_drop]; omega) (Nat.le_refl _)]
theorem runesL_of {l : List UInt8} {rs : List Int} (h : runesL l = some rs) : ebytes rs = l ∧ ∀ r ∈ rs, okRune r := runesGo_of _ _ _ (Nat.le_refl _) h
theorem runesL_enc {rs : List Int} (h : ∀ r ∈ rs, okRune r) : runesL (ebytes rs) = some rs := runesGo_enc _ _ h (Nat.le_refl _)

theorem validGo_runes : ∀ (n : Nat) (l : List UInt8), validGoD n l = (runesGo n l).isSome
  | 0, _ => rfl
  | n + 1, l => by
    unfold validGoD runesGo
    by_cases hne : l = []
    · rw [if_pos hne, if_pos hne]; rfl
    · rw [if_neg hne, if_neg hne]
      by_cases hv : (decodeL l).1 = 65533 ∧ (decodeL l).2 = 1
      · rw [if_pos hv, if_pos hv]; rfl
      · rw [if_neg hv, if_neg hv, validGo_runes n]
        simp
theorem validD_runes (l : List UInt8) : validD l = (runesL l).isSome := validGo_runes _ _
theorem validD_enc {rs : List Int} (h : ∀ r ∈ rs, okRune r) : validD (ebytes rs) = true := by rw [validD_runes, runesL_enc h]; rfl

/-- the place of a rune. -/
def eoff (rs : List Int) (k : Nat) : Nat := (ebytes (rs.take k)).length
theorem size_bytes (s : ByteArray) : s.size = s.data.toList.length := by simp
theorem estr_size {rs : List Int} (h : ∀ r ∈ rs, okRune r) : (estr rs).size = (ebytes rs).length := by rw [size_bytes, estr_bytes h]
theorem ebytes_length (rs : List Int) : rs.length ≤ (ebytes rs).length ∧ (ebytes rs).length ≤ 4 * rs.length := by
  induction rs with
  | nil => simp [ebytes]
  | cons r rs ih =>
    have e : ebytes (r :: rs) = encodeRune r ++ ebytes rs := by simp [ebytes]
    have := encodeRune_pos r
    rw [e, List.length_append, List.length_cons]
    omega
theorem decode_place {rs : List Int} (h : ∀ r ∈ rs, okRune r) {k : Nat} {r : Int} (hk : rs[k]? = some r) : Utf8.decode (estr rs) (eoff rs k) = (r.toNat, (encodeRune r).length) := by
  rw [← decodeL_drop, estr_bytes h]
  obtain ⟨hlt, he⟩ := List.getElem?_eq_some_iff.1 hk
  have e : ebytes rs = ebytes (rs.take k) ++ (encodeRune r ++ ebytes (rs.drop (k + 1))) := by
    have e1 : rs = rs.take k ++ r :: rs.drop (k + 1) := by rw [← he, List.getElem_cons_drop, List.take_append_drop]
    conv => lhs; rw [e1]
    rw [ebytes_append]
    simp [ebytes]
  rw [e]
  unfold eoff
  rw [List.drop_left]
  exact decode_encode r (h r (List.mem_of_getElem? hk)) _
theorem eoff_succ (rs : List Int) {k : Nat} {r : Int} (hk : rs[k]? = some r) : eoff rs (k + 1) = eoff rs k + (encodeRune r).length := by
  obtain ⟨hlt, he⟩ := List.getElem?_eq_some_iff.1 hk
  unfold eoff
  rw [List.take_succ_eq_append_getElem hlt, he, ebytes_append, List.length_append]
  simp [ebytes]
theorem eoff_zero (rs : List Int) : eoff rs 0 = 0 := by simp [eoff, ebytes]
theorem eoff_end (rs : List Int) : eoff rs rs.length = (ebytes rs).length := by simp [eoff]
theorem eoff_lt (rs : List Int) {k : Nat} (hk : k < rs.length) : eoff rs k < (ebytes rs).length := by
  have e : ebytes rs = ebytes (rs.take k) ++ ebytes (rs.drop k) := by rw [← ebytes_append, List.take_append_drop]
  have := (ebytes_length (rs.drop k)).1
  rw [List.length_drop] at this
  rw [e, List.length_append]
  unfold eoff
  omega
theorem runeCountFrom_enc {rs : List Int} (h : ∀ r ∈ rs, okRune r) : ∀ (fuel k : Nat), k ≤ rs.length → (ebytes rs).length ≤ fuel + eoff rs k → runeCountFrom (estr rs) fuel (eoff rs k) = rs.length - k
  | 0, k, hk, hf => by
    rcases Nat.lt_or_ge k rs.length with h1 | h1
    · have := eoff_lt rs h1; omega
    · simp [runeCountFrom]; omega
  | f + 1, k, hk, hf => by
    rcases Nat.lt_or_ge k rs.length with h1 | h1
    · obtain ⟨r, hr⟩ : ∃ r, rs[k]? = some r := ⟨rs[k], by simp [h1]⟩
      have hlt := eoff_lt rs h1
      have hp := encodeRune_pos r
      unfold runeCountFrom
      rw [if_pos (by rw [estr_size h]; exact hlt), decode_place h hr]
      simp only
      rw [← eoff_succ rs hr, runeCountFrom_enc h f (k + 1) (by omega) (by rw [eoff_succ rs hr]; omega)]
      omega
    · obtain rfl : k = rs.length := by omega
      rw [runeCountFrom_end _ _ _ (by rw [estr_size h, eoff_end]; omega)]
      omega
theorem runeCount_enc {rs : List Int} (h : ∀ r ∈ rs, okRune r) : runeCount (estr rs) = rs.length := by
  unfold runeCount
  have := runeCountFrom_enc h (estr rs).size 0 (Nat.zero_le _) (by rw [estr_size h]; omega)
  rwa [eoff_zero, Nat.sub_zero] at this
/-- a right text is the text of its runes. -/
theorem text_of_runes {s : ByteArray} {rs : List Int} (h : runesL s.data.toList = some rs) : s = estr rs ∧ ∀ r ∈ rs, okRune r := by
  obtain ⟨h1, h2⟩ := runesL_of h
  exact ⟨ext_bytes (by rw [estr_bytes h2, h1]), h2⟩
theorem estr_inj {a b : List Int} (ha : ∀ r ∈ a, okRune r) (hb : ∀ r ∈ b, okRune r) (h : estr a = estr b) : a = b := by
  have := congrArg (fun s : ByteArray => runesL s.data.toList) h
  simp only [estr_bytes ha, estr_bytes hb, runesL_enc ha, runesL_enc hb, Option.some.injEq] at this
  exact this
end Go.Proofs.YthhbiliimdpgmaaGreatDoor
/- A text as its runes, plain. -/
namespace Go.Proofs.YthhbiliimdpgmaaGreatDoor
open Go.RowKit Go.Lib

def strSz : Value → Nat
  | .string t => t.size
  | _ => 0
def encR (c : Int) : List Value := [.int .i32 c]
theorem infoR : (Tryz.prog.info? 21).map (fun i => (i.zero, i.size, i.bytes)) = some (some (.int .i32 0), 1, 4) := by kernel_rfl
theorem ownsRow_len {w : World} {base e size n : Nat} {v : Value} {xs : List Value} (h : w.ownsRow base e size v n xs) : ∃ p c, v = .slice p n c := by
  rcases h.2 with ⟨rfl, e⟩ | ⟨g, cap, cur, e, _⟩
  · exact ⟨none, 0, by rw [e]⟩
  · exact ⟨_, cap, e⟩
/-- a text's runes, none of a wrong one. -/
def runesB (s : ByteArray) : List Int := (runesL s.data.toList).getD []
def okB (s : ByteArray) : Bool := (runesL s.data.toList).isSome
theorem nonempty_bytes {t : ByteArray} (h : 0 < t.size) : t.data.toList ≠ [] := fun e => by
  have := size_bytes t
  rw [e, List.length_nil] at this
  omega
end Go.Proofs.YthhbiliimdpgmaaGreatDoor
/- Slice expressions: one run equation each, the address under one name. -/
namespace Go.Proofs.YthhbiliimdpgmaaGreatDoor
open Go.RowKit

theorem slice_lh_run {T : TypeId} {k : Nat} (hu : Tryz.prog.underlying T = some (.slice (Tryz.prog.elem T))) (hk : ∀ w, (sizeOf (Tryz.prog.elem T)).run Tryz.prog w = .ok k w) (g o n c l h : Nat) (h1 : l < h) (h2 : h ≤ c) (w : World) :
    (Instr.slice T (.slice (some ⟨g, o, none⟩) n c) (some (.int .i64 (l : Int))) (some (.int .i64 (h : Int))) none).run Tryz.prog w = .ok (.slice (some ⟨g, o + l * k, none⟩) (h - l) (c - l)) w := by
  rw [run_slice_lh w T _ n c hu .i64 .i64 l h (by omega) (by omega) (by omega), hk]
  simp [Result.andThen_ok, sliced, show ¬ c = l by omega, Addr.add]
theorem slice_l_run {T : TypeId} {k : Nat} (hu : Tryz.prog.underlying T = some (.slice (Tryz.prog.elem T))) (hk : ∀ w, (sizeOf (Tryz.prog.elem T)).run Tryz.prog w = .ok k w) (g o n c l : Nat) (h1 : l ≤ n) (h2 : n ≤ c) :
    ∃ off, (l < n → off = o + l * k) ∧ ∀ w, (Instr.slice T (.slice (some ⟨g, o, none⟩) n c) (some (.int .i64 (l : Int))) none none).run Tryz.prog w = .ok (.slice (some ⟨g, off, none⟩) (n - l) (c - l)) w := by
  refine ⟨if c = l then o else o + l * k, fun h => by rw [if_neg (by omega)], fun w => ?_⟩
  rw [run_slice_l w T _ n c hu .i64 l (by omega) (by omega), hk]
  by_cases hc : c = l
  · simp [Result.andThen_ok, sliced, hc]
  · simp [Result.andThen_ok, sliced, hc, Addr.add]
theorem slice_h_run {T : TypeId} {k : Nat} (hu : Tryz.prog.underlying T = some (.slice (Tryz.prog.elem T))) (hk : ∀ w, (sizeOf (Tryz.prog.elem T)).run Tryz.prog w = .ok k w) (g o n c h : Nat) (h2 : h ≤ c) (w : World) :
    (Instr.slice T (.slice (some ⟨g, o, none⟩) n c) none (some (.int .i64 (h : Int))) none).run Tryz.prog w = .ok (.slice (some ⟨g, o, none⟩) h c) w := by
  rw [run_slice_h w T _ n c hu .i64 h (by omega) (by omega), hk]
  by_cases hc : c = 0
  · simp [Result.andThen_ok, sliced, hc]
  · simp [Result.andThen_ok, sliced, hc, Addr.add]
end Go.Proofs.YthhbiliimdpgmaaGreatDoor
