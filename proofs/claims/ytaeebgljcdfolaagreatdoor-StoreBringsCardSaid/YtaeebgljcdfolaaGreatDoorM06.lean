/- Plain: texts as lists of runes: a text is right just where it is the bytes of right runes, and then of one list of them. -/
import Derived.Test.YtaeebgljcdfolaaGreatDoorM01
import Derived.Lib.MapLaws
import Derived.Lib.ValidU
import Derived.Lib.RuneCount
import Derived.Lib.RuneBytes
import Derived.Laws.Cover4
namespace Go.Proofs.YtaeebgljcdfolaaGreatDoor
open Go.Lib

/-- may a rune be so? -/
def okRune (r : Int) : Prop := (0 ≤ r ∧ r < 55296) ∨ (57344 ≤ r ∧ r ≤ 1114111)
instance (r : Int) : Decidable (okRune r) := by unfold okRune; infer_instance
/-- the bytes of runes. -/
def ebytes (rs : List Int) : List UInt8 := rs.flatMap encodeRune
/-- the text of runes. -/
def estr (rs : List Int) : ByteArray := runesBytes rs

theorem toByteNat (n : Nat) (_ : n < 256) (z : Int) (hz : z = n) : z.toNat.toUInt8 = UInt8.ofNat n := by subst hz; simp [Nat.toUInt8]
theorem encode_rune (r : Int) (h : okRune r) : (Utf8.encode r).data.toList = encodeRune r := by
  have hv : Utf8.valid r = true := by unfold Utf8.valid; unfold okRune at h; simp; omega
  have h0 : 0 ≤ r := by unfold okRune at h; omega
  obtain ⟨n, rfl⟩ := Int.eq_ofNat_of_zero_le h0
  unfold okRune at h
  unfold Utf8.encode encodeRune
  simp only [hv, if_true, Int.toNat_natCast]
  by_cases h1 : n < 128
  · rw [if_pos h1, encodeRuneZ_one (by omega) (by omega)]
    simp [Nat.toUInt8]
  · rw [if_neg h1]
    by_cases h2 : n < 2048
    · rw [if_pos h2, encodeRuneZ_two (by omega) (by omega)]
      simp only [List.map_cons, List.map_nil]
      rw [toByteNat (192 + n / 64) (by omega) _ (by omega), toByteNat (128 + n % 64) (by omega) _ (by omega)]
    · rw [if_neg h2]
      by_cases h3 : n < 65536
      · rw [if_pos h3, encodeRuneZ_three (by omega)]
        simp only [List.map_cons, List.map_nil]
        rw [toByteNat (224 + n / 4096) (by omega) _ (by omega), toByteNat (128 + n / 64 % 64) (by omega) _ (by omega), toByteNat (128 + n % 64) (by omega) _ (by omega)]
      · rw [if_neg h3, encodeRuneZ_four (by omega) (by omega)]
        simp only [List.map_cons, List.map_nil]
        rw [toByteNat (240 + n / 262144) (by omega) _ (by omega), toByteNat (128 + n / 4096 % 64) (by omega) _ (by omega), toByteNat (128 + n / 64 % 64) (by omega) _ (by omega), toByteNat (128 + n % 64) (by omega) _ (by omega)]

theorem ba_append (a b : ByteArray) : (a ++ b).data.toList = a.data.toList ++ b.data.toList := by simp
theorem fold_bytes (rs : List Int) (h : ∀ r ∈ rs, okRune r) : ∀ s : ByteArray, (rs.foldl (fun r n => r ++ Utf8.encode n) s).data.toList = s.data.toList ++ ebytes rs := by
  induction rs with
  | nil => intro s; simp [ebytes]
  | cons r rs ih =>
    intro s
    rw [List.foldl_cons, ih (fun x hx => h x (List.mem_cons_of_mem _ hx)), ba_append, encode_rune r (h r (List.mem_cons_self ..))]
    simp [ebytes]
theorem estr_bytes {rs : List Int} (h : ∀ r ∈ rs, okRune r) : (estr rs).data.toList = ebytes rs := by
  unfold estr runesBytes
  rw [fold_bytes rs h]
  simp
theorem ebytes_append (a b : List Int) : ebytes (a ++ b) = ebytes a ++ ebytes b := by simp [ebytes]
theorem estr_append (a b : List Int) : estr (a ++ b) = estr a ++ estr b := by
  have key : ∀ (b : List Int) (x y : ByteArray), b.foldl (fun r n => r ++ Utf8.encode n) (x ++ y) = x ++ b.foldl (fun r n => r ++ Utf8.encode n) y := by
    intro b
    induction b with
    | nil => intro x y; rfl
    | cons c b ih => intro x y; rw [List.foldl_cons, List.foldl_cons, ByteArray.append_assoc, ih]
  unfold estr runesBytes
  rw [List.foldl_append]
  have := key b (a.foldl (fun r n => r ++ Utf8.encode n) ByteArray.empty) ByteArray.empty
  rwa [ByteArray.append_empty] at this
theorem ext_bytes {a b : ByteArray} (h : a.data.toList = b.data.toList) : a = b := by
  obtain ⟨⟨a⟩⟩ := a; obtain ⟨⟨b⟩⟩ := b; simpa using h

/-- what decodes ahead of anything: the rune that was encoded. -/
theorem decode_encode (r : Int) (h : okRune r) (t : List UInt8) : decodeL (encodeRune r ++ t) = (r.toNat, (encodeRune r).length) := by
  have h0 : 0 ≤ r := by unfold okRune at h; omega
  obtain ⟨n, rfl⟩ := Int.eq_ofNat_of_zero_le h0
  unfold okRune at h
  rw [decodeL_N]
  have tb : ∀ (m : Nat) (z : Int), z = m → m < 256 → (z.toNat.toUInt8).toNat = m := fun m z hz hm => by subst hz; simp [Nat.toUInt8]; omega
  unfold encodeRune
  by_cases h1 : n < 128
  · rw [encodeRuneZ_one (by omega) (by omega)]
    simp only [List.map_cons, List.map_nil, List.cons_append, List.nil_append, List.getD_cons_zero, List.length_cons, List.length_nil]
    rw [tb n _ rfl (by omega)]
    unfold decodeN
    rw [if_pos h1]
    simp
  · by_cases h2 : n < 2048
    · rw [encodeRuneZ_two (by omega) (by omega)]
      simp only [List.map_cons, List.map_nil, List.cons_append, List.nil_append, List.getD_cons_zero, List.getD_cons_succ, List.length_cons, List.length_nil]
      rw [tb (192 + n / 64) _ (by omega) (by omega), tb (128 + n % 64) _ (by omega) (by omega)]
      unfold decodeN
      rw [if_neg (by omega), if_pos (by omega), if_pos (by omega)]
      apply Prod.ext <;> simp <;> omega
    · by_cases h3 : n < 65536
      · rw [encodeRuneZ_three (by omega)]
        simp only [List.map_cons, List.map_nil, List.cons_append, List.nil_append, List.getD_cons_zero, List.getD_cons_succ, List.length_cons, List.length_nil]
        rw [tb (224 + n / 4096) _ (by omega) (by omega), tb (128 + n / 64 % 64) _ (by omega) (by omega), tb (128 + n % 64) _ (by omega) (by omega)]
        unfold decodeN
        rw [if_neg (by omega), if_neg (by omega), if_pos (by omega), if_pos (by omega)]
        apply Prod.ext <;> simp <;> omega
      · rw [encodeRuneZ_four (by omega) (by omega)]
        simp only [List.map_cons, List.map_nil, List.cons_append, List.nil_append, List.getD_cons_zero, List.getD_cons_succ, List.length_cons, List.length_nil]
        rw [tb (240 + n / 262144) _ (by omega) (by omega), tb (128 + n / 4096 % 64) _ (by omega) (by omega), tb (128 + n / 64 % 64) _ (by omega) (by omega), tb (128 + n % 64) _ (by omega) (by omega)]
        unfold decodeN
        rw [if_neg (by omega), if_neg (by omega), if_neg (by omega), if_pos (by omega), if_pos (by omega)]
        apply Prod.ext <;> simp <;> omega
theorem encodeRune_pos (r : Int) : 1 ≤ (encodeRune r).length ∧ (encodeRune r).length ≤ 4 := by
  have := encodeRuneZ_length r
  unfold encodeRune
  rwa [List.length_map]
theorem ok_not_bad {r : Int} (h : okRune r) : ¬ (r.toNat = 65533 ∧ (encodeRune r).length = 1) := by
  rintro ⟨h1, h2⟩
  have : r = 65533 := by unfold okRune at h; omega
  subst this
  revert h2
  decide
/-- a decoded rune is a right one. -/
theorem decode_ok (l : List UInt8) (hv : ¬ ((decodeL l).1 = 65533 ∧ (decodeL l).2 = 1)) : okRune ((decodeL l).1 : Int) := by
  rw [decodeL_N] at hv ⊢
  have k0 := (l.getD 0 0).toNat_lt
  generalize (l.getD 0 0).toNat = b0 at *
  generalize (l.getD 1 0).toNat = b1 at *
  generalize (l.getD 2 0).toNat = b2 at *
  generalize (l.getD 3 0).toNat = b3 at *
  unfold okRune
  unfold decodeN at *
  repeat' split at *
  all_goals first | (exfalso; exact hv ⟨rfl, rfl⟩) | (simp only; omega)

/-- a text's runes; none: it is no text. -/
def runesGo : Nat → List UInt8 → Option (List Int)
  | 0, _ => some []
  | n + 1, l => if l = [] then some [] else if (decodeL l).1 = 65533 ∧ (decodeL l).2 = 1 then none else (runesGo n (l.drop (decodeL l).2)).map (((decodeL l).1 : Int) :: ·)
def runesL (l : List UInt8) : Option (List Int) := runesGo l.length l

theorem runesGo_of : ∀ (n : Nat) (l : List UInt8) (rs : List Int), l.length ≤ n → runesGo n l = some rs → ebytes rs = l ∧ ∀ r ∈ rs, okRune r
  | 0, l, rs, hl, h => by
    obtain rfl : l = [] := List.eq_nil_of_length_eq_zero (by omega)
    simp [runesGo] at h
    subst h
    exact ⟨rfl, by simp⟩
  | n + 1, l, rs, hl, h => by
    unfold runesGo at h
    by_cases hne : l = []
    · rw [if_pos hne] at h
      obtain rfl := Option.some.inj h
      exact ⟨by rw [hne]; rfl, by simp⟩
    · rw [if_neg hne] at h
      by_cases hv : (decodeL l).1 = 65533 ∧ (decodeL l).2 = 1
      · rw [if_pos hv] at h; cases h
      · rw [if_neg hv] at h
        obtain ⟨rs', h1, rfl⟩ := Option.map_eq_some_iff.1 h
        have hw := decodeL_width l
        obtain ⟨h2, h3⟩ := runesGo_of n _ rs' (by rw [List.length_drop]; omega) h1
        refine ⟨?_, fun r hr => ?_⟩
        · have e : ebytes (((decodeL l).1 : Int) :: rs') = encodeRune ((decodeL l).1 : Int) ++ ebytes rs' := by simp [ebytes]
          rw [e, h2, encode_decode l hne hv, List.take_append_drop]
        · rcases List.mem_cons.1 hr with rfl | hr
          · exact decode_ok l hv
          · exact h3 r hr
theorem runesGo_enc : ∀ (rs : List Int) (n : Nat), (∀ r ∈ rs, okRune r) → (ebytes rs).length ≤ n → runesGo n (ebytes rs) = some rs
  | [], 0, _, _ => rfl
  | [], n + 1, _, _ => rfl
  | r :: rs, n, h, hn => by
    have e : ebytes (r :: rs) = encodeRune r ++ ebytes rs := by simp [ebytes]
    have hp := encodeRune_pos r
    rw [e, List.length_append] at hn
    cases n with
    | zero => omega
    | succ n =>
      unfold runesGo
      have hr := h r (List.mem_cons_self ..)
      rw [e, if_neg (by intro h0; have := congrArg List.length h0; rw [List.length_append, List.length_nil] at this; omega), decode_encode r hr]
      simp only
      rw [if_neg (ok_not_bad hr), List.drop_left, runesGo_enc rs n (fun x hx => h x (List.mem_cons_of_mem _ hx)) (by omega)]
      simp only [Option.map_some]
      rw [Int.toNat_of_nonneg (by unfold okRune at hr; omega)]
theorem runesGo_fuel : ∀ (n m : Nat) (l : List UInt8), l.length ≤ n → l.length ≤ m → runesGo n l = runesGo m l
  | 0, m, l, h, _ => by
    obtain rfl : l = [] := List.eq_nil_of_length_eq_zero (by omega)
    cases m <;> rfl
  | n + 1, 0, l, _, h => by
    obtain rfl : l = [] := List.eq_nil_of_length_eq_zero (by omega)
    rfl
  | n + 1, m + 1, l, h1, h2 => by
    unfold runesGo
    by_cases hne : l = []
    · rw [if_pos hne, if_pos hne]
    · have hw := decodeL_width l
      rw [if_neg hne, if_neg hne, runesGo_fuel n m (l.drop (decodeL l).2) (by rw [List.length_drop]; omega) (by rw [List.length_drop]; omega)]
theorem runesL_nil : runesL [] = some [] := rfl
theorem runesL_step (l : List UInt8) (hne : l ≠ []) : runesL l = if (decodeL l).1 = 65533 ∧ (decodeL l).2 = 1 then none else (runesL (l.drop (decodeL l).2)).map (((decodeL l).1 : Int) :: ·) := by
  have hl : 0 < l.length := List.length_pos_iff.2 hne
  have hw := decodeL_width l
  unfold runesL
  obtain ⟨n, hn⟩ : ∃ n, l.length = n + 1 := ⟨l.length - 1, by omega⟩
  rw [hn]
  conv => lhs; unfold runesGo
  rw [if_neg hne, runesGo_fuel n (l.drop (decodeL l).2).length (l.drop (decodeL l).2) (by rw [List.length_drop]; omega) (Nat.le_refl _)]
theorem runesL_of {l : List UInt8} {rs : List Int} (h : runesL l = some rs) : ebytes rs = l ∧ ∀ r ∈ rs, okRune r := runesGo_of _ _ _ (Nat.le_refl _) h
theorem runesL_enc {rs : List Int} (h : ∀ r ∈ rs, okRune r) : runesL (ebytes rs) = some rs := runesGo_enc _ _ h (Nat.le_refl _)

theorem validGo_runes : ∀ (n : Nat) (l : List UInt8), validGoD n l = (runesGo n l).isSome
  | 0, _ => rfl
  | n + 1, l => by
    unfold validGoD runesGo
    by_cases hne : l = []
    · rw [if_pos hne, if_pos hne]; rfl
    · rw [if_neg hne, if_neg hne]
      by_cases hv : (decodeL l).1 = 65533 ∧ (decodeL l).2 = 1
      · rw [if_pos hv, if_pos hv]; rfl
      · rw [if_neg hv, if_neg hv, validGo_runes n]
        simp
theorem validD_runes (l : List UInt8) : validD l = (runesL l).isSome := validGo_runes _ _
theorem validD_enc {rs : List Int} (h : ∀ r ∈ rs, okRune r) : validD (ebytes rs) = true := by rw [validD_runes, runesL_enc h]; rfl

/-- the place of a rune. -/
def eoff (rs : List Int) (k : Nat) : Nat := (ebytes (rs.take k)).length
theorem size_bytes (s : ByteArray) : s.size = s.data.toList.length := by simp
theorem estr_size {rs : List Int} (h : ∀ r ∈ rs, okRune r) : (estr rs).size = (ebytes rs).length := by rw [size_bytes, estr_bytes h]
theorem ebytes_length (rs : List Int) : rs.length ≤ (ebytes rs).length ∧ (ebytes rs).length ≤ 4 * rs.length := by
  induction rs with
  | nil => simp [ebytes]
  | cons r rs ih =>
    have e : ebytes (r :: rs) = encodeRune r ++ ebytes rs := by simp [ebytes]
    have := encodeRune_pos r
    rw [e, List.length_append, List.length_cons]
    omega
theorem decode_place {rs : List Int} (h : ∀ r ∈ rs, okRune r) {k : Nat} {r : Int} (hk : rs[k]? = some r) : Utf8.decode (estr rs) (eoff rs k) = (r.toNat, (encodeRune r).length) := by
  rw [← decodeL_drop, estr_bytes h]
  obtain ⟨hlt, he⟩ := List.getElem?_eq_some_iff.1 hk
  have e : ebytes rs = ebytes (rs.take k) ++ (encodeRune r ++ ebytes (rs.drop (k + 1))) := by
    have e1 : rs = rs.take k ++ r :: rs.drop (k + 1) := by rw [← he, List.getElem_cons_drop, List.take_append_drop]
    conv => lhs; rw [e1]
    rw [ebytes_append]
    simp [ebytes]
  rw [e]
  unfold eoff
  rw [List.drop_left]
  exact decode_encode r (h r (List.mem_of_getElem? hk)) _
theorem eoff_succ (rs : List Int) {k : Nat} {r : Int} (hk : rs[k]? = some r) : eoff rs (k + 1) = eoff rs k + (encodeRune r).length := by
  obtain ⟨hlt, he⟩ := List.getElem?_eq_some_iff.1 hk
  unfold eoff
  rw [List.take_succ_eq_append_getElem hlt, he, ebytes_append, List.length_append]
  simp [ebytes]
theorem eoff_zero (rs : List Int) : eoff rs 0 = 0 := by simp [eoff, ebytes]
theorem eoff_end (rs : List Int) : eoff rs rs.length = (ebytes rs).length := by simp [eoff]
theorem eoff_lt (rs : List Int) {k : Nat} (hk : k < rs.length) : eoff rs k < (ebytes rs).length := by
  have e : ebytes rs = ebytes (rs.take k) ++ ebytes (rs.drop k) := by rw [← ebytes_append, List.take_append_drop]
  have := (ebytes_length (rs.drop k)).1
  rw [List.length_drop] at this
  rw [e, List.length_append]
  unfold eoff
  omega
theorem runeCountFrom_enc {rs : List Int} (h : ∀ r ∈ rs, okRune r) : ∀ (fuel k : Nat), k ≤ rs.length → (ebytes rs).length ≤ fuel + eoff rs k → runeCountFrom (estr rs) fuel (eoff rs k) = rs.length - k
  | 0, k, hk, hf => by
    rcases Nat.lt_or_ge k rs.length with h1 | h1
    · have := eoff_lt rs h1; omega
    · simp [runeCountFrom]; omega
  | f + 1, k, hk, hf => by
    rcases Nat.lt_or_ge k rs.length with h1 | h1
    · obtain ⟨r, hr⟩ : ∃ r, rs[k]? = some r := ⟨rs[k], by simp [h1]⟩
      have hlt := eoff_lt rs h1
      have hp := encodeRune_pos r
      unfold runeCountFrom
      rw [if_pos (by rw [estr_size h]; exact hlt), decode_place h hr]
      simp only
      rw [← eoff_succ rs hr, runeCountFrom_enc h f (k + 1) (by omega) (by rw [eoff_succ rs hr]; omega)]
      omega
    · obtain rfl : k = rs.length := by omega
      rw [runeCountFrom_end _ _ _ (by rw [estr_size h, eoff_end]; omega)]
      omega
theorem runeCount_enc {rs : List Int} (h : ∀ r ∈ rs, okRune r) : runeCount (estr rs) = rs.length := by
  unfold runeCount
  have := runeCountFrom_enc h (estr rs).size 0 (Nat.zero_le _) (by rw [estr_size h]; omega)
  rwa [eoff_zero, Nat.sub_zero] at this
/-- a right text is the text of its runes. -/
theorem text_of_runes {s : ByteArray} {rs : List Int} (h : runesL s.data.toList = some rs) : s = estr rs ∧ ∀ r ∈ rs, okRune r := by
  obtain ⟨h1, h2⟩ := runesL_of h
  exact ⟨ext_bytes (by rw [estr_bytes h2, h1]), h2⟩
theorem estr_inj {a b : List Int} (ha : ∀ r ∈ a, okRune r) (hb : ∀ r ∈ b, okRune r) (h : estr a = estr b) : a = b := by
  have := congrArg (fun s : ByteArray => runesL s.data.toList) h
  simp only [estr_bytes ha, estr_bytes hb, runesL_enc ha, runesL_enc hb, Option.some.injEq] at this
  exact this
end Go.Proofs.YtaeebgljcdfolaaGreatDoor
