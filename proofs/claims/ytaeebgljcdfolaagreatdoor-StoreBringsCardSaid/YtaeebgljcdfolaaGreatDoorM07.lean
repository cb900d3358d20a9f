/- Walk: the document's answer's decoder (quireref3.next): the model's own. -/
import Derived.Test.YtaeebgljcdfolaaGreatDoorM06
import Derived.Test.YtaeebgljcdfolaaGreatDoorM01
import Derived.Laws.BitsAllLaws
import Derived.Lib.Bits
import Derived.Test.YtaeebgljcdfolaaGreatDoorM02
import Derived.Maps.AppendAt
import Derived.Sort.Grow
import Derived.Maps.OwnRows
import Derived.WalkSpells
namespace Go.Proofs.YtaeebgljcdfolaaGreatDoor
open Go.RowKit Go.Lib

/-- what next tells: the rune and its bytes; zeros: it is none. -/
def nextOf (s : ByteArray) : Int × Nat := if (Utf8.decode s 0).1 = 65533 ∧ (Utf8.decode s 0).2 = 1 then (0, 0) else (((Utf8.decode s 0).1 : Int), (Utf8.decode s 0).2)
def nB (s : ByteArray) (k : Nat) : Nat := (s.get! k).toNat
theorem nB_lt (s : ByteArray) (k : Nat) : nB s k < 256 := (s.get! k).toNat_lt
theorem get_nB (s : ByteArray) (k : Nat) (h : k < s.size) : (s[k]'h).toNat = nB s k := by
  unfold nB
  congr 1
  cases s with
  | mk d => show d[k]'h = d[k]!; rw [getElem!_pos d k h]
theorem decode0 (s : ByteArray) : Utf8.decode s 0 = decodeN s.size (nB s 0) (nB s 1) (nB s 2) (nB s 3) := by rw [decode_at]; rfl
def accN (s : ByteArray) (m : Nat) : Nat → Nat
  | 0 => 0
  | 1 => nB s 0 % m
  | j + 2 => accN s m (j + 1) * 64 + nB s (j + 1) % 64

def Next3R (s : ByteArray) (w : World) (e : Ending) (w' : World) : Prop := e = .returned (.tuple #[.int .i32 (nextOf s).1, .int .i64 (nextOf s).2]) ∧ w = w'
theorem Next3R.mk {s : ByteArray} {w : World} {r : Int} {n : Int} (h : nextOf s = (r, n.toNat)) (h0 : 0 ≤ n) : Next3R s w (.returned (.tuple #[.int .i32 r, .int .i64 n])) w := by
  refine ⟨?_, rfl⟩
  rw [h]
  simp only
  rw [Int.toNat_of_nonneg h0]

theorem nextOf_1 (s : ByteArray) (h : nB s 0 < 128) : nextOf s = ((nB s 0 : Int), 1) := by
  unfold nextOf
  rw [decode0]
  unfold decodeN
  rw [if_pos h, if_neg (by simp; omega)]
theorem nextOf_bad (s : ByteArray) (h : 128 ≤ nB s 0 ∧ (nB s 0 < 194 ∨ 245 ≤ nB s 0)) : nextOf s = (0, 0) := by
  have k0 := nB_lt s 0
  unfold nextOf
  rw [decode0]
  suffices decodeN s.size (nB s 0) (nB s 1) (nB s 2) (nB s 3) = (65533, 1) by rw [this]; simp
  unfold decodeN
  repeat' split
  all_goals first | rfl | (exfalso; omega)
theorem nextOf_2 (s : ByteArray) (h : 194 ≤ nB s 0 ∧ nB s 0 < 224) : nextOf s = if 2 ≤ s.size ∧ nB s 1 / 64 = 2 then ((accN s 32 2 : Int), 2) else (0, 0) := by
  have e : decodeN s.size (nB s 0) (nB s 1) (nB s 2) (nB s 3) = if 2 ≤ s.size ∧ nB s 1 / 64 = 2 then (accN s 32 2, 2) else (65533, 1) := by
    simp only [accN, Nat.zero_add, Nat.reduceAdd]
    split
    all_goals
      rename_i hc
      unfold decodeN
      repeat' split
      all_goals first | rfl | (exfalso; omega) | (apply Prod.ext <;> simp only <;> omega)
  unfold nextOf
  rw [decode0, e]
  split <;> simp
theorem nextOf_3 (s : ByteArray) (h : 224 ≤ nB s 0 ∧ nB s 0 < 240) : nextOf s = if (3 ≤ s.size ∧ nB s 1 / 64 = 2 ∧ nB s 2 / 64 = 2) ∧ ¬ (accN s 16 3 < 2048 ∨ (55296 ≤ accN s 16 3 ∧ accN s 16 3 < 57344)) then ((accN s 16 3 : Int), 3) else (0, 0) := by
  have e : decodeN s.size (nB s 0) (nB s 1) (nB s 2) (nB s 3) = if (3 ≤ s.size ∧ nB s 1 / 64 = 2 ∧ nB s 2 / 64 = 2) ∧ ¬ (accN s 16 3 < 2048 ∨ (55296 ≤ accN s 16 3 ∧ accN s 16 3 < 57344)) then (accN s 16 3, 3) else (65533, 1) := by
    simp only [accN, Nat.zero_add, Nat.reduceAdd]
    split
    all_goals
      rename_i hc
      unfold decodeN
      repeat' split
      all_goals first | rfl | (exfalso; omega) | (apply Prod.ext <;> simp only <;> omega)
  unfold nextOf
  rw [decode0, e]
  split <;> simp
theorem nextOf_4 (s : ByteArray) (h : 240 ≤ nB s 0 ∧ nB s 0 < 245) : nextOf s = if (4 ≤ s.size ∧ nB s 1 / 64 = 2 ∧ nB s 2 / 64 = 2 ∧ nB s 3 / 64 = 2) ∧ ¬ (accN s 8 4 < 65536 ∨ 1114111 < accN s 8 4) then ((accN s 8 4 : Int), 4) else (0, 0) := by
  have e : decodeN s.size (nB s 0) (nB s 1) (nB s 2) (nB s 3) = if (4 ≤ s.size ∧ nB s 1 / 64 = 2 ∧ nB s 2 / 64 = 2 ∧ nB s 3 / 64 = 2) ∧ ¬ (accN s 8 4 < 65536 ∨ 1114111 < accN s 8 4) then (accN s 8 4, 4) else (65533, 1) := by
    simp only [accN, Nat.zero_add, Nat.reduceAdd]
    split
    all_goals
      rename_i hc
      unfold decodeN
      repeat' split
      all_goals first | rfl | (exfalso; omega) | (apply Prod.ext <;> simp only <;> omega)
  unfold nextOf
  rw [decode0, e]
  split <;> simp
theorem cont_bits (b : Nat) (h : b < 256) (hc : b / 64 = 2) : (bits BinOp.and IntKind.u8 (b : Int) 192 != 128) = false := by
  rw [runeStart_of _ (by omega) (by omega)]
  unfold runeStart
  simp; omega
theorem nocont_bits (b : Nat) (h : b < 256) (hc : ¬ b / 64 = 2) : (bits BinOp.and IntKind.u8 (b : Int) 192 != 128) = true := by
  rw [runeStart_of _ (by omega) (by omega)]
  unfold runeStart
  simp; omega
theorem accN_bound (s : ByteArray) (m : Nat) (hm : 0 < m) : ∀ j, 1 ≤ j → j ≤ 4 → accN s m j < m * 64 ^ (j - 1)
  | 1, _, _ => by simp only [accN]; simpa using Nat.mod_lt _ hm
  | 2, _, _ => by simp only [accN]; have := Nat.mod_lt (nB s 0) hm; simp; omega
  | 3, _, _ => by simp only [accN]; have := Nat.mod_lt (nB s 0) hm; simp; omega
  | 4, _, _ => by simp only [accN]; have := Nat.mod_lt (nB s 0) hm; simp; omega
theorem accN_succ (s : ByteArray) (m j : Nat) (h : 1 ≤ j) : accN s m (j + 1) = accN s m j * 64 + nB s j % 64 := by
  obtain ⟨k, rfl⟩ : ∃ k, j = k + 1 := ⟨j - 1, by omega⟩
  rfl
set_option maxHeartbeats 400000 in
set_option maxRecDepth 100000 in
theorem next_2 (s : ByteArray) (h0 : 0 < s.size) (hs : s.size ≤ 1000000000000) (h : 194 ≤ nB s 0 ∧ nB s 0 < 224) (w : World) :
    Calls Tryz.prog 82 #[.string s] w (Next3R s w) := by
  have hn := nextOf_2 s h
  have k0 := nB_lt s 0
  have hb0 := get_nB s 0 h0
  obtain ⟨h1, h2⟩ := h
  have Hn := Lib.hid hn
  clear hn
  go_enter Tryz.func82, Tryz.ntmps82
  by_cases hsz : 2 ≤ s.size
  · go_wp2
    go_loop [7, 8] (fun r i => ∃ j : Nat, 1 ≤ j ∧ j ≤ 2 ∧ i = .int .i64 j ∧ r = .int .i32 (accN s 32 j) ∧ ∀ t, 1 ≤ t → t < j → nB s t / 64 = 2) (fun _ i => 2 - (intOf i).toNat)
    case atStart => exact ⟨1, by omega, by omega, rfl, by simp only [accN]; rw [Int.natCast_emod]; rfl, by omega⟩
    case round =>
      obtain ⟨j, hj1, hj2, rfl, rfl, hct⟩ := hrel
      have hab := accN_bound s 32 (by decide) j hj1 (by omega)
      by_cases hlt : j < 2
      · have hjs : j < s.size := by omega
        have hbj := get_nB s j hjs
        have kj := nB_lt s j
        have hab2 : accN s 32 j < 33554432 := by
          have h64 : 64 ^ (j - 1) ≤ 64 ^ 2 := Nat.pow_le_pow_right (by decide) (by omega)
          have : 32 * 64 ^ (j - 1) ≤ 32 * 64 ^ 2 := Nat.mul_le_mul_left _ h64
          omega
        clear hab
        by_cases hc : nB s j / 64 = 2
        · have hcb := cont_bits _ kj hc
          have hsu := Lib.hid (accN_succ s 32 j hj1)
          have Hc := Lib.hid hc
          have Hct := Lib.hid hct
          clear hc hct
          go_wp2
          go_round
          case rel =>
            refine ⟨j + 1, by omega, by omega, by go_num, ?_, fun t ht1 ht2 => ?_⟩
            · rw [hsu.out, Int.natCast_add, Int.natCast_mul, Int.natCast_emod]; rfl
            · rcases Nat.lt_or_ge t j with h3 | h3
              · exact Hct.out t ht1 h3
              · obtain rfl : t = j := by omega
                exact Hc.out
          case measure => simp [intOf]; omega
        · have hcb := nocont_bits _ kj hc
          have Hc := Lib.hid hc
          clear hc hct
          go_wp2
          go_ret2
          have hc := Hc.out
          exact Next3R.mk (by rw [Hn.out, if_neg (by rcases (show j = 1 ∨ j = 2 ∨ j = 3 by omega) with rfl | rfl | rfl <;> omega)]; rfl) (by decide)
      · obtain rfl : j = 2 := by omega
        have c1 := hct 1 (by omega) (by omega); have hlo : 128 ≤ accN s 32 2 := (by simp only [accN]; omega); have hhi : accN s 32 2 < 2048 := (by simp only [accN]; omega)
        clear hct hab
        go_wp2
        all_goals go_ret2
        all_goals exact Next3R.mk (by rw [Hn.out]; first | (rw [if_neg (by omega)]; rfl) | (rw [if_pos (by omega)]; rfl)) (by omega)
  · go_wp2
    go_ret2
    exact Next3R.mk (by rw [Hn.out, if_neg (by omega)]; rfl) (by decide)
set_option maxHeartbeats 400000 in
set_option maxRecDepth 100000 in
theorem next_3 (s : ByteArray) (h0 : 0 < s.size) (hs : s.size ≤ 1000000000000) (h : 224 ≤ nB s 0 ∧ nB s 0 < 240) (w : World) :
    Calls Tryz.prog 82 #[.string s] w (Next3R s w) := by
  have hn := nextOf_3 s h
  have k0 := nB_lt s 0
  have hb0 := get_nB s 0 h0
  obtain ⟨h1, h2⟩ := h
  have Hn := Lib.hid hn
  clear hn
  go_enter Tryz.func82, Tryz.ntmps82
  by_cases hsz : 3 ≤ s.size
  · go_wp2
    go_loop [7, 8] (fun r i => ∃ j : Nat, 1 ≤ j ∧ j ≤ 3 ∧ i = .int .i64 j ∧ r = .int .i32 (accN s 16 j) ∧ ∀ t, 1 ≤ t → t < j → nB s t / 64 = 2) (fun _ i => 3 - (intOf i).toNat)
    case atStart => exact ⟨1, by omega, by omega, rfl, by simp only [accN]; rw [Int.natCast_emod]; rfl, by omega⟩
    case round =>
      obtain ⟨j, hj1, hj2, rfl, rfl, hct⟩ := hrel
      have hab := accN_bound s 16 (by decide) j hj1 (by omega)
      by_cases hlt : j < 3
      · have hjs : j < s.size := by omega
        have hbj := get_nB s j hjs
        have kj := nB_lt s j
        have hab2 : accN s 16 j < 33554432 := by
          have h64 : 64 ^ (j - 1) ≤ 64 ^ 2 := Nat.pow_le_pow_right (by decide) (by omega)
          have : 16 * 64 ^ (j - 1) ≤ 16 * 64 ^ 2 := Nat.mul_le_mul_left _ h64
          omega
        clear hab
        by_cases hc : nB s j / 64 = 2
        · have hcb := cont_bits _ kj hc
          have hsu := Lib.hid (accN_succ s 16 j hj1)
          have Hc := Lib.hid hc
          have Hct := Lib.hid hct
          clear hc hct
          go_wp2
          go_round
          case rel =>
            refine ⟨j + 1, by omega, by omega, by go_num, ?_, fun t ht1 ht2 => ?_⟩
            · rw [hsu.out, Int.natCast_add, Int.natCast_mul, Int.natCast_emod]; rfl
            · rcases Nat.lt_or_ge t j with h3 | h3
              · exact Hct.out t ht1 h3
              · obtain rfl : t = j := by omega
                exact Hc.out
          case measure => simp [intOf]; omega
        · have hcb := nocont_bits _ kj hc
          have Hc := Lib.hid hc
          clear hc hct
          go_wp2
          go_ret2
          have hc := Hc.out
          exact Next3R.mk (by rw [Hn.out, if_neg (by rcases (show j = 1 ∨ j = 2 ∨ j = 3 by omega) with rfl | rfl | rfl <;> omega)]; rfl) (by decide)
      · obtain rfl : j = 3 := by omega
        have c1 := hct 1 (by omega) (by omega); have c2 := hct 2 (by omega) (by omega); have hhi : accN s 16 3 < 65536 := (by simp only [accN]; omega)
        clear hct hab
        go_wp2
        all_goals go_ret2
        all_goals exact Next3R.mk (by rw [Hn.out]; first | (rw [if_neg (by omega)]; rfl) | (rw [if_pos (by omega)]; rfl)) (by omega)
  · go_wp2
    go_ret2
    exact Next3R.mk (by rw [Hn.out, if_neg (by omega)]; rfl) (by decide)
set_option maxHeartbeats 400000 in
set_option maxRecDepth 100000 in
theorem next_4 (s : ByteArray) (h0 : 0 < s.size) (hs : s.size ≤ 1000000000000) (h : 240 ≤ nB s 0 ∧ nB s 0 < 245) (w : World) :
    Calls Tryz.prog 82 #[.string s] w (Next3R s w) := by
  have hn := nextOf_4 s h
  have k0 := nB_lt s 0
  have hb0 := get_nB s 0 h0
  obtain ⟨h1, h2⟩ := h
  have Hn := Lib.hid hn
  clear hn
  go_enter Tryz.func82, Tryz.ntmps82
  by_cases hsz : 4 ≤ s.size
  · go_wp2
    go_loop [7, 8] (fun r i => ∃ j : Nat, 1 ≤ j ∧ j ≤ 4 ∧ i = .int .i64 j ∧ r = .int .i32 (accN s 8 j) ∧ ∀ t, 1 ≤ t → t < j → nB s t / 64 = 2) (fun _ i => 4 - (intOf i).toNat)
    case atStart => exact ⟨1, by omega, by omega, rfl, by simp only [accN]; rw [Int.natCast_emod]; rfl, by omega⟩
    case round =>
      obtain ⟨j, hj1, hj2, rfl, rfl, hct⟩ := hrel
      have hab := accN_bound s 8 (by decide) j hj1 (by omega)
      by_cases hlt : j < 4
      · have hjs : j < s.size := by omega
        have hbj := get_nB s j hjs
        have kj := nB_lt s j
        have hab2 : accN s 8 j < 33554432 := by
          have h64 : 64 ^ (j - 1) ≤ 64 ^ 2 := Nat.pow_le_pow_right (by decide) (by omega)
          have : 8 * 64 ^ (j - 1) ≤ 8 * 64 ^ 2 := Nat.mul_le_mul_left _ h64
          omega
        clear hab
        by_cases hc : nB s j / 64 = 2
        · have hcb := cont_bits _ kj hc
          have hsu := Lib.hid (accN_succ s 8 j hj1)
          have Hc := Lib.hid hc
          have Hct := Lib.hid hct
          clear hc hct
          go_wp2
          go_round
          case rel =>
            refine ⟨j + 1, by omega, by omega, by go_num, ?_, fun t ht1 ht2 => ?_⟩
            · rw [hsu.out, Int.natCast_add, Int.natCast_mul, Int.natCast_emod]; rfl
            · rcases Nat.lt_or_ge t j with h3 | h3
              · exact Hct.out t ht1 h3
              · obtain rfl : t = j := by omega
                exact Hc.out
          case measure => simp [intOf]; omega
        · have hcb := nocont_bits _ kj hc
          have Hc := Lib.hid hc
          clear hc hct
          go_wp2
          go_ret2
          have hc := Hc.out
          exact Next3R.mk (by rw [Hn.out, if_neg (by rcases (show j = 1 ∨ j = 2 ∨ j = 3 by omega) with rfl | rfl | rfl <;> omega)]; rfl) (by decide)
      · obtain rfl : j = 4 := by omega
        have c1 := hct 1 (by omega) (by omega); have c2 := hct 2 (by omega) (by omega); have c3 := hct 3 (by omega) (by omega)
        clear hct hab
        go_wp2
        all_goals go_ret2
        all_goals exact Next3R.mk (by rw [Hn.out]; first | (rw [if_neg (by omega)]; rfl) | (rw [if_pos (by omega)]; rfl)) (by omega)
  · go_wp2
    go_ret2
    exact Next3R.mk (by rw [Hn.out, if_neg (by omega)]; rfl) (by decide)
set_option maxHeartbeats 400000 in
set_option maxRecDepth 100000 in
theorem next3_any (s : ByteArray) (h0 : 0 < s.size) (hs : s.size ≤ 1000000000000) (w : World) :
    Calls Tryz.prog 82 #[.string s] w (Next3R s w) := by
  have hb0 := get_nB s 0 h0
  have k0 := nB_lt s 0
  by_cases h1 : nB s 0 < 128
  · have Hn := Lib.hid (nextOf_1 s h1)
    go_enter Tryz.func82, Tryz.ntmps82
    go_wp2
    go_ret2
    exact Next3R.mk (by rw [Hn.out]; rfl) (by decide)
  · by_cases h2 : nB s 0 < 194 ∨ 245 ≤ nB s 0
    · have Hn := Lib.hid (nextOf_bad s ⟨by omega, h2⟩)
      rcases h2 with h2 | h2
      all_goals
        go_enter Tryz.func82, Tryz.ntmps82
        go_wp2
        go_ret2
        exact Next3R.mk (by rw [Hn.out]; rfl) (by decide)
    · by_cases h3 : nB s 0 < 224
      · exact next_2 s h0 hs ⟨by omega, h3⟩ w
      · by_cases h4 : nB s 0 < 240
        · exact next_3 s h0 hs ⟨by omega, h4⟩ w
        · exact next_4 s h0 hs ⟨by omega, by omega⟩ w
end Go.Proofs.YtaeebgljcdfolaaGreatDoor
/- Walks: the document's answer's runes, in full (quireref3.Runes, Check, Len, Cut). -/
namespace Go.Proofs.YtaeebgljcdfolaaGreatDoor
open Go.RowKit Go.Lib

def strSz : Value → Nat
  | .string t => t.size
  | _ => 0
def encR (c : Int) : List Value := [.int .i32 c]
theorem infoR : (Tryz.prog.info? 21).map (fun i => (i.zero, i.size, i.bytes)) = some (some (.int .i32 0), 1, 4) := by kernel_rfl
theorem ownsRow_len {w : World} {base e size n : Nat} {v : Value} {xs : List Value} (h : w.ownsRow base e size v n xs) : ∃ p c, v = .slice p n c := by
  rcases h.2 with ⟨rfl, e⟩ | ⟨g, cap, cur, e, _⟩
  · exact ⟨none, 0, by rw [e]⟩
  · exact ⟨_, cap, e⟩
/-- a text's runes, none of a wrong one. -/
def runesB (s : ByteArray) : List Int := (runesL s.data.toList).getD []
def okB (s : ByteArray) : Bool := (runesL s.data.toList).isSome
def Runes3R (s : ByteArray) (w : World) (e : Ending) (w' : World) : Prop := ∃ v, e = .returned (.tuple #[v, .bool (okB s)]) ∧ OwnAt w.heap.size 21 1 encR w' v (runesB s) ∧ Below w.heap.size w w'
theorem nonempty_bytes {t : ByteArray} (h : 0 < t.size) : t.data.toList ≠ [] := fun e => by
  have := size_bytes t
  rw [e, List.length_nil] at this
  omega
theorem next_decode (t : ByteArray) : decodeL t.data.toList = Utf8.decode t 0 := by have := decodeL_drop t 0; rwa [List.drop_zero] at this
theorem step_bad {t : ByteArray} (h0 : 0 < t.size) (hn : (nextOf t).2 = 0) : runesL t.data.toList = none := by
  rw [runesL_step _ (nonempty_bytes h0), next_decode]
  unfold nextOf at hn
  split at hn
  · rename_i hc
    rw [if_pos hc]
  · have := width_pos t 0
    simp only at hn
    omega
theorem step_ok {t : ByteArray} (h0 : 0 < t.size) (hn : (nextOf t).2 ≠ 0) : runesL t.data.toList = (runesL (t.extract (nextOf t).2 t.size).data.toList).map ((nextOf t).1 :: ·) ∧ (nextOf t).2 ≤ t.size := by
  rw [runesL_step _ (nonempty_bytes h0)]
  have hle := decodeL_le t.data.toList (nonempty_bytes h0)
  rw [next_decode] at hle ⊢
  unfold nextOf at hn ⊢
  split at hn
  · exact absurd rfl hn
  · rename_i hc
    rw [if_neg hc, if_neg hc]
    have hsz : t.data.toList.length = t.size := by simp
    refine ⟨?_, by rw [hsz] at hle; exact hle⟩
    congr 2
    simp only [ByteArray.data_extract, Array.toList_extract, List.extract_eq_take_drop]
    rw [List.take_of_length_le]
    rw [List.length_drop, hsz]
    exact Nat.le_refl _

set_option maxHeartbeats 400000 in
set_option maxRecDepth 100000 in
theorem runes3_any (s : ByteArray) (hs : s.size ≤ 1000000000000) (w : World) :
    Calls Tryz.prog 54 #[.string s] w (Runes3R s w) := by
  obtain ⟨i0, hi, hz0, hz1, hz2⟩ := info_parts infoR
  go_enter Tryz.func54, Tryz.ntmps54
  go_wp2
  go_loopw [0, 4] (fun sv out wr => ∃ (t : ByteArray) (l : List Int), sv = .string t ∧ l.length + t.size ≤ s.size ∧ runesL s.data.toList = (runesL t.data.toList).map (l ++ ·) ∧ OwnAt w.heap.size 21 1 encR wr out l ∧ Below w.heap.size w wr) (fun sv _ _ => strSz sv)
  case atStart => exact ⟨s, [], rfl, by simp, by simp, OwnAt.nil, Below.refl _ _⟩
  case round =>
    obtain ⟨t, l, rfl, hl, hrs, hown, hb⟩ := hrel
    by_cases h0 : 0 < t.size
    · have Hrs := Lib.hid hrs
      clear hrs
      go_wp2_with fail
      refine (next3_any t h0 (by omega) _).mono ?_
      rintro e w1 ⟨rfl, rfl⟩
      by_cases hn : (nextOf t).2 = 0
      · have hn1 : (((nextOf t).2 : Int) == 0) = true := by simp; omega
        have hbad := Lib.hid (step_bad h0 hn)
        clear hn
        go_wp2
        go_ret2
        have e1 := Hrs.out
        rw [hbad.out] at e1
        exact ⟨_, by unfold okB; rw [e1]; rfl, by unfold runesB; rw [e1]; exact OwnAt.nil, hb⟩
      · have hn1 : (((nextOf t).2 : Int) == 0) = false := by simp; omega
        have hok := step_ok h0 hn
        have hn2 := hok.2
        have Hok := Lib.hid hok.1
        have hwz : w.heap.size ≤ wr.heap.size := hb.size
        clear hok
        generalize hr : (nextOf t).1 = r at Hok ⊢
        generalize hm : (nextOf t).2 = m at Hok hn hn1 hn2 ⊢
        clear hr hm
        go_wp2_with (at_builtin; refine wpList_append_own_at _ rfl _ _ 90 rfl w.heap.size 21 i0 (.int .i32 0) 1 4 Tryz.underlying90 hi hz0 hz1 hz2 rfl (by decide) _ _ _ rfl (hown.alloc _) ⟨wr.heap.size, 0, none⟩ 1 1 [.int .i32 r] rfl rfl ?a1 ?a2 ?a3 ?a4 ?a5 ?_)
        case a1 => exact cell_one_new _ _ _
        case a2 => simp [Value.oneCell']
        case a3 => unfold maxLen; omega
        case a4 => omega
        case a5 => simp; omega
        intro v' w2 hown2 hgrow2 _ _
        have hb2 : Below w.heap.size w w2 := (hb.alloc hwz _).grown hgrow2 (by simp; omega) (fun j e => (World.ownsRow.lt hown j e).1)
        go_wp2
        go_roundw
        case rel =>
          have e1 : (t.extract m t.size).size = t.size - m := by rw [ByteArray.size_extract]; omega
          refine ⟨t.extract m t.size, l ++ [r], rfl, ?_, ?_, ?_, hb2⟩
          · rw [List.length_append, List.length_singleton, e1]; omega
          · rw [Hrs.out, Hok.out, Option.map_map]
            congr 1
            funext x
            simp
          · unfold OwnAt
            simpa [encR] using hown2
        case measure =>
          have e1 : (t.extract m t.size).size = t.size - m := by rw [ByteArray.size_extract]; omega
          show (t.extract m t.size).size < t.size
          omega
    · have ht : t.size = 0 := by omega
      obtain ⟨p, c, rfl⟩ := ownsRow_len hown
      have hte : t.data.toList = [] := List.eq_nil_of_length_eq_zero (by rw [← size_bytes]; exact ht)
      have Ht := Lib.hid ht
      rw [hte, runesL_nil] at hrs
      have Hrs := Lib.hid hrs
      clear ht hrs hte
      go_wp2
      go_ret2
      have e1 := Hrs.out
      simp only [Option.map_some, List.append_nil] at e1
      exact ⟨_, by unfold okB; rw [e1]; rfl, by unfold runesB; rw [e1]; exact hown, hb⟩

set_option maxHeartbeats 400000 in
theorem chk3_any (s : ByteArray) (hs : s.size ≤ 1000000000000) (w : World) :
    Calls Tryz.prog 26 #[.string s] w fun e w' => e = .returned (.bool (okB s)) ∧ Below w.heap.size w w' := by
  go_enter Tryz.func26, Tryz.ntmps26
  go_wp2_with fail
  refine (runes3_any s hs _).mono ?_
  rintro e w1 ⟨v, rfl, _, hb⟩
  go_wp2_with fail
  go_ret
  exact ⟨rfl, hb⟩

set_option maxHeartbeats 400000 in
theorem len3_any (s : ByteArray) (hs : s.size ≤ 1000000000000) (w : World) :
    Calls Tryz.prog 25 #[.string s] w fun e w' => e = .returned (.int .i64 ((runesB s).length : Int)) ∧ Below w.heap.size w w' := by
  go_enter Tryz.func25, Tryz.ntmps25
  go_wp2_with fail
  refine (runes3_any s hs _).mono ?_
  rintro e w1 ⟨v, rfl, hown, hb⟩
  obtain ⟨p, c, rfl⟩ := ownsRow_len hown
  go_wp2_with fail
  go_ret
  exact ⟨rfl, hb⟩
end Go.Proofs.YtaeebgljcdfolaaGreatDoor
/- Slice expressions: one run equation each, the address under one name. -/
namespace Go.Proofs.YtaeebgljcdfolaaGreatDoor
open Go.RowKit

theorem slice_lh_run {T : TypeId} {k : Nat} (hu : Tryz.prog.underlying T = some (.slice (Tryz.prog.elem T))) (hk : ∀ w, (sizeOf (Tryz.prog.elem T)).run Tryz.prog w = .ok k w) (g o n c l h : Nat) (h1 : l < h) (h2 : h ≤ c) (w : World) :
    (Instr.slice T (.slice (some ⟨g, o, none⟩) n c) (some (.int .i64 (l : Int))) (some (.int .i64 (h : Int))) none).run Tryz.prog w = .ok (.slice (some ⟨g, o + l * k, none⟩) (h - l) (c - l)) w := by
  rw [run_slice_lh w T _ n c hu .i64 .i64 l h (by omega) (by omega) (by omega), hk]
  simp [Result.andThen_ok, sliced, show ¬ c = l by omega, Addr.add]
theorem slice_l_run {T : TypeId} {k : Nat} (hu : Tryz.prog.underlying T = some (.slice (Tryz.prog.elem T))) (hk : ∀ w, (sizeOf (Tryz.prog.elem T)).run Tryz.prog w = .ok k w) (g o n c l : Nat) (h1 : l ≤ n) (h2 : n ≤ c) :
    ∃ off, (l < n → off = o + l * k) ∧ ∀ w, (Instr.slice T (.slice (some ⟨g, o, none⟩) n c) (some (.int .i64 (l : Int))) none none).run Tryz.prog w = .ok (.slice (some ⟨g, off, none⟩) (n - l) (c - l)) w := by
  refine ⟨if c = l then o else o + l * k, fun h => by rw [if_neg (by omega)], fun w => ?_⟩
  rw [run_slice_l w T _ n c hu .i64 l (by omega) (by omega), hk]
  by_cases hc : c = l
  · simp [Result.andThen_ok, sliced, hc]
  · simp [Result.andThen_ok, sliced, hc, Addr.add]
theorem slice_h_run {T : TypeId} {k : Nat} (hu : Tryz.prog.underlying T = some (.slice (Tryz.prog.elem T))) (hk : ∀ w, (sizeOf (Tryz.prog.elem T)).run Tryz.prog w = .ok k w) (g o n c h : Nat) (h2 : h ≤ c) (w : World) :
    (Instr.slice T (.slice (some ⟨g, o, none⟩) n c) none (some (.int .i64 (h : Int))) none).run Tryz.prog w = .ok (.slice (some ⟨g, o, none⟩) h c) w := by
  rw [run_slice_h w T _ n c hu .i64 h (by omega) (by omega), hk]
  by_cases hc : c = 0
  · simp [Result.andThen_ok, sliced, hc]
  · simp [Result.andThen_ok, sliced, hc, Addr.add]
end Go.Proofs.YtaeebgljcdfolaaGreatDoor
