/- Walks: the document's answer's runes and values, as far as they only say yes or no (quireref3.next, Runes, Check; quireref8.key; quireref2.Check). -/
import Derived.Test.YteadongdlacgmaaRef
import Derived.Test.YteadongdlacgmaaOwn
namespace Go.Proofs.Yteadongdlacgmaa
open Go.RowKit

/-- what next hands back: some rune, and how many bytes. -/
def NextR (s : ByteArray) (w : World) (e : Ending) (w' : World) : Prop := ∃ (r : Int) (n : Nat), e = .returned (.tuple #[.int .i32 r, .int .i64 n]) ∧ n ≤ s.size ∧ w = w'
theorem NextR.mk {s : ByteArray} {w : World} {r n : Int} (h0 : 0 ≤ n) (h1 : n ≤ s.size) : NextR s w (.returned (.tuple #[.int .i32 r, .int .i64 n])) w := ⟨r, n.toNat, by rw [Int.toNat_of_nonneg h0], by omega, rfl⟩

set_option maxHeartbeats 400000 in
set_option maxRecDepth 100000 in
theorem next_any (s : ByteArray) (h0 : 0 < s.size) (hs : s.size ≤ 1000) (w : World) :
    Calls Try.prog 69 #[.string s] w (NextR s w) := by
  go_enter Try.func69, Try.ntmps69
  go_wp2
  all_goals (first | (go_ret2; exact NextR.mk (by omega) (by omega)) | skip)
  focus
    have hs2 : 2 ≤ s.size := by omega
    go_loop [7, 8] (fun r i => ∃ (j : Nat) (x : Int), r = .int .i32 x ∧ i = .int .i64 j ∧ 1 ≤ j ∧ j ≤ 2) (fun _ i => 2 - (intOf i).toNat)
    case atStart => exact ⟨1, _, rfl, rfl, by omega, by omega⟩
    case round =>
      obtain ⟨j, x, rfl, rfl, hj1, hj2⟩ := hrel
      by_cases hlt : j < 2
      · have hjs : j < s.size := by omega
        go_wp2
        all_goals first | (go_ret2; exact NextR.mk (by omega) (by omega)) | skip
        go_round
        case rel => exact ⟨j + 1, _, rfl, by go_num, by omega, by omega⟩
        case measure => simp [intOf]; omega
      · have hje : j = 2 := by omega
        subst hje
        go_wp2
        all_goals (go_ret2; exact NextR.mk (by omega) (by omega))
  focus
    have hs2 : 3 ≤ s.size := by omega
    go_loop [7, 8] (fun r i => ∃ (j : Nat) (x : Int), r = .int .i32 x ∧ i = .int .i64 j ∧ 1 ≤ j ∧ j ≤ 3) (fun _ i => 3 - (intOf i).toNat)
    case atStart => exact ⟨1, _, rfl, rfl, by omega, by omega⟩
    case round =>
      obtain ⟨j, x, rfl, rfl, hj1, hj2⟩ := hrel
      by_cases hlt : j < 3
      · have hjs : j < s.size := by omega
        go_wp2
        all_goals first | (go_ret2; exact NextR.mk (by omega) (by omega)) | skip
        go_round
        case rel => exact ⟨j + 1, _, rfl, by go_num, by omega, by omega⟩
        case measure => simp [intOf]; omega
      · have hje : j = 3 := by omega
        subst hje
        go_wp2
        all_goals (go_ret2; exact NextR.mk (by omega) (by omega))
  focus
    have hs2 : 4 ≤ s.size := by omega
    go_loop [7, 8] (fun r i => ∃ (j : Nat) (x : Int), r = .int .i32 x ∧ i = .int .i64 j ∧ 1 ≤ j ∧ j ≤ 4) (fun _ i => 4 - (intOf i).toNat)
    case atStart => exact ⟨1, _, rfl, rfl, by omega, by omega⟩
    case round =>
      obtain ⟨j, x, rfl, rfl, hj1, hj2⟩ := hrel
      by_cases hlt : j < 4
      · have hjs : j < s.size := by omega
        go_wp2
        all_goals first | (go_ret2; exact NextR.mk (by omega) (by omega)) | skip
        go_round
        case rel => exact ⟨j + 1, _, rfl, by go_num, by omega, by omega⟩
        case measure => simp [intOf]; omega
      · have hje : j = 4 := by omega
        subst hje
        go_wp2
        all_goals (go_ret2; exact NextR.mk (by omega) (by omega))
end Go.Proofs.Yteadongdlacgmaa
