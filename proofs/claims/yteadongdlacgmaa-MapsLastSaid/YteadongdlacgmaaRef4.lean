/- Walks: the document's answer's runes (quireref3.Runes, Check), and what they are used for (quireref8.key; quireref2.Check; quireref8.Check of a set; quireref8.Same). -/
import Derived.Test.YteadongdlacgmaaRef3
import Derived.Test.YteadongdlacgmaaText
import Derived.Test.YteadongdlacgmaaMaps1
namespace Go.Proofs.Yteadongdlacgmaa
open Go.RowKit

def strSize : Value → Nat
  | .string t => t.size
  | _ => 0
def encI32 (c : Int) : List Value := [.int .i32 c]
theorem infoI32 : (Try.prog.info? 21).map (fun i => (i.zero, i.size, i.bytes)) = some (some (.int .i32 0), 1, 4) := by kernel_rfl
/-- what Runes hands back, as far as it is asked here. -/
def RunesR (w : World) (e : Ending) (w' : World) : Prop := ∃ (p : Option Addr) (m c : Nat) (b : Bool), e = .returned (.tuple #[.slice p m c, .bool b]) ∧ Below w.heap.size w w'

set_option maxHeartbeats 400000 in
set_option maxRecDepth 100000 in
theorem runes_any (s : ByteArray) (hs : s.size ≤ 1000) (w : World) :
    Calls Try.prog 54 #[.string s] w (RunesR w) := by
  obtain ⟨i0, hi, hz0, hz1, hz2⟩ := info_parts infoI32
  go_enter Try.func54, Try.ntmps54
  go_wp2
  go_loopw [0, 4] (fun sv out wr => ∃ (t : ByteArray) (l : List Int), sv = .string t ∧ l.length + t.size ≤ s.size ∧ OwnAt w.heap.size 21 1 encI32 wr out l ∧ Below w.heap.size w wr) (fun sv _ _ => strSize sv)
  case atStart => exact ⟨s, [], rfl, by simp, OwnAt.nil, Below.refl _ _⟩
  case round =>
    obtain ⟨t, l, rfl, hl, hown, hb⟩ := hrel
    by_cases h0 : 0 < t.size
    · go_wp2_with fail
      refine (next_any t h0 (by omega) _).mono ?_
      rintro e w1 ⟨r, n, rfl, hn, rfl⟩
      rcases Nat.eq_zero_or_pos n with rfl | hn0
      · go_wp2
        go_ret2
        exact ⟨none, 0, 0, false, rfl, hb⟩
      · have hn1 : ((n : Int) == 0) = false := by simp; omega
        have hwz : w.heap.size ≤ wr.heap.size := hb.size
        go_wp2_with (at_builtin; refine wpList_append_own_at _ rfl _ _ 107 rfl w.heap.size 21 i0 (.int .i32 0) 1 4 Try.underlying107 hi hz0 hz1 hz2 rfl (by decide) _ _ _ rfl (hown.alloc _) ⟨wr.heap.size, 0, none⟩ 1 1 [.int .i32 r] rfl rfl ?a1 ?a2 ?a3 ?a4 ?a5 ?_)
        case a1 => exact cell_one_new _ _ _
        case a2 => simp [Value.oneCell']
        case a3 => unfold maxLen; omega
        case a4 => omega
        case a5 => simp; omega
        intro v' w2 hown2 hgrow2 _ _
        have hb2 : Below w.heap.size w w2 := (hb.alloc hwz _).grown hgrow2 (by simp; omega) (fun j e => (World.ownsRow.lt hown j e).1)
        go_wp2
        go_roundw
        case rel =>
          have e1 : (t.extract n t.size).size = t.size - n := by rw [ByteArray.size_extract]; omega
          refine ⟨t.extract n t.size, l ++ [r], rfl, ?_, ?_, hb2⟩
          · rw [List.length_append, List.length_singleton, e1]; omega
          · unfold OwnAt
            simpa [encI32] using hown2
        case measure =>
          have e1 : (t.extract n t.size).size = t.size - n := by rw [ByteArray.size_extract]; omega
          show (t.extract n t.size).size < t.size
          omega
    · have ht : t.size = 0 := by omega
      obtain ⟨p, m, c, rfl⟩ := ownsRow_shape hown
      have Ht := Lib.hid ht
      clear ht
      go_wp2
      go_ret2
      exact ⟨p, m, c, true, rfl, hb⟩

def BoolR (w : World) (e : Ending) (w' : World) : Prop := ∃ b : Bool, e = .returned (.bool b) ∧ Below w.heap.size w w'

set_option maxHeartbeats 400000 in
theorem check3_any (s : ByteArray) (hs : s.size ≤ 1000) (w : World) :
    Calls Try.prog 30 #[.string s] w (BoolR w) := by
  go_enter Try.func30, Try.ntmps30
  go_wp2_with fail
  refine (runes_any s hs _).mono ?_
  rintro e w1 ⟨p, m, c, b, rfl, hb⟩
  go_wp2_with fail
  go_ret
  exact ⟨b, rfl, hb⟩

set_option maxHeartbeats 400000 in
theorem key8_k (w : World) :
    Calls Try.prog 32 #[.string ⟨#[107]⟩] w (BoolR w) := by
  go_enter Try.func32, Try.ntmps32
  go_wp2_with fail
  refine (check3_any _ (by decide) _).mono ?_
  rintro e w1 ⟨b, rfl, hb⟩
  go_wp2_with fail
  go_ret
  exact ⟨b, rfl, hb⟩

def IntR (w : World) (e : Ending) (w' : World) : Prop := ∃ n : Int, e = .returned (.int .i64 n) ∧ Below w.heap.size w w'

set_option maxRecDepth 100000 in
set_option maxHeartbeats 1000000 in
theorem check2_any (v : QVal) (hs : v.s.size ≤ 1000) (w : World) :
    Calls Try.prog 28 #[.agg #[.int .i64 v.kind, .int .i64 v.n, .float .f64 v.f, .string v.s]] w (IntR w) := by
  have hbits := run_bits v.f
  go_enter Try.func28, Try.ntmps28
  go_wp2_with (go_at_call 30; refine (check3_any v.s hs _).mono ?_; rintro e w1 ⟨b, rfl, hb⟩)
  all_goals first | (go_ret; exact ⟨_, rfl, by first | exact (Below.refl _ _).alloc (Nat.le_refl _) _ | exact belowTrans ((Below.refl _ _).alloc (Nat.le_refl _) _) hb⟩) | trace_state
end Go.Proofs.Yteadongdlacgmaa
