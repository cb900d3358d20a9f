/- Walks: quirehelp.Place, quirelaw12.text. -/
import Derived.Test.YteadongdlacgmaaEnt
import Derived.Test.YteadongdlacgmaaMaps1
namespace Go.Proofs.Yteadongdlacgmaa
open Go.RowKit

def PlaceR (w : World) (e : Ending) (w' : World) : Prop := ∃ r : Nat, e = .returned (.int .i64 (r : Int)) ∧ r < 6 ∧ w = w'
theorem PlaceR.mk {w : World} {r : Int} (h0 : 0 ≤ r) (h1 : r < 6) : PlaceR w (.returned (.int .i64 r)) w := ⟨r.toNat, by rw [Int.toNat_of_nonneg h0], by omega, rfl⟩
theorem tmod6 (k : Int) : -6 < k.tmod 6 ∧ k.tmod 6 < 6 := by
  have h1 := Int.tmod_lt_of_pos k (b := 6) (by omega)
  have h2 := Int.lt_tmod_of_pos k (b := 6) (by omega)
  omega

set_option maxHeartbeats 400000 in
theorem place_any (k : Int) (w : World) :
    Calls Try.prog 14 #[.int .i64 k, .int .i64 6] w (PlaceR w) := by
  obtain ⟨h1, h2⟩ := tmod6 k
  go_enter Try.func14, Try.ntmps14
  go_wp2
  all_goals (go_ret; exact PlaceR.mk (by omega) (by omega))

set_option maxHeartbeats 400000 in
theorem text_any {S : Nat → Prop} {v : Value} {l : List QEntry} (w : World) (h : EntAt S w v l) (h1 : (entText noB l).size ≤ 1000000000000000000) (h2 : entOk l = true) :
    Calls Try.prog 12 #[v] w fun e w' => e = .returned (.string (entText noB l)) ∧ Below w.heap.size w w' := by
  have hc := viewText_any w h h1 h2
  obtain ⟨p, m, c, rfl⟩ : ∃ p m c, v = .slice p m c := by
    obtain ⟨own, _, _, _, _⟩ := h
    exact ownsRow_shape own
  have Hc := Lib.hid hc
  clear hc
  go_enter Try.func12, Try.ntmps12
  go_wp2_with fail
  refine Calls.mono Hc.out ?_
  rintro e w1 ⟨rfl, hb⟩
  go_wp2_with fail
  go_ret
  exact ⟨rfl, hb⟩
end Go.Proofs.Yteadongdlacgmaa
