/- Walk: ids.Has. -/
import Derived.Test.YteadongdlacgmaaMem
import Derived.Test.YteadongdlacgmaaLay
import Derived.Test.YteadongdlacgmaaCleanLaw
namespace Go.Proofs.Yteadongdlacgmaa
open Go.RowKit Go.Shelf


set_option maxHeartbeats 400000 in
theorem indexNil (g : Nat) (lb : Array Value) (w : World) :
    Calls Try.prog 70 #[.slice none 0 0, .func (.func g) #[] lb] w fun e w' => e = .returned (.int .i64 (-1)) ∧ w = w' := by
  go_enter Try.func70, Try.ntmps70
  go_wp2
  refine wp_loop_rounds 1 ?_
  rw [rounds_succ]
  go_wp2
  go_ret
  exact ⟨rfl, rfl⟩

set_option maxHeartbeats 400000 in
theorem containsNil (g : Nat) (lb : Array Value) (w : World) :
    Calls Try.prog 55 #[.slice none 0 0, .func (.func g) #[] lb] w fun e w' => e = .returned (.bool false) ∧ Below w.heap.size w w' := by
  go_enter Try.func55, Try.ntmps55
  go_wp2_with (go_at_call 70; refine (indexNil _ _ _).mono ?_; rintro e w' ⟨rfl, rfl⟩)
  go_ret
  exact ⟨rfl, Below.refl _ _⟩

theorem rhas_below (i : QId) (b : Nat) (w : World) (h0 : w.cell? ⟨b, 0, none⟩ = some (.int .u64 i.c)) (h1 : w.cell? ⟨b, 1, none⟩ = some (.int .u64 i.k)) (hb : b < w.heap.size) :
    PredBelow Try.prog 56 #[.pointer (some ⟨b, 0, none⟩)] (fun x => .agg (encRng x).toArray) (fun r => r.hasB i) w := by
  intro W x hW
  refine (rhas_any x i b W ?_ ?_ ?_).mono ?_
  · rw [hW.cell (p := ⟨b, 0, none⟩) hb]; exact h0
  · rw [hW.cell (p := ⟨b, 1, none⟩) hb]; exact h1
  · have := hW.size; omega
  · exact fun e w' ⟨he, hb'⟩ => ⟨he, hW.trans (hb'.mono hW.size)⟩

set_option maxHeartbeats 400000 in
theorem containsRng_any (i : QId) (b : Nat) (v : Value) (l : List QRng) (w : World) (hl : SliceAt 3 encRng w v l) (h0 : w.cell? ⟨b, 0, none⟩ = some (.int .u64 i.c)) (h1 : w.cell? ⟨b, 1, none⟩ = some (.int .u64 i.k)) (hb : b < w.heap.size) :
    Calls Try.prog 55 #[v, .func (.func 56) #[] #[.pointer (some ⟨b, 0, none⟩)]] w fun e w' => e = .returned (.bool (l.any fun r => r.hasB i)) ∧ Below w.heap.size w w' := by
  rcases hl with ⟨rfl, rfl⟩ | ⟨bb, off, cap, rfl, hn, hlt, hc⟩
  · exact containsNil _ _ _
  · have := AnyQ.slices_ContainsFunc Try.containsRng 3 (fun w => by kernel_rfl) (fun w => by kernel_rfl) encRng (fun _ => rfl) (fun r => r.hasB i) 56 #[.pointer (some ⟨b, 0, none⟩)] (enters_of Try.func56 (by kernel_rfl) rfl) bb off l.length cap l w (rhas_below i b w h0 h1 hb) (Nat.le_refl _) hn hlt
      (fun j hj k v hv => hc j l[j] (by simp) k v (by simpa [hj] using hv))
    rw [List.take_length] at this
    exact this

set_option maxHeartbeats 400000 in
theorem idsHas_any (i : QId) (v : Value) (l : List QRng) (w : World) (hl : SliceAt 3 encRng w v l) :
    Calls Try.prog 35 #[v, .agg #[.int .u64 i.c, .int .u64 i.k]] w fun e w' => e = .returned (.bool (hasRngs l i)) ∧ Below w.heap.size w w' := by
  cases hr : i.rightB
  · have e : hasRngs l i = false := by simp [hasRngs, hr]
    rw [e]
    have n1 := fun w => right_any i w
    rw [hr] at n1
    clear hr e hl
    go_enter Try.func35, Try.ntmps35
    go_wp2_with (go_at_call 21; refine (n1 _).mono ?_; rintro e w' ⟨rfl, hb⟩)
    go_ret
    exact ⟨rfl, by (repeat (first | exact Below.refl _ _ | assumption | refine Below.alloc ?_ (by simp <;> omega) _ | refine Below.drew ?_ | refine below_drewN ?_ _ | refine Below.setCell ?_ (by simp <;> omega) _ | refine belowTrans ?_ (by assumption)))⟩
  · have e : hasRngs l i = l.any fun r => r.hasB i := by simp [hasRngs, hr]
    rw [e]
    have n1 := fun w => right_any i w
    rw [hr] at n1
    clear hr e
    have hB : Below w.heap.size w (w.alloc (Obj.cells #[Value.int IntKind.u64 i.c, Value.int IntKind.u64 i.k] 34)) := by (repeat (first | exact Below.refl _ _ | assumption | refine Below.alloc ?_ (by simp <;> omega) _ | refine Below.drew ?_ | refine below_drewN ?_ _ | refine Below.setCell ?_ (by simp <;> omega) _ | refine belowTrans ?_ (by assumption)))
    have hH := fun w' (hb : Below (w.alloc (Obj.cells #[Value.int IntKind.u64 i.c, Value.int IntKind.u64 i.k] 34)).heap.size (w.alloc (Obj.cells #[Value.int IntKind.u64 i.c, Value.int IntKind.u64 i.k] 34)) w') => containsRng_any i w.heap.size v l w' ((hl.below hB).below hb) (by rw [hb.cell (p := ⟨w.heap.size, 0, none⟩) (by simp)]; simp) (by rw [hb.cell (p := ⟨w.heap.size, 1, none⟩) (by simp)]; simp) (by have := hb.size; simp at this; omega)
    generalize (l.any fun r => r.hasB i) = ans at hH ⊢
    clear hl hB
    go_enter Try.func35, Try.ntmps35
    go_wp2_with (first | (go_at_call 21; refine (n1 _).mono ?_; rintro e w' ⟨rfl, hb⟩) | (go_at_call 55; refine (hH _ hb).mono ?_; rintro e w2 ⟨rfl, hb2⟩))
    go_ret
    exact ⟨rfl, by (repeat (first | exact Below.refl _ _ | assumption | refine Below.alloc ?_ (by simp <;> omega) _ | refine Below.drew ?_ | refine below_drewN ?_ _ | refine Below.setCell ?_ (by simp <;> omega) _ | refine belowTrans ?_ (by assumption)))⟩
end Go.Proofs.Yteadongdlacgmaa
