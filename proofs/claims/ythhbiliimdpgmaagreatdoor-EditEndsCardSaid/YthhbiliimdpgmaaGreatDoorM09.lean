/- Walks: package value: a value against itself; right values. -/
import Derived.Test.YthhbiliimdpgmaaGreatDoorM06
import Derived.Test.YthhbiliimdpgmaaGreatDoorM07
import Derived.WalkLawsBesides
import Derived.Shelf.Small.Strs
import Derived.Test.YthhbiliimdpgmaaGreatDoorM01
import Derived.Test.YthhbiliimdpgmaaGreatDoorM02
import Derived.Test.YthhbiliimdpgmaaGreatDoorM03
import Derived.Test.YthhbiliimdpgmaaGreatDoorM08
namespace Go.Proofs.YthhbiliimdpgmaaGreatDoor
open Go.RowKit Go.Lib

def signB (f : Nat) : Bool := decide (wrap64 (f : Int) < 0)
theorem run_f64bits (f : Nat) (w : World) : (callFunc 174 #[Value.float .f64 f]).run Tryz.prog w = .ok (.value (.int .u64 f)) w := by kernel_rfl
set_option maxHeartbeats 400000 in
theorem signbit_any (f : Nat) (w : World) : Calls Tryz.prog 203 #[.float .f64 f] w fun e w' => e = .returned (.bool (signB f)) ∧ w = w' := by
  have hb := run_f64bits f
  go_enter Tryz.func203, Tryz.ntmps203
  go_wp2
  go_ret
  exact ⟨rfl, rfl⟩
def rankOf (f : Nat) : Int × Nat := if nanB f then (1, 0) else if (FloatKind.f64.format.order f 0 == some Ordering.eq) && signB f then (0, 0) else (0, f)
set_option maxHeartbeats 400000 in
theorem rank_any (f : Nat) (w : World) : Calls Tryz.prog 201 #[.float .f64 f] w fun e w' => e = .returned (.tuple #[.int .i64 (rankOf f).1, .float .f64 (rankOf f).2]) ∧ w = w' := by
  have hn := isNaN_any f
  have hs := signbit_any f
  unfold rankOf
  go_enter Tryz.func201, Tryz.ntmps201
  cases h : nanB f
  · rw [h] at hn
    cases hz : (FloatKind.f64.format.order f 0 == some Ordering.eq)
    · go_wp2_with (first | (go_at_call 89; refine (hn _).mono ?_; rintro e w' ⟨rfl, rfl⟩) | (go_at_call 203; refine (hs _).mono ?_; rintro e w' ⟨rfl, rfl⟩))
      all_goals go_ret2
      all_goals exact ⟨by simp [*], rfl⟩
    · go_wp2_with (first | (go_at_call 89; refine (hn _).mono ?_; rintro e w' ⟨rfl, rfl⟩) | (go_at_call 203; refine (hs _).mono ?_; rintro e w' ⟨rfl, rfl⟩))
      all_goals go_ret2
      all_goals exact ⟨by simp [*], rfl⟩
  · rw [h] at hn
    go_wp2_with (first | (go_at_call 89; refine (hn _).mono ?_; rintro e w' ⟨rfl, rfl⟩))
    go_ret2
    exact ⟨rfl, rfl⟩
set_option maxHeartbeats 400000 in
theorem cmpInt_self (x : Int) (w : World) : Calls Tryz.prog 179 #[.int .i64 x, .int .i64 x] w fun e w' => e = .returned (.int .i64 0) ∧ w = w' := by
  have h : ¬ x < x := by omega
  go_enter Tryz.func179, Tryz.ntmps179
  go_wp2_with go_in
  all_goals go_ret
  all_goals exact ⟨rfl, rfl⟩
set_option maxHeartbeats 400000 in
theorem cmpInt64_self (x : Int) (w : World) : Calls Tryz.prog 180 #[.int .i64 x, .int .i64 x] w fun e w' => e = .returned (.int .i64 0) ∧ w = w' := by
  have h : ¬ x < x := by omega
  go_enter Tryz.func180, Tryz.ntmps180
  go_wp2_with go_in
  all_goals go_ret
  all_goals exact ⟨rfl, rfl⟩
set_option maxHeartbeats 400000 in
theorem cmpF_zero (w : World) : Calls Tryz.prog 202 #[.float .f64 0, .float .f64 0] w fun e w' => e = .returned (.int .i64 0) ∧ w = w' := by
  go_enter Tryz.func202, Tryz.ntmps202
  go_wp2_with go_in
  all_goals go_ret
  all_goals exact ⟨rfl, rfl⟩
set_option maxHeartbeats 1000000 in
theorem floats_self (f : Nat) (w : World) : Calls Tryz.prog 181 #[.float .f64 f, .float .f64 f] w fun e w' => e = .returned (.int .i64 0) ∧ w = w' := by
  have hr := rank_any f
  have hs := signbit_any f
  have hc := cmpInt_self
  have hz := cmpF_zero
  unfold rankOf at hr
  cases h : nanB f
  · rw [h] at hr
    simp only [Bool.false_eq_true, if_false] at hr
    have hord0 : FloatKind.f64.format.order f f = some Ordering.eq := by simpa [nanB] using h
    obtain ⟨x, hx, hr2⟩ : ∃ x, FloatKind.f64.format.order x x = some Ordering.eq ∧ ∀ w, Calls Tryz.prog 201 #[.float .f64 f] w fun e w' => e = .returned (.tuple #[.int .i64 0, .float .f64 x]) ∧ w = w' := by
      cases hq : (FloatKind.f64.format.order f 0 == some Ordering.eq) && signB f
      · rw [hq] at hr
        exact ⟨f, hord0, hr⟩
      · rw [hq] at hr
        exact ⟨0, by decide +kernel, hr⟩
    clear hr h hord0
    cases hq : (FloatKind.f64.format.order f 0 == some Ordering.eq)
    all_goals
      generalize signB f = sb at hs
      go_enter Tryz.func181, Tryz.ntmps181
      go_wp2_with (first | (go_at_call 201; refine (hr2 _).mono ?_; rintro e w' ⟨rfl, rfl⟩) | (go_at_call 203; refine (hs _).mono ?_; rintro e w' ⟨rfl, rfl⟩))
      all_goals go_ret
      all_goals exact ⟨rfl, rfl⟩
  · rw [h] at hr
    simp only [if_true] at hr
    go_enter Tryz.func181, Tryz.ntmps181
    go_wp2_with (first | (go_at_call 201; refine (hr _).mono ?_; rintro e w' ⟨rfl, rfl⟩) | (go_at_call 202; refine (hz _).mono ?_; rintro e w' ⟨rfl, rfl⟩))
    go_ret
    exact ⟨rfl, rfl⟩
theorem compareBytes_self : ∀ l : List UInt8, compareBytes l l = 0
  | [] => rfl
  | a :: l => by unfold compareBytes; rw [if_neg (UInt8.lt_irrefl a), if_neg (UInt8.lt_irrefl a)]; exact compareBytes_self l
theorem strCmp_self (s : ByteArray) (w : World) : Calls Tryz.prog 182 #[.string s, .string s] w fun e w' => e = .returned (.int .i64 0) ∧ w = w' := by
  have h := Any.strings_Compare Tryz.strCmp s s w
  rw [compareBytes_self] at h
  exact Calls.mono h fun e w' ⟨h1, h2⟩ => ⟨h1, h2.symm⟩
set_option maxHeartbeats 400000 in
theorem or4_zero (b : Nat) (w : World) (h0 : w.cell? ⟨b, 0, none⟩ = some (.int .i64 0)) (h1 : w.cell? ⟨b, 1, none⟩ = some (.int .i64 0)) (h2 : w.cell? ⟨b, 2, none⟩ = some (.int .i64 0)) (h3 : w.cell? ⟨b, 3, none⟩ = some (.int .i64 0)) :
    Calls Tryz.prog 77 #[.slice (some ⟨b, 0, none⟩) 4 4] w fun e w' => e = .returned (.int .i64 0) ∧ w = w' := by
  go_enter Tryz.func77, Tryz.ntmps77
  go_wp2
  refine wp_loop_rounds 5 ?_
  rw [rounds_succ]; go_wp2
  rw [rounds_succ]; go_wp2
  rw [rounds_succ]; go_wp2
  rw [rounds_succ]; go_wp2
  rw [rounds_succ]; go_wp2
  go_ret
  exact ⟨rfl, rfl⟩
set_option maxRecDepth 100000 in
set_option maxHeartbeats 1000000 in
theorem valCmp_self (v : QVal) (w : World) : Calls Tryz.prog 142 #[.agg #[.int .i64 v.kind, .int .i64 v.n, .float .f64 v.f, .string v.s], .agg #[.int .i64 v.kind, .int .i64 v.n, .float .f64 v.f, .string v.s]] w fun e w' => e = .returned (.int .i64 0) ∧ Below w.heap.size w w' := by
  have hB : Below w.heap.size w ((w.alloc (.cells #[.int .i64 v.kind, .int .i64 v.n, .float .f64 v.f, .string v.s] 31)).alloc (.cells #[.int .i64 v.kind, .int .i64 v.n, .float .f64 v.f, .string v.s] 31)) := by (repeat (first | exact Below.refl _ _ | assumption | refine Below.alloc ?_ (by simp <;> omega) _ | refine Below.drew ?_ | refine below_drewN ?_ _ | refine Below.setCell ?_ (by simp <;> omega) _ | refine belowTrans ?_ (by assumption)))
  go_enter Tryz.func142, Tryz.ntmps142
  go_upto_region 1 with fail
  obtain ⟨W, hW⟩ : ∃ W, ((w.alloc (.cells #[.int .i64 v.kind, .int .i64 v.n, .float .f64 v.f, .string v.s] 31)).alloc (.cells #[.int .i64 v.kind, .int .i64 v.n, .float .f64 v.f, .string v.s] 31)) = W := ⟨_, rfl⟩
  have b0 : W.heap[w.heap.size]? = some (.cells #[.int .i64 v.kind, .int .i64 v.n, .float .f64 v.f, .string v.s] 31 (0, 0)) := by subst hW; (simp only [alloc_heap_if, World.size_alloc]; repeat (first | rw [if_pos rfl] | rw [if_pos trivial] | rw [if_pos (by omega)] | rw [if_neg (by omega)]))
  have b1 : W.heap[w.heap.size + 1]? = some (.cells #[.int .i64 v.kind, .int .i64 v.n, .float .f64 v.f, .string v.s] 31 (0, 0)) := by subst hW; (simp only [alloc_heap_if, World.size_alloc]; repeat (first | rw [if_pos rfl] | rw [if_pos trivial] | rw [if_pos (by omega)] | rw [if_neg (by omega)]))
  rw [hW] at hB ⊢
  clear hW
  have a0 : W.cell? ⟨w.heap.size, 0, none⟩ = some (.int .i64 v.kind) := by simp [World.cell?, b0]
  have a1 : W.cell? ⟨w.heap.size, 1, none⟩ = some (.int .i64 v.n) := by simp [World.cell?, b0]
  have a2 : W.cell? ⟨w.heap.size, 2, none⟩ = some (.float .f64 v.f) := by simp [World.cell?, b0]
  have a3 : W.cell? ⟨w.heap.size, 3, none⟩ = some (.string v.s) := by simp [World.cell?, b0]
  have c0 : W.cell? ⟨w.heap.size + 1, 0, none⟩ = some (.int .i64 v.kind) := by simp [World.cell?, b1]
  have c1 : W.cell? ⟨w.heap.size + 1, 1, none⟩ = some (.int .i64 v.n) := by simp [World.cell?, b1]
  have c2 : W.cell? ⟨w.heap.size + 1, 2, none⟩ = some (.float .f64 v.f) := by simp [World.cell?, b1]
  have c3 : W.cell? ⟨w.heap.size + 1, 3, none⟩ = some (.string v.s) := by simp [World.cell?, b1]
  clear b0 b1
  refine wp_region_still_tail 20 (by kernel_rfl) (by kernel_rfl) ?_
  simp only [List.take_succ_cons, List.take_zero, List.drop_succ_cons, List.drop_zero]
  repeat still_step
  still_call ((cmpInt_self _ _).mono fun _ _ h => ⟨h.1, h.2.symm⟩)
  repeat still_step
  still_call ((cmpInt64_self _ _).mono fun _ _ h => ⟨h.1, h.2.symm⟩)
  repeat still_step
  still_call ((floats_self _ _).mono fun _ _ h => ⟨h.1, h.2.symm⟩)
  repeat still_step
  still_call ((strCmp_self _ _).mono fun _ _ h => ⟨h.1, h.2.symm⟩)
  refine wpStill_nil ?_
  change wpList _ _ _ _ _ W.drew
  go_wp2_with (go_at_call 77; refine (or4_zero _ _ (by go_simp) (by go_simp) (by go_simp) (by go_simp)).mono ?_; rintro e w' ⟨rfl, rfl⟩)
  go_ret
  exact ⟨rfl, (hB.drew).alloc hB.size _⟩
set_option maxRecDepth 100000 in
set_option maxHeartbeats 1000000 in
theorem valSame_self (v : QVal) (w : World) : Calls Tryz.prog 106 #[.agg #[.int .i64 v.kind, .int .i64 v.n, .float .f64 v.f, .string v.s], .agg #[.int .i64 v.kind, .int .i64 v.n, .float .f64 v.f, .string v.s]] w fun e w' => e = .returned (.bool true) ∧ Below w.heap.size w w' := by
  have hB : Below w.heap.size w ((w.alloc (.cells #[.int .i64 v.kind, .int .i64 v.n, .float .f64 v.f, .string v.s] 31)).alloc (.cells #[.int .i64 v.kind, .int .i64 v.n, .float .f64 v.f, .string v.s] 31)) := by (repeat (first | exact Below.refl _ _ | assumption | refine Below.alloc ?_ (by simp <;> omega) _ | refine Below.drew ?_ | refine below_drewN ?_ _ | refine Below.setCell ?_ (by simp <;> omega) _ | refine belowTrans ?_ (by assumption)))
  have hc := valCmp_self v
  go_enter Tryz.func106, Tryz.ntmps106
  go_wp2_with fail
  refine (hc _).mono ?_
  rintro e w1 ⟨rfl, hb⟩
  go_wp2_with fail
  go_ret
  exact ⟨rfl, belowTrans hB hb⟩
end Go.Proofs.YthhbiliimdpgmaaGreatDoor
/- Walk: ids.Has. -/
namespace Go.Proofs.YthhbiliimdpgmaaGreatDoor
open Go.RowKit Go.Shelf


set_option maxHeartbeats 400000 in
theorem indexNil (g : Nat) (lb : Array Value) (w : World) :
    Calls Tryz.prog 143 #[.slice none 0 0, .func (.func g) #[] lb] w fun e w' => e = .returned (.int .i64 (-1)) ∧ w = w' := by
  go_enter Tryz.func143, Tryz.ntmps143
  go_wp2
  refine wp_loop_rounds 1 ?_
  rw [rounds_succ]
  go_wp2
  go_ret
  exact ⟨rfl, rfl⟩

set_option maxHeartbeats 400000 in
theorem containsNil (g : Nat) (lb : Array Value) (w : World) :
    Calls Tryz.prog 108 #[.slice none 0 0, .func (.func g) #[] lb] w fun e w' => e = .returned (.bool false) ∧ Below w.heap.size w w' := by
  go_enter Tryz.func108, Tryz.ntmps108
  go_wp2_with (go_at_call 143; refine (indexNil _ _ _).mono ?_; rintro e w' ⟨rfl, rfl⟩)
  go_ret
  exact ⟨rfl, Below.refl _ _⟩

theorem rhas_below (i : QId) (b : Nat) (w : World) (h0 : w.cell? ⟨b, 0, none⟩ = some (.int .u64 i.c)) (h1 : w.cell? ⟨b, 1, none⟩ = some (.int .u64 i.k)) (hb : b < w.heap.size) :
    PredBelow Tryz.prog 109 #[.pointer (some ⟨b, 0, none⟩)] (fun x => .agg (encRng x).toArray) (fun r => r.hasB i) w := by
  intro W x hW
  refine (rhas_any x i b W ?_ ?_ ?_).mono ?_
  · rw [hW.cell (p := ⟨b, 0, none⟩) hb]; exact h0
  · rw [hW.cell (p := ⟨b, 1, none⟩) hb]; exact h1
  · have := hW.size; omega
  · exact fun e w' ⟨he, hb'⟩ => ⟨he, hW.trans (hb'.mono hW.size)⟩

set_option maxHeartbeats 400000 in
theorem containsRng_any (i : QId) (b : Nat) (v : Value) (l : List QRng) (w : World) (hl : SliceAt 3 encRng w v l) (h0 : w.cell? ⟨b, 0, none⟩ = some (.int .u64 i.c)) (h1 : w.cell? ⟨b, 1, none⟩ = some (.int .u64 i.k)) (hb : b < w.heap.size) :
    Calls Tryz.prog 108 #[v, .func (.func 109) #[] #[.pointer (some ⟨b, 0, none⟩)]] w fun e w' => e = .returned (.bool (l.any fun r => r.hasB i)) ∧ Below w.heap.size w w' := by
  rcases hl with ⟨rfl, rfl⟩ | ⟨bb, off, cap, rfl, hn, hlt, hc⟩
  · exact containsNil _ _ _
  · have := AnyQ.slices_ContainsFunc Tryz.containsRng 3 (fun w => by kernel_rfl) (fun w => by kernel_rfl) encRng (fun _ => rfl) (fun r => r.hasB i) 109 #[.pointer (some ⟨b, 0, none⟩)] (enters_of Tryz.func109 (by kernel_rfl) rfl) bb off l.length cap l w (rhas_below i b w h0 h1 hb) (Nat.le_refl _) hn hlt
      (fun j hj k v hv => hc j l[j] (by simp) k v (by simpa [hj] using hv))
    rw [List.take_length] at this
    exact this

set_option maxHeartbeats 400000 in
theorem idsHas_any (i : QId) (v : Value) (l : List QRng) (w : World) (hl : SliceAt 3 encRng w v l) :
    Calls Tryz.prog 60 #[v, .agg #[.int .u64 i.c, .int .u64 i.k]] w fun e w' => e = .returned (.bool (hasRngs l i)) ∧ Below w.heap.size w w' := by
  cases hr : i.rightB
  · have e : hasRngs l i = false := by simp [hasRngs, hr]
    rw [e]
    have n1 := fun w => right_any i w
    rw [hr] at n1
    clear hr e hl
    go_enter Tryz.func60, Tryz.ntmps60
    go_wp2_with (go_at_call 57; refine (n1 _).mono ?_; rintro e w' ⟨rfl, hb⟩)
    go_ret
    exact ⟨rfl, by (repeat (first | exact Below.refl _ _ | assumption | refine Below.alloc ?_ (by simp <;> omega) _ | refine Below.drew ?_ | refine below_drewN ?_ _ | refine Below.setCell ?_ (by simp <;> omega) _ | refine belowTrans ?_ (by assumption)))⟩
  · have e : hasRngs l i = l.any fun r => r.hasB i := by simp [hasRngs, hr]
    rw [e]
    have n1 := fun w => right_any i w
    rw [hr] at n1
    clear hr e
    have hB : Below w.heap.size w (w.alloc (Obj.cells #[Value.int IntKind.u64 i.c, Value.int IntKind.u64 i.k] 28)) := by (repeat (first | exact Below.refl _ _ | assumption | refine Below.alloc ?_ (by simp <;> omega) _ | refine Below.drew ?_ | refine below_drewN ?_ _ | refine Below.setCell ?_ (by simp <;> omega) _ | refine belowTrans ?_ (by assumption)))
    have hH := fun w' (hb : Below (w.alloc (Obj.cells #[Value.int IntKind.u64 i.c, Value.int IntKind.u64 i.k] 28)).heap.size (w.alloc (Obj.cells #[Value.int IntKind.u64 i.c, Value.int IntKind.u64 i.k] 28)) w') => containsRng_any i w.heap.size v l w' ((hl.below hB).below hb) (by rw [hb.cell (p := ⟨w.heap.size, 0, none⟩) (by simp)]; simp) (by rw [hb.cell (p := ⟨w.heap.size, 1, none⟩) (by simp)]; simp) (by have := hb.size; simp at this; omega)
    generalize (l.any fun r => r.hasB i) = ans at hH ⊢
    clear hl hB
    go_enter Tryz.func60, Tryz.ntmps60
    go_wp2_with (first | (go_at_call 57; refine (n1 _).mono ?_; rintro e w' ⟨rfl, hb⟩) | (go_at_call 108; refine (hH _ hb).mono ?_; rintro e w2 ⟨rfl, hb2⟩))
    go_ret
    exact ⟨rfl, by (repeat (first | exact Below.refl _ _ | assumption | refine Below.alloc ?_ (by simp <;> omega) _ | refine Below.drew ?_ | refine below_drewN ?_ _ | refine Below.setCell ?_ (by simp <;> omega) _ | refine belowTrans ?_ (by assumption)))⟩
end Go.Proofs.YthhbiliimdpgmaaGreatDoor
/- Walks: ops.Same of one with itself; a text: ops.bare, Check, Cut, follows, Fits. -/
namespace Go.Proofs.YthhbiliimdpgmaaGreatDoor
open Go.RowKit Go.Lib

theorem eqlAnchor (x : QId) (b : Bool) (w : World) : (binOp BinOp.eql 33 (.agg #[.int .u64 x.c, .int .u64 x.k, .bool b]) (.agg #[.int .u64 x.c, .int .u64 x.k, .bool b])).run Tryz.prog w = .ok (.bool true) w := by
  simp only [binOp]
  unfold Op.equal Op.maxDepth Op.equalIn
  go_simp
set_option maxRecDepth 100000 in
set_option maxHeartbeats 4000000 in
theorem opsSame_self (o : QOp) (w : World) : Calls Tryz.prog 56 #[opV o, opV o] w fun e w' => e = .returned (.bool true) ∧ Below w.heap.size w w' := by
  have hv := valSame_self o.v
  unfold opV
  have i0 := fun w => eqlId o.id o.id w
  have i1 := fun w => eqlId o.left o.left w
  have i2 := fun w => eqlId o.right o.right w
  have i3 := fun w => eqlId o.parent o.parent w
  have i4 := fun w => eqlAnchor o.frm o.frmA w
  have i5 := fun w => eqlAnchor o.til o.tilA w
  simp only [decide_true] at i0 i1 i2 i3
  go_enter Tryz.func56, Tryz.ntmps56
  go_upto_region 1 with fail
  obtain ⟨W, hW⟩ : ∃ W, (w.alloc (.cells (encOp o).toArray 35)).alloc (.cells (encOp o).toArray 35) = W := ⟨_, rfl⟩
  have hB : Below w.heap.size w W := by rw [← hW]; exact ((Below.refl _ _).alloc (Nat.le_refl _) _).alloc (by simp) _
  have hbx : OpBox W w.heap.size o := by rw [← hW]; exact (OpBox.new w o).below ((Below.refl _ _).alloc (Nat.le_refl _) _) (by simp)
  have hby : OpBox W (w.heap.size + 1) o := by rw [← hW]; have := OpBox.new (w.alloc (.cells (encOp o).toArray 35)) o; rwa [World.size_alloc] at this
  change Code.wp _ _ _ _ ((w.alloc (.cells (encOp o).toArray 35)).alloc (.cells (encOp o).toArray 35))
  rw [hW]
  clear hW
  have hz0 : w.heap.size < W.heap.size := hbx.lt
  have hz1 : w.heap.size + 1 < W.heap.size := hby.lt
  have q0 := hbx.cells 0 _ rfl
  have q1 := hbx.cells 1 _ rfl
  have q2 := hbx.cells 2 _ rfl
  have q3 := hbx.cells 3 _ rfl
  have q4 := hbx.cells 4 _ rfl
  have q5 := hbx.cells 5 _ rfl
  have q6 := hbx.cells 6 _ rfl
  have q7 := hbx.cells 7 _ rfl
  have q8 := hbx.cells 8 _ rfl
  have q9 := hbx.cells 9 _ rfl
  have q10 := hbx.cells 10 _ rfl
  have q11 := hbx.cells 11 _ rfl
  have q12 := hbx.cells 12 _ rfl
  have q13 := hbx.cells 13 _ rfl
  have q14 := hbx.cells 14 _ rfl
  have q15 := hbx.cells 15 _ rfl
  have q16 := hbx.cells 16 _ rfl
  have q17 := hbx.cells 17 _ rfl
  have q18 := hbx.cells 18 _ rfl
  have q19 := hbx.cells 19 _ rfl
  have q20 := hbx.cells 20 _ rfl
  have q21 := hbx.cells 21 _ rfl
  have p0 := hby.cells 0 _ rfl
  have p1 := hby.cells 1 _ rfl
  have p2 := hby.cells 2 _ rfl
  have p3 := hby.cells 3 _ rfl
  have p4 := hby.cells 4 _ rfl
  have p5 := hby.cells 5 _ rfl
  have p6 := hby.cells 6 _ rfl
  have p7 := hby.cells 7 _ rfl
  have p8 := hby.cells 8 _ rfl
  have p9 := hby.cells 9 _ rfl
  have p10 := hby.cells 10 _ rfl
  have p11 := hby.cells 11 _ rfl
  have p12 := hby.cells 12 _ rfl
  have p13 := hby.cells 13 _ rfl
  have p14 := hby.cells 14 _ rfl
  have p15 := hby.cells 15 _ rfl
  have p16 := hby.cells 16 _ rfl
  have p17 := hby.cells 17 _ rfl
  have p18 := hby.cells 18 _ rfl
  have p19 := hby.cells 19 _ rfl
  have p20 := hby.cells 20 _ rfl
  have p21 := hby.cells 21 _ rfl
  go_wp2_with fail
  refine (hv _).mono ?_
  rintro e w1 ⟨rfl, hb⟩
  obtain ⟨hc, hf⟩ := bcell hb
  go_wp2_with fail
  go_ret
  exact ⟨rfl, belowTrans hB hb⟩
end Go.Proofs.YthhbiliimdpgmaaGreatDoor
