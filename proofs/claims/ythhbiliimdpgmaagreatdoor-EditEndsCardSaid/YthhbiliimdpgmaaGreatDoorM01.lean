/- The plain data of the program (ids, ranges, values, operations) as Lean structures; no program in sight. -/
import Derived.Test.YthhbiliimdpgmaaGreatDoorRows
import Derived.WalkKit
import Derived.WalkSpells
import Derived.WalkLawsBesides
import Derived.Deep.QuietTactic
import Derived.BigQuiet
import Derived.Sort.Grow
import Derived.Lib.Hide
import Derived.StillTailTactics
import Derived.Deep.RegionHeld3
import Derived.Deep.MidRow
import Derived.RangeFuncNested
import Derived.RangeFuncBound
import Derived.RangeFuncCalls
import Derived.RangeFuncLeaves
import Derived.RangeFuncBox
import Derived.Shelf.Abstract
import Derived.Shelf.RegionOpen
import Derived.OwnWalkIn
import Derived.TacticsInMore
import Derived.LoopNIn
import Derived.LoopIn
import Derived.BigGuardIn
namespace Go.Proofs.YthhbiliimdpgmaaGreatDoor

structure QId where
  c : Int
  k : Int
  deriving DecidableEq, Inhabited
structure QRng where
  c : Int
  a : Int
  b : Int
  deriving DecidableEq, Inhabited
structure QVal where
  kind : Int
  n : Int
  f : Nat
  s : ByteArray
  deriving DecidableEq, Inhabited
structure QOp where
  id : QId
  kind : Int
  stamp : Int
  left : QId
  right : QId
  text : ByteArray
  v : QVal
  key : ByteArray
  parent : QId
  frm : QId
  frmA : Bool
  til : QId
  tilA : Bool
  deriving DecidableEq, Inhabited

def numB (n : Int) : Bool := decide (1 ≤ n) && decide (n ≤ 9007199254740991)
def QId.rightB (i : QId) : Bool := numB i.c && numB i.k
def QId.lessB (x y : QId) : Bool := decide (x.c < y.c) || (decide (x.c = y.c) && decide (x.k < y.k))
def QRng.rightB (r : QRng) : Bool := numB r.c && decide (1 ≤ r.a) && decide (r.a < r.b) && decide (r.b ≤ 9007199254740992)
def QRng.hasB (r : QRng) (i : QId) : Bool := r.rightB && decide (r.c = i.c) && decide (r.a ≤ i.k) && decide (i.k < r.b)
/-- is a float (its bits) a NaN? -/
def nanB (f : Nat) : Bool := FloatKind.f64.format.order f f != some Ordering.eq
def nanBits : Nat := 9221120237041090560
def QVal.clean (v : QVal) : QVal := if nanB v.f then { v with f := nanBits } else v
def orI (x y : Int) : Int := if x ≠ 0 then x else y
theorem orI_ne {x y : Int} (h : (x != 0) = true) : x = orI x y := by
  have h' : x ≠ 0 := by simpa using h
  simp [orI, h']
theorem orI_eq {x y : Int} (h : (x != 0) = false) : y = orI x y := by
  have h' : x = 0 := by simpa using h
  simp [orI, h']
theorem orI_zero {x y : Int} (h : (x != 0) = false) (h2 : (y != 0) = false) : 0 = orI x y := by
  have h' : x = 0 := by simpa using h
  have h'' : y = 0 := by simpa using h2
  simp [orI, h', h'']
def cmpU (x y : Int) : Int := if x < y then -1 else if y < x then 1 else 0
def QRng.cmp (x y : QRng) : Int := orI (cmpU x.c y.c) (cmpU x.a y.a)
def QOp.lessB (x y : QOp) : Bool := decide (x.stamp < y.stamp) || (decide (x.stamp = y.stamp) && x.id.lessB y.id)

end Go.Proofs.YthhbiliimdpgmaaGreatDoor
/- Walks of the small functions on ids, ranges, values. -/
namespace Go.Proofs.YthhbiliimdpgmaaGreatDoor
open Go.RowKit

theorem bcell {W w1 : World} (hb : Below W.heap.size W w1) : (∀ b o, b < W.heap.size → w1.cell? ⟨b, o, none⟩ = W.cell? ⟨b, o, none⟩) ∧ (∀ b o, b < W.heap.size → w1.frozen? ⟨b, o, none⟩ = W.frozen? ⟨b, o, none⟩) :=
  ⟨fun b o h => hb.cell (p := ⟨b, o, none⟩) h, fun b o h => hb.frozen (p := ⟨b, o, none⟩) h⟩

theorem belowTrans {a b c : World} (h : Below a.heap.size a b) (g : Below b.heap.size b c) : Below a.heap.size a c := h.trans (g.mono h.size)
theorem ret_int {k : IntKind} {a b : Int} (h : a = b) : Ending.returned (.int k a) = .returned (.int k b) := by rw [h]
theorem ret_bool {a b : Bool} (h : a = b) : Ending.returned (.bool a) = .returned (.bool b) := by rw [h]

set_option maxHeartbeats 400000 in
theorem number_any (n : Int) (w : World) :
    Calls Tryz.prog 107 #[.int .u64 n] w fun e w' => e = .returned (.bool (numB n)) ∧ w = w' := by
  go_enter Tryz.func107, Tryz.ntmps107
  go_wp2
  all_goals go_ret
  all_goals exact ⟨ret_bool (by simp [numB, *]; try omega), rfl⟩

set_option maxHeartbeats 400000 in
theorem idsLess_any (x y : QId) (w : World) :
    Calls Tryz.prog 122 #[.agg #[.int .u64 x.c, .int .u64 x.k], .agg #[.int .u64 y.c, .int .u64 y.k]] w fun e w' => e = .returned (.bool (x.lessB y)) ∧ Below w.heap.size w w' := by
  go_enter Tryz.func122, Tryz.ntmps122
  go_wp2
  all_goals go_ret
  all_goals exact ⟨ret_bool (by simp [QId.lessB, *]), ((Below.refl _ _).alloc (Nat.le_refl _) _).alloc (by simp) _⟩

set_option maxHeartbeats 400000 in
theorem right_any (x : QId) (w : World) :
    Calls Tryz.prog 57 #[.agg #[.int .u64 x.c, .int .u64 x.k]] w fun e w' => e = .returned (.bool x.rightB) ∧ Below w.heap.size w w' := by
  go_enter Tryz.func57, Tryz.ntmps57
  go_wp2_with (go_at_call 107; refine (number_any _ _).mono ?_; rintro e w' ⟨rfl, rfl⟩)
  all_goals go_ret
  all_goals exact ⟨ret_bool (by simp [QId.rightB, *]), ((Below.refl _ _).alloc (Nat.le_refl _) _)⟩

set_option maxHeartbeats 400000 in
theorem rright_any (x : QRng) (w : World) :
    Calls Tryz.prog 85 #[.agg #[.int .u64 x.c, .int .u64 x.a, .int .u64 x.b]] w fun e w' => e = .returned (.bool x.rightB) ∧ Below w.heap.size w w' := by
  go_enter Tryz.func85, Tryz.ntmps85
  go_wp2_with (go_at_call 107; refine (number_any _ _).mono ?_; rintro e w' ⟨rfl, rfl⟩)
  all_goals go_ret
  all_goals exact ⟨ret_bool (by simp [QRng.rightB, *]; try omega), ((Below.refl _ _).alloc (Nat.le_refl _) _)⟩

set_option maxHeartbeats 400000 in
theorem isNaN_any (f : Nat) (w : World) :
    Calls Tryz.prog 89 #[.float .f64 f] w fun e w' => e = .returned (.bool (nanB f)) ∧ w = w' := by
  go_enter Tryz.func89, Tryz.ntmps89
  go_wp2
  go_ret
  exact ⟨rfl, rfl⟩

set_option maxHeartbeats 400000 in
theorem cmpU_any (x y : Int) (w : World) :
    Calls Tryz.prog 78 #[.int .u64 x, .int .u64 y] w fun e w' => e = .returned (.int .i64 (cmpU x y)) ∧ w = w' := by
  go_enter Tryz.func78, Tryz.ntmps78
  go_wp2_with go_in
  all_goals go_ret
  all_goals exact ⟨ret_int (by simp [cmpU]; omega), rfl⟩

set_option maxHeartbeats 400000 in
theorem rhas_any (x : QRng) (i : QId) (b : Nat) (w : World) (h0 : w.cell? ⟨b, 0, none⟩ = some (.int .u64 i.c)) (h1 : w.cell? ⟨b, 1, none⟩ = some (.int .u64 i.k)) (hbs : b < w.heap.size) :
    Calls Tryz.prog 109 #[.agg #[.int .u64 x.c, .int .u64 x.a, .int .u64 x.b], .pointer (some ⟨b, 0, none⟩)] w fun e w' => e = .returned (.bool (x.hasB i)) ∧ Below w.heap.size w w' := by
  have hbs1 : b < w.heap.size + 1 := by omega
  go_enter Tryz.func109, Tryz.ntmps109
  go_wp2_with (go_at_call 85; refine (rright_any _ _).mono ?_; rintro e w' ⟨rfl, hb⟩; obtain ⟨hc, hf⟩ := bcell hb)
  all_goals go_ret
  all_goals exact ⟨ret_bool (by simp [QRng.hasB, *]; try omega), by (repeat (first | exact Below.refl _ _ | assumption | refine Below.alloc ?_ (by simp <;> omega) _ | refine Below.drew ?_ | refine below_drewN ?_ _ | refine Below.setCell ?_ (by simp <;> omega) _ | refine belowTrans ?_ (by assumption)))⟩
end Go.Proofs.YthhbiliimdpgmaaGreatDoor
/- Walks: value.Clean, cmp.Or at ints, the closure of ids.Clean. -/
namespace Go.Proofs.YthhbiliimdpgmaaGreatDoor
open Go.RowKit

theorem run_frombits (w : World) : (callFunc 90 #[Value.int .u64 9221120237041090560]).run Tryz.prog w = .ok (.value (.float .f64 nanBits)) w := by kernel_rfl

theorem store_float (w : World) (a : Addr) (b : Nat) (m : Mode) : (store a (.float .f64 b) m).run Tryz.prog w = stored Tryz.prog w a (.float .f64 b) m := run_store Tryz.prog w a _ m rfl

set_option maxHeartbeats 400000 in
theorem valClean_any (v : QVal) (w : World) :
    Calls Tryz.prog 42 #[.agg #[.int .i64 v.kind, .int .i64 v.n, .float .f64 v.f, .string v.s]] w fun e w' => e = .returned (.agg #[.int .i64 (v.clean).kind, .int .i64 (v.clean).n, .float .f64 (v.clean).f, .string (v.clean).s]) ∧ Below w.heap.size w w' := by
  have hfb := run_frombits
  have hsf := store_float
  cases hn : nanB v.f
  · have hc : v.clean = v := by simp [QVal.clean, hn]
    have nn := fun w => isNaN_any v.f w
    rw [hn] at nn; rw [hc]
    clear hc hn
    go_enter Tryz.func42, Tryz.ntmps42
    go_wp2_with (go_at_call 89; refine (nn _).mono ?_; rintro e w' ⟨rfl, rfl⟩)
    exact bodyPost_ret (v := .agg #[.int .i64 v.kind, .int .i64 v.n, .float .f64 v.f, .string v.s]) (by simp [results, go_sem]) rfl ⟨rfl, by (repeat (first | exact Below.refl _ _ | assumption | refine Below.alloc ?_ (by simp <;> omega) _ | refine Below.drew ?_ | refine below_drewN ?_ _ | refine Below.setCell ?_ (by simp <;> omega) _ | refine belowTrans ?_ (by assumption)))⟩
  · have hc : v.clean = ⟨v.kind, v.n, nanBits, v.s⟩ := by simp [QVal.clean, hn]
    have nn := fun w => isNaN_any v.f w
    rw [hn] at nn; rw [hc]
    clear hc hn
    go_enter Tryz.func42, Tryz.ntmps42
    go_wp2_with (go_at_call 89; refine (nn _).mono ?_; rintro e w' ⟨rfl, rfl⟩)
    exact bodyPost_ret (v := .agg #[.int .i64 v.kind, .int .i64 v.n, .float .f64 nanBits, .string v.s]) (by simp [results, go_sem]) rfl ⟨rfl, by (repeat (first | exact Below.refl _ _ | assumption | refine Below.alloc ?_ (by simp <;> omega) _ | refine Below.drew ?_ | refine below_drewN ?_ _ | refine Below.setCell ?_ (by simp <;> omega) _ | refine belowTrans ?_ (by assumption)))⟩

set_option maxHeartbeats 400000 in
theorem or2_any (x y : Int) (b : Nat) (w : World) (h0 : w.cell? ⟨b, 0, none⟩ = some (.int .i64 x)) (h1 : w.cell? ⟨b, 1, none⟩ = some (.int .i64 y)) :
    Calls Tryz.prog 77 #[.slice (some ⟨b, 0, none⟩) 2 2] w fun e w' => e = .returned (.int .i64 (orI x y)) ∧ w = w' := by
  go_enter Tryz.func77, Tryz.ntmps77
  go_wp2
  refine wp_loop_rounds 3 ?_
  rw [rounds_succ]; go_wp2
  all_goals (first | (rw [rounds_succ]; go_wp2) | skip)
  all_goals (first | (rw [rounds_succ]; go_wp2) | skip)
  all_goals go_ret
  · exact ⟨ret_int (orI_ne ‹_›), rfl⟩
  · exact ⟨ret_int (orI_eq ‹_›), rfl⟩
  · exact ⟨ret_int (orI_zero ‹_› ‹_›), rfl⟩

theorem grew_of_below {w w' : World} (h : Below w.heap.size w w') (hd : w.drawn ≤ w'.drawn) : ∃ q os, w' = Sort.grow (w.drewN q) os := by
  refine ⟨w'.drawn - w.drawn, w'.heap.extract w.heap.size w'.heap.size, ?_⟩
  obtain ⟨h1, h2, h3, h4, h5⟩ := h
  cases w with | mk heap tape drawn os output =>
  cases w' with | mk heap' tape' drawn' os' output' =>
  simp only at h1 h2 h3 h4 h5 hd
  subst h1; subst h2; subst h3
  simp only [Sort.grow, World.drewN, World.mk.injEq, true_and, and_true]
  refine ⟨?_, by omega⟩
  apply Array.ext_getElem?
  intro i
  by_cases hi : i < heap.size
  · rw [h5 i hi, Array.getElem?_append, if_pos hi]
  · rw [Array.getElem?_append, if_neg hi, Array.getElem?_extract]
    by_cases h2 : i < heap'.size
    · rw [if_pos (by omega)]; congr 1; omega
    · rw [if_neg (by omega)]; exact Array.getElem?_eq_none (by omega)

set_option maxHeartbeats 400000 in
theorem rngCmp_any (x y : QRng) (w : World) :
    Calls Tryz.prog 87 #[.agg #[.int .u64 x.c, .int .u64 x.a, .int .u64 x.b], .agg #[.int .u64 y.c, .int .u64 y.a, .int .u64 y.b]] w fun e w' => e = .returned (.int .i64 (x.cmp y)) ∧ ∃ q os, w' = Sort.grow (w.drewN q) os := by
  have h1 := fun W => cmpU_any x.c y.c W
  have h2 := fun W => cmpU_any x.a y.a W
  obtain ⟨u, hu⟩ : ∃ u, u = cmpU x.c y.c := ⟨_, rfl⟩
  obtain ⟨v, hv⟩ : ∃ v, v = cmpU x.a y.a := ⟨_, rfl⟩
  have hr : x.cmp y = orI u v := by rw [hu, hv]; rfl
  rw [← hu] at h1; rw [← hv] at h2; rw [hr]
  clear hr hu hv
  go_enter Tryz.func87, Tryz.ntmps87
  go_wp2
  go_region_held3 (fun w' => w'.cell? ⟨w.heap.size, 0, none⟩ = some (.int .u64 x.c) ∧ w'.cell? ⟨w.heap.size, 1, none⟩ = some (.int .u64 x.a) ∧ w'.cell? ⟨w.heap.size + 1, 0, none⟩ = some (.int .u64 y.c) ∧ w'.cell? ⟨w.heap.size + 1, 1, none⟩ = some (.int .u64 y.a)) (go_keep) (first | (go_at_call_of 78 (Value.int .u64 x.c); refine (h1 _).mono ?_; rintro e w' ⟨rfl, rfl⟩) | (go_at_call_of 78 (Value.int .u64 x.a); refine (h2 _).mono ?_; rintro e w' ⟨rfl, rfl⟩) | (go_at_call 77; refine (or2_any u v _ _ (by go_simp) (by go_simp)).mono ?_; rintro e w' ⟨rfl, rfl⟩))
  go_wp2
  go_ret
  exact ⟨rfl, grew_of_below (by (repeat (first | exact Below.refl _ _ | assumption | refine Below.alloc ?_ (by simp <;> omega) _ | refine Below.drew ?_ | refine below_drewN ?_ _ | refine Below.setCell ?_ (by simp <;> omega) _ | refine belowTrans ?_ (by assumption)))) (by simp)⟩

end Go.Proofs.YthhbiliimdpgmaaGreatDoor
/- How lists lie in memory: a slice of structs, as a list; what a step of the program leaves. -/
namespace Go.Proofs.YthhbiliimdpgmaaGreatDoor
open Go.RowKit

/-- The slice value v holds the list l in the world w, each element in k cells. -/
def SliceAt {α : Type} (k : Nat) (enc : α → List Value) (w : World) (v : Value) (l : List α) : Prop :=
  (v = .slice none 0 0 ∧ l = []) ∨ ∃ b off cap, v = .slice (some ⟨b, off, none⟩) l.length cap ∧ l.length ≤ 9223372036854775807 ∧ b < w.heap.size ∧
    ∀ j x, l[j]? = some x → ∀ i y, (enc x)[i]? = some y → w.cell? ⟨b, off + j * k + i, none⟩ = some y

def encRng (r : QRng) : List Value := [.int .u64 r.c, .int .u64 r.a, .int .u64 r.b]
def encOp (o : QOp) : List Value := [.int .u64 o.id.c, .int .u64 o.id.k, .int .i64 o.kind, .int .u64 o.stamp, .int .u64 o.left.c, .int .u64 o.left.k, .int .u64 o.right.c, .int .u64 o.right.k, .string o.text, .int .i64 o.v.kind, .int .i64 o.v.n, .float .f64 o.v.f, .string o.v.s, .string o.key, .int .u64 o.parent.c, .int .u64 o.parent.k, .int .u64 o.frm.c, .int .u64 o.frm.k, .bool o.frmA, .int .u64 o.til.c, .int .u64 o.til.k, .bool o.tilA]

theorem alloc_heap_if (w : World) (o : Obj) (k : Nat) : (w.alloc o).heap[k]? = if k = w.heap.size then some o else w.heap[k]? := by
  show (w.heap.push o)[k]? = _
  rw [Array.getElem?_push]

/-- Blocks below B, but for those in S, are as they were. -/
structure Mods (S : Nat → Prop) (w w' : World) : Prop where
  os : w'.os = w.os
  tape : w'.tape = w.tape
  output : w'.output = w.output
  size : w.heap.size ≤ w'.heap.size
  block : ∀ k, k < w.heap.size → ¬ S k → w'.heap[k]? = w.heap[k]?

theorem Mods.refl (S : Nat → Prop) (w : World) : Mods S w w := ⟨rfl, rfl, rfl, Nat.le_refl _, fun _ _ _ => rfl⟩
theorem Mods.trans {S : Nat → Prop} {a b c : World} (h : Mods S a b) (g : Mods S b c) : Mods S a c :=
  ⟨g.os.trans h.os, g.tape.trans h.tape, g.output.trans h.output, Nat.le_trans h.size g.size, fun k hk hs => (g.block k (Nat.lt_of_lt_of_le hk h.size) hs).trans (h.block k hk hs)⟩
theorem Mods.of_below {S : Nat → Prop} {a b : World} (h : Below a.heap.size a b) : Mods S a b := ⟨h.os, h.tape, h.output, h.size, fun k hk _ => h.block k hk⟩

theorem Mods.alloc {S : Nat → Prop} {w w' : World} (h : Mods S w w') (o : Obj) : Mods S w (w'.alloc o) :=
  ⟨h.os, h.tape, h.output, by rw [World.size_alloc]; have := h.size; omega, fun k hk hs => (by rw [alloc_heap_if, if_neg (by have := h.size; omega)]; exact h.block k hk hs)⟩
theorem Mods.drew {S : Nat → Prop} {w w' : World} (h : Mods S w w') : Mods S w w'.drew := ⟨h.os, h.tape, h.output, h.size, h.block⟩
theorem Mods.grown {S : Nat → Prop} {w w' w'' : World} (h : Mods S w w') {row : Option Nat} (hg : w'.grownBy w'' row) (hr : ∀ b, row = some b → S b ∨ w.heap.size ≤ b) : Mods S w w'' :=
  ⟨hg.os.trans h.os, hg.tape.trans h.tape, hg.output.trans h.output, Nat.le_trans h.size hg.size, fun k hk hs => (hg.block k (Nat.lt_of_lt_of_le hk h.size) (fun e => by rcases hr k e.symm with h1 | h1; exact hs h1; omega)).trans (h.block k hk hs)⟩
theorem Mods.mono {S T : Nat → Prop} {w w' : World} (h : Mods S w w') (hst : ∀ k, S k → T k) : Mods T w w' := ⟨h.os, h.tape, h.output, h.size, fun k hk hs => h.block k hk fun e => hs (hst k e)⟩

theorem SliceAt.keep {α : Type} {k : Nat} {enc : α → List Value} {w w' : World} {v : Value} {l : List α} (h : SliceAt k enc w v l) (hs : w.heap.size ≤ w'.heap.size)
    (hb : ∀ b off n c, v = .slice (some ⟨b, off, none⟩) n c → b < w.heap.size → w'.heap[b]? = w.heap[b]?) : SliceAt k enc w' v l := by
  rcases h with h | ⟨b, off, cap, hv, hn, hlt, hc⟩
  · exact .inl h
  · refine .inr ⟨b, off, cap, hv, hn, by omega, fun j x hj i y hi => ?_⟩
    have := hc j x hj i y hi
    rw [← this]
    exact World.cell?_of_block (w := w) (hb _ _ _ _ hv hlt)

theorem SliceAt.below {α : Type} {k : Nat} {enc : α → List Value} {w w' : World} {v : Value} {l : List α} (h : SliceAt k enc w v l) (hb : Below w.heap.size w w') : SliceAt k enc w' v l :=
  h.keep hb.size fun b _ _ _ _ hlt => hb.block b hlt

/-- the call returns a value of which R holds. -/
def RetW (R : Value → World → Prop) (e : Ending) (w' : World) : Prop := ∃ v, e = .returned v ∧ R v w'
end Go.Proofs.YthhbiliimdpgmaaGreatDoor
/- ids.rights at ranges: the iterator over the right ones of a list. -/
namespace Go.Proofs.YthhbiliimdpgmaaGreatDoor
open Go.RowKit Go.Shelf

set_option maxHeartbeats 1000000 in
/-- rights(l, f): both are boxed, the function value captures the boxes. -/
theorem rights_in (n : Nat) (sv fv : Value) (w : World) (hs : sv.oneCell' = true) (hf : fv.oneCell' = true) :
    CallsIn Fence.wide n Tryz.prog 84 #[sv, fv] w fun e w' => e = .returned (.func (.func 130) #[] #[.pointer (some ⟨w.heap.size, 0, none⟩), .pointer (some ⟨w.heap.size + 1, 0, none⟩)]) ∧ w' = (w.alloc (.cells #[sv] 65)).alloc (.cells #[fv] 150) := by
  refine callsIn_of_wp Tryz.func84 rfl trivial ?_ rfl
  simp only [Tryz.ntmps84, List.size_toArray, List.length_cons, List.length_nil, Nat.reduceAdd, Nat.reduceSub, Array.replicate_succ, Array.replicate_zero, List.push_toArray, List.append_toArray, List.nil_append, List.cons_append]
  gi_wp2
  go_ret
  exact ⟨rfl, rfl⟩

/-- the right ones of the first k. -/
def rightUpto (l : List QRng) (k : Nat) : List QRng := (l.take k).filter QRng.rightB
theorem rightUpto_yes {l : List QRng} {k : Nat} (hk : k < l.length) (h : (l[k]).rightB = true) : rightUpto l (k + 1) = rightUpto l k ++ [l[k]] := by
  unfold rightUpto
  rw [List.take_succ_eq_append_getElem hk, List.filter_append]
  simp [h]
theorem rightUpto_no {l : List QRng} {k : Nat} (hk : k < l.length) (h : (l[k]).rightB = false) : rightUpto l (k + 1) = rightUpto l k := by
  unfold rightUpto
  rw [List.take_succ_eq_append_getElem hk, List.filter_append]
  simp [h]
theorem rightUpto_le (l : List QRng) (k : Nat) : (rightUpto l k).length ≤ k := Nat.le_trans (List.length_filter_le _ _) (List.length_take_le _ _)

theorem listSkip {n : Nat} {P : Program} {ops : Array Oper} {Q : Exit → Act → World → Prop} {a : Act} {w : World} {rest : List Oper} {o : Oper}
    (hw : Region.wanted o (yielded ops a.tmps) = false) (h : wpListIn Fence.wide n P ops Q rest (a.put o.dst undef) w) : wpListIn Fence.wide n P ops Q (o :: rest) a w :=
  wpListIn_step fun K hK => by rw [if_neg (by rw [hw]; exact Bool.false_ne_true)]; exact ⟨fun _ _ => trivial, hK _ _ h⟩

theorem abides_below {β : Type} {B : Nat} {J : β → World → Prop} (hJ : AbidesFrom B J) {w w' : World} (h : Below w.heap.size w w') {s : β} (hs : J s w) : J s w' :=
  hJ s w w' none hs ⟨h.os, h.tape, h.output, h.size, fun k hk _ => h.block k hk⟩ (fun r e => by cases e)

/-- What a round of the caller's keeps: what lies below n₀, and block Bf. -/
def KeepR (n₀ Bf : Nat) (A B : World) : Prop := Below n₀ A B ∧ B.heap[Bf]? = A.heap[Bf]?
theorem KeepR.refl (n₀ Bf : Nat) (A : World) : KeepR n₀ Bf A A := ⟨Below.refl _ _, rfl⟩
theorem KeepR.trans {n₀ Bf : Nat} {A B C : World} (h : KeepR n₀ Bf A B) (g : KeepR n₀ Bf B C) : KeepR n₀ Bf A C := ⟨h.1.trans g.1, g.2.trans h.2⟩
theorem KeepR.of_below {n₀ Bf : Nat} {A B : World} (hn : n₀ ≤ A.heap.size) (hB : Bf < A.heap.size) (h : Below A.heap.size A B) : KeepR n₀ Bf A B := ⟨h.mono hn, h.block Bf hB⟩
theorem KeepR.cell {n₀ Bf : Nat} {A B : World} (h : KeepR n₀ Bf A B) : B.cell? ⟨Bf, 0, none⟩ = A.cell? ⟨Bf, 0, none⟩ := World.cell?_of_block (w := A) h.2

set_option maxRecDepth 100000 in
set_option maxHeartbeats 2000000 in
/-- the closure: for every loop body that keeps what lay below n₀, and the box of the predicate. -/
theorem rights1_in (n : Nat) (hn : 3 ≤ n) (L Bs Bf n₀ b off cap : Nat) (l : List QRng) (hlen : l.length ≤ 9223372036854775807) (hb : b < n₀) (J Jx : List QRng → World → Prop)
    (hY : ∀ pre x W, J pre W → pre.length < l.length → YieldAt Fence.wide (n - 1) Tryz.prog L #[.agg #[.int .u64 x.c, .int .u64 x.a, .int .u64 x.b]] W fun e W' =>
      (e = .returned (.bool true) ∧ J (pre ++ [x]) W' ∧ KeepR n₀ Bf W W') ∨ (e = .returned (.bool false) ∧ Jx (pre ++ [x]) W'))
    (W : World) (hn₀ : n₀ ≤ W.heap.size) (hBf : Bf < W.heap.size) (hJ : AbidesFrom W.heap.size J) (hBs : W.cell? ⟨Bs, 0, none⟩ = some (.slice (some ⟨b, off, none⟩) l.length cap)) (hBf0 : W.cell? ⟨Bf, 0, none⟩ = some (.func (.func 85) #[] #[]))
    (hc : ∀ j x, l[j]? = some x → ∀ i y, (encRng x)[i]? = some y → W.cell? ⟨b, off + j * 3 + i, none⟩ = some y) (h0 : J [] W) :
    CallsIn Fence.wide n Tryz.prog 130 #[.func (.yield L) #[] #[], .pointer (some ⟨Bs, 0, none⟩), .pointer (some ⟨Bf, 0, none⟩)] W fun e W' => (∃ v, e = .returned v) ∧
      ((∃ ys, ys = l.filter QRng.rightB ∧ J ys W') ∨ (∃ pre, (∃ k, k ≤ l.length ∧ pre = rightUpto l k) ∧ Jx pre W')) := by
  refine callsIn_of_wp Tryz.func130 rfl trivial ?_ rfl
  simp only [Tryz.ntmps130, List.size_toArray, List.length_cons, List.length_nil, Nat.reduceAdd, Nat.reduceSub, Array.replicate_succ, Array.replicate_zero, List.push_toArray, List.append_toArray, List.nil_append, List.cons_append]
  gi_wp2
  gi_loopw [8] (fun i wr => ∃ k : Nat, k ≤ l.length ∧ i = .int .i64 k ∧ J (rightUpto l k) wr ∧ KeepR n₀ Bf W wr)
    (fun i _ => l.length - (intOf i).toNat)
  case atStart => exact ⟨0, Nat.zero_le _, rfl, h0, KeepR.refl _ _ _⟩
  case round =>
    obtain ⟨k, hk, rfl, hJs, hnx⟩ := hrel
    by_cases hlt : k < l.length
    · have hltz : (k : Int) < (l.length : Int) := by omega
      have c0 := (hnx.1.cell (p := ⟨b, off + k * 3 + 0, none⟩) hb).trans (hc k l[k] (by simp) 0 _ rfl)
      have c1 := (hnx.1.cell (p := ⟨b, off + k * 3 + 1, none⟩) hb).trans (hc k l[k] (by simp) 1 _ rfl)
      have c2 := (hnx.1.cell (p := ⟨b, off + k * 3 + 2, none⟩) hb).trans (hc k l[k] (by simp) 2 _ rfl)
      have cf := hnx.cell.trans hBf0
      have hfn : Fence.wide.fn 85 := trivial
      have hn1 : 1 ≤ n := by omega
      have eg : ∀ args w, (callFunc 85 args).run Tryz.prog w = .ok (.enter 85 args) w := enters_of Tryz.func85 (by kernel_rfl) rfl
      have hyes := rightUpto_yes hlt
      have hno := rightUpto_no hlt
      have hBfw : Bf < wr.heap.size := by have := hnx.1.size; omega
      generalize l[k] = x at c0 c1 c2 hyes hno
      simp only [Nat.add_zero] at c0
      have hr := fun W => (callsIn_wide (n := n - 1)).2 (rright_any x W)
      cases hq : x.rightB with
      | false =>
        have hU := Lib.hid (hno hq)
        rw [hq] at hr
        clear hyes hno hq hc hY hBs hBf0
        gi_wp2_with fail
        refine (hr _).mono ?_; rintro e w' ⟨rfl, hb'⟩; obtain ⟨hc', hf'⟩ := bcell hb'
        dsimp only
        go_at_K
        repeat (first | refine listSkip (by rfl) ?_ | gi_step)
        gi_wp2
        go_roundw
        case rel => exact ⟨k + 1, by omega, by simp, by rw [hU.out]; exact abides_below hJ (belowTrans ((Below.refl _ _).alloc (Nat.le_refl _) _) hb') hJs, hnx.trans (KeepR.of_below (by have := hnx.1.size; omega) hBfw (belowTrans ((Below.refl _ _).alloc (Nat.le_refl _) _) hb'))⟩
        case measure => simp [intOf]; omega
      | true =>
        have hU := Lib.hid (hyes hq)
        rw [hq] at hr
        clear hyes hno hq hc hBs hBf0
        have hlen2 := rightUpto_le l k
        gi_wp2_with (gi_at_call 85; refine (hr _).mono ?_; rintro e w' ⟨rfl, hb'⟩; obtain ⟨hc', hf'⟩ := bcell hb'; obtain ⟨fn, tmps, assign, body, hy, hR⟩ := hY _ x w' (abides_below hJ (belowTrans ((Below.refl _ _).alloc (Nat.le_refl _) _) hb') hJs) (by omega); clear hY)
        refine hR.mono ?_
        rintro e W3 (⟨rfl, hJ3, hk3⟩ | ⟨rfl, hJx3⟩)
        · gi_wp2
          go_roundw
          case rel => exact ⟨k + 1, by omega, by simp, by rw [hU.out]; exact hJ3, hnx.trans ((KeepR.of_below (by have := hnx.1.size; omega) hBfw (belowTrans ((Below.refl _ _).alloc (Nat.le_refl _) _) hb')).trans hk3)⟩
          case measure => simp [intOf]; omega
        · gi_wp2
          refine bodyPost_ret (results_none rfl _ _ _) rfl ?_
          exact ⟨⟨_, rfl⟩, .inr ⟨_, ⟨k + 1, by omega, hU.out.symm⟩, hJx3⟩⟩
    · have hltz : ¬ (k : Int) < (l.length : Int) := by omega
      obtain rfl : k = l.length := by omega
      gi_wp2
      go_end0
      first
        | exact ⟨⟨_, rfl⟩, .inl ⟨_, rfl, by simpa [rightUpto] using hJs⟩⟩
        | exact ⟨⟨_, rfl⟩, .inl (by simpa [rightUpto] using hJs)⟩

set_option maxRecDepth 100000 in
set_option maxHeartbeats 1000000 in
/-- .. at the nil slice: no round. -/
theorem rights1_nil_in (n L Bs Bf : Nat) (J : List QRng → World → Prop) (W : World) (hBs : W.cell? ⟨Bs, 0, none⟩ = some (.slice none 0 0)) (h0 : J [] W) :
    CallsIn Fence.wide n Tryz.prog 130 #[.func (.yield L) #[] #[], .pointer (some ⟨Bs, 0, none⟩), .pointer (some ⟨Bf, 0, none⟩)] W fun e W' => (∃ v, e = .returned v) ∧ J [] W' := by
  refine callsIn_of_wp Tryz.func130 rfl trivial ?_ rfl
  simp only [Tryz.ntmps130, List.size_toArray, List.length_cons, List.length_nil, Nat.reduceAdd, Nat.reduceSub, Array.replicate_succ, Array.replicate_zero, List.push_toArray, List.append_toArray, List.nil_append, List.cons_append]
  gi_wp2
  gi_loopw [8] (fun i wr => i = .int .i64 0 ∧ J [] wr) (fun _ _ => 0)
  case atStart => exact ⟨rfl, h0⟩
  case round =>
    obtain ⟨rfl, hJs⟩ := hrel
    gi_wp2
    go_end0
    exact ⟨⟨_, rfl⟩, hJs⟩

theorem rightUpto_prefix (l : List QRng) (k : Nat) : rightUpto l k <+: l.filter QRng.rightB := by
  unfold rightUpto
  exact (List.take_prefix k l).filter _

/-- rights(l, right) hands back a value that brings the right ones of l, in order, or a first part of them. -/
theorem rights_stops (n : Nat) (hn : 3 ≤ n) (Bs Bf n₀ : Nat) (sv : Value) (l : List QRng) (w : World) (hBs : Bs < w.heap.size) (hBf : Bf < w.heap.size) (hn₀ : n₀ ≤ w.heap.size)
    (hc : w.cell? ⟨Bs, 0, none⟩ = some sv) (hf : w.cell? ⟨Bf, 0, none⟩ = some (.func (.func 85) #[] #[])) (hI : SliceAt 3 encRng w sv l) (hlow : ∀ b off n c, sv = .slice (some ⟨b, off, none⟩) n c → b < n₀) :
    SeqStopsK Fence.wide n Tryz.prog 130 #[.pointer (some ⟨Bs, 0, none⟩), .pointer (some ⟨Bf, 0, none⟩)] (fun x : QRng => #[.agg #[.int .u64 x.c, .int .u64 x.a, .int .u64 x.b]]) (KeepR n₀ Bf) (fun ys => ys = l.filter QRng.rightB) (fun pre => pre <+: l.filter QRng.rightB) l.length w := fun L J Jx W hW hJ _ hY h0 => by
  have hc' := (hW.cell (p := ⟨Bs, 0, none⟩) hBs).trans hc
  have hf' := (hW.cell (p := ⟨Bf, 0, none⟩) hBf).trans hf
  rcases hI.below hW with ⟨rfl, rfl⟩ | ⟨b, off, cap, rfl, hlen, hb, hcs⟩
  · exact (rights1_nil_in n L Bs Bf J W hc' h0).mono fun e W' ⟨he, hj⟩ => ⟨he, .inl ⟨_, rfl, hj⟩⟩
  · refine (rights1_in n hn L Bs Bf n₀ b off cap l hlen (hlow _ _ _ _ rfl) J Jx hY W (by have := hW.size; omega) (by have := hW.size; omega) hJ hc' hf' hcs h0).mono ?_
    rintro e W' ⟨he, ⟨ys, rfl, hj⟩ | ⟨pre, ⟨k, hk, rfl⟩, hj⟩⟩
    · exact ⟨he, .inl ⟨_, rfl, hj⟩⟩
    · exact ⟨he, .inr ⟨_, rightUpto_prefix l k, hj⟩⟩
end Go.Proofs.YthhbiliimdpgmaaGreatDoor
