/- The plain data of the program (ids, ranges, values, operations) as Lean structures; no program in sight. -/
import Derived.Test.YtaeebgljcdfolaaGreatDoorRows
import Derived.WalkKit
import Derived.WalkSpells
import Derived.WalkLawsBesides
import Derived.Deep.QuietTactic
import Derived.BigQuiet
import Derived.Sort.Grow
import Derived.Lib.Hide
import Derived.StillTailTactics
import Derived.Deep.RegionHeld3
import Derived.Deep.MidRow
namespace Go.Proofs.YtaeebgljcdfolaaGreatDoor

structure QId where
  c : Int
  k : Int
  deriving DecidableEq, Inhabited
structure QRng where
  c : Int
  a : Int
  b : Int
  deriving DecidableEq, Inhabited
structure QVal where
  kind : Int
  n : Int
  f : Nat
  s : ByteArray
  deriving DecidableEq, Inhabited
structure QOp where
  id : QId
  kind : Int
  stamp : Int
  left : QId
  right : QId
  text : ByteArray
  v : QVal
  key : ByteArray
  parent : QId
  frm : QId
  frmA : Bool
  til : QId
  tilA : Bool
  deriving DecidableEq, Inhabited

def numB (n : Int) : Bool := decide (1 ≤ n) && decide (n ≤ 9007199254740991)
def QId.rightB (i : QId) : Bool := numB i.c && numB i.k
def QId.lessB (x y : QId) : Bool := decide (x.c < y.c) || (decide (x.c = y.c) && decide (x.k < y.k))
def QRng.rightB (r : QRng) : Bool := numB r.c && decide (1 ≤ r.a) && decide (r.a < r.b) && decide (r.b ≤ 9007199254740992)
def QRng.hasB (r : QRng) (i : QId) : Bool := r.rightB && decide (r.c = i.c) && decide (r.a ≤ i.k) && decide (i.k < r.b)
/-- is a float (its bits) a NaN? -/
def nanB (f : Nat) : Bool := FloatKind.f64.format.order f f != some Ordering.eq
def nanBits : Nat := 9221120237041090560
def QVal.clean (v : QVal) : QVal := if nanB v.f then { v with f := nanBits } else v
def orI (x y : Int) : Int := if x ≠ 0 then x else y
theorem orI_ne {x y : Int} (h : (x != 0) = true) : x = orI x y := by
  have h' : x ≠ 0 := by simpa using h
  simp [orI, h']
theorem orI_eq {x y : Int} (h : (x != 0) = false) : y = orI x y := by
  have h' : x = 0 := by simpa using h
  simp [orI, h']
theorem orI_zero {x y : Int} (h : (x != 0) = false) (h2 : (y != 0) = false) : 0 = orI x y := by
  have h' : x = 0 := by simpa using h
  have h'' : y = 0 := by simpa using h2
  simp [orI, h', h'']
def cmpU (x y : Int) : Int := if x < y then -1 else if y < x then 1 else 0
def QRng.cmp (x y : QRng) : Int := orI (cmpU x.c y.c) (cmpU x.a y.a)
def QOp.lessB (x y : QOp) : Bool := decide (x.stamp < y.stamp) || (decide (x.stamp = y.stamp) && x.id.lessB y.id)

end Go.Proofs.YtaeebgljcdfolaaGreatDoor
/- Walks of the small functions on ids, ranges, values. -/
namespace Go.Proofs.YtaeebgljcdfolaaGreatDoor
open Go.RowKit

theorem bcell {W w1 : World} (hb : Below W.heap.size W w1) : (∀ b o, b < W.heap.size → w1.cell? ⟨b, o, none⟩ = W.cell? ⟨b, o, none⟩) ∧ (∀ b o, b < W.heap.size → w1.frozen? ⟨b, o, none⟩ = W.frozen? ⟨b, o, none⟩) :=
  ⟨fun b o h => hb.cell (p := ⟨b, o, none⟩) h, fun b o h => hb.frozen (p := ⟨b, o, none⟩) h⟩

theorem belowTrans {a b c : World} (h : Below a.heap.size a b) (g : Below b.heap.size b c) : Below a.heap.size a c := h.trans (g.mono h.size)
theorem ret_int {k : IntKind} {a b : Int} (h : a = b) : Ending.returned (.int k a) = .returned (.int k b) := by rw [h]
theorem ret_bool {a b : Bool} (h : a = b) : Ending.returned (.bool a) = .returned (.bool b) := by rw [h]

set_option maxHeartbeats 400000 in
theorem number_any (n : Int) (w : World) :
    Calls Tryz.prog 81 #[.int .u64 n] w fun e w' => e = .returned (.bool (numB n)) ∧ w = w' := by
  go_enter Tryz.func81, Tryz.ntmps81
  go_wp2
  all_goals go_ret
  all_goals exact ⟨ret_bool (by simp [numB, *]; try omega), rfl⟩

set_option maxHeartbeats 400000 in
theorem idsLess_any (x y : QId) (w : World) :
    Calls Tryz.prog 37 #[.agg #[.int .u64 x.c, .int .u64 x.k], .agg #[.int .u64 y.c, .int .u64 y.k]] w fun e w' => e = .returned (.bool (x.lessB y)) ∧ Below w.heap.size w w' := by
  go_enter Tryz.func37, Tryz.ntmps37
  go_wp2
  all_goals go_ret
  all_goals exact ⟨ret_bool (by simp [QId.lessB, *]), ((Below.refl _ _).alloc (Nat.le_refl _) _).alloc (by simp) _⟩

set_option maxHeartbeats 400000 in
theorem right_any (x : QId) (w : World) :
    Calls Tryz.prog 52 #[.agg #[.int .u64 x.c, .int .u64 x.k]] w fun e w' => e = .returned (.bool x.rightB) ∧ Below w.heap.size w w' := by
  go_enter Tryz.func52, Tryz.ntmps52
  go_wp2_with (go_at_call 81; refine (number_any _ _).mono ?_; rintro e w' ⟨rfl, rfl⟩)
  all_goals go_ret
  all_goals exact ⟨ret_bool (by simp [QId.rightB, *]), ((Below.refl _ _).alloc (Nat.le_refl _) _)⟩

set_option maxHeartbeats 400000 in
theorem rright_any (x : QRng) (w : World) :
    Calls Tryz.prog 90 #[.agg #[.int .u64 x.c, .int .u64 x.a, .int .u64 x.b]] w fun e w' => e = .returned (.bool x.rightB) ∧ Below w.heap.size w w' := by
  go_enter Tryz.func90, Tryz.ntmps90
  go_wp2_with (go_at_call 81; refine (number_any _ _).mono ?_; rintro e w' ⟨rfl, rfl⟩)
  all_goals go_ret
  all_goals exact ⟨ret_bool (by simp [QRng.rightB, *]; try omega), ((Below.refl _ _).alloc (Nat.le_refl _) _)⟩

set_option maxHeartbeats 400000 in
theorem isNaN_any (f : Nat) (w : World) :
    Calls Tryz.prog 97 #[.float .f64 f] w fun e w' => e = .returned (.bool (nanB f)) ∧ w = w' := by
  go_enter Tryz.func97, Tryz.ntmps97
  go_wp2
  go_ret
  exact ⟨rfl, rfl⟩

set_option maxHeartbeats 400000 in
theorem cmpU_any (x y : Int) (w : World) :
    Calls Tryz.prog 96 #[.int .u64 x, .int .u64 y] w fun e w' => e = .returned (.int .i64 (cmpU x y)) ∧ w = w' := by
  go_enter Tryz.func96, Tryz.ntmps96
  go_wp2_with go_in
  all_goals go_ret
  all_goals exact ⟨ret_int (by simp [cmpU]; omega), rfl⟩

set_option maxHeartbeats 400000 in
theorem rhas_any (x : QRng) (i : QId) (b : Nat) (w : World) (h0 : w.cell? ⟨b, 0, none⟩ = some (.int .u64 i.c)) (h1 : w.cell? ⟨b, 1, none⟩ = some (.int .u64 i.k)) (hbs : b < w.heap.size) :
    Calls Tryz.prog 89 #[.agg #[.int .u64 x.c, .int .u64 x.a, .int .u64 x.b], .pointer (some ⟨b, 0, none⟩)] w fun e w' => e = .returned (.bool (x.hasB i)) ∧ Below w.heap.size w w' := by
  have hbs1 : b < w.heap.size + 1 := by omega
  go_enter Tryz.func89, Tryz.ntmps89
  go_wp2_with (go_at_call 90; refine (rright_any _ _).mono ?_; rintro e w' ⟨rfl, hb⟩; obtain ⟨hc, hf⟩ := bcell hb)
  all_goals go_ret
  all_goals exact ⟨ret_bool (by simp [QRng.hasB, *]; try omega), by (repeat (first | exact Below.refl _ _ | assumption | refine Below.alloc ?_ (by simp <;> omega) _ | refine Below.drew ?_ | refine below_drewN ?_ _ | refine Below.setCell ?_ (by simp <;> omega) _ | refine belowTrans ?_ (by assumption)))⟩
end Go.Proofs.YtaeebgljcdfolaaGreatDoor
/- Walks: value.Clean, cmp.Or at ints, the closure of ids.Clean. -/
namespace Go.Proofs.YtaeebgljcdfolaaGreatDoor
open Go.RowKit

theorem run_frombits (w : World) : (callFunc 98 #[Value.int .u64 9221120237041090560]).run Tryz.prog w = .ok (.value (.float .f64 nanBits)) w := by kernel_rfl

theorem store_float (w : World) (a : Addr) (b : Nat) (m : Mode) : (store a (.float .f64 b) m).run Tryz.prog w = stored Tryz.prog w a (.float .f64 b) m := run_store Tryz.prog w a _ m rfl

set_option maxHeartbeats 400000 in
theorem valClean_any (v : QVal) (w : World) :
    Calls Tryz.prog 63 #[.agg #[.int .i64 v.kind, .int .i64 v.n, .float .f64 v.f, .string v.s]] w fun e w' => e = .returned (.agg #[.int .i64 (v.clean).kind, .int .i64 (v.clean).n, .float .f64 (v.clean).f, .string (v.clean).s]) ∧ Below w.heap.size w w' := by
  have hfb := run_frombits
  have hsf := store_float
  cases hn : nanB v.f
  · have hc : v.clean = v := by simp [QVal.clean, hn]
    have nn := fun w => isNaN_any v.f w
    rw [hn] at nn; rw [hc]
    clear hc hn
    go_enter Tryz.func63, Tryz.ntmps63
    go_wp2_with (go_at_call 97; refine (nn _).mono ?_; rintro e w' ⟨rfl, rfl⟩)
    exact bodyPost_ret (v := .agg #[.int .i64 v.kind, .int .i64 v.n, .float .f64 v.f, .string v.s]) (by simp [results, go_sem]) rfl ⟨rfl, by (repeat (first | exact Below.refl _ _ | assumption | refine Below.alloc ?_ (by simp <;> omega) _ | refine Below.drew ?_ | refine below_drewN ?_ _ | refine Below.setCell ?_ (by simp <;> omega) _ | refine belowTrans ?_ (by assumption)))⟩
  · have hc : v.clean = ⟨v.kind, v.n, nanBits, v.s⟩ := by simp [QVal.clean, hn]
    have nn := fun w => isNaN_any v.f w
    rw [hn] at nn; rw [hc]
    clear hc hn
    go_enter Tryz.func63, Tryz.ntmps63
    go_wp2_with (go_at_call 97; refine (nn _).mono ?_; rintro e w' ⟨rfl, rfl⟩)
    exact bodyPost_ret (v := .agg #[.int .i64 v.kind, .int .i64 v.n, .float .f64 nanBits, .string v.s]) (by simp [results, go_sem]) rfl ⟨rfl, by (repeat (first | exact Below.refl _ _ | assumption | refine Below.alloc ?_ (by simp <;> omega) _ | refine Below.drew ?_ | refine below_drewN ?_ _ | refine Below.setCell ?_ (by simp <;> omega) _ | refine belowTrans ?_ (by assumption)))⟩

set_option maxHeartbeats 400000 in
theorem or2_any (x y : Int) (b : Nat) (w : World) (h0 : w.cell? ⟨b, 0, none⟩ = some (.int .i64 x)) (h1 : w.cell? ⟨b, 1, none⟩ = some (.int .i64 y)) :
    Calls Tryz.prog 95 #[.slice (some ⟨b, 0, none⟩) 2 2] w fun e w' => e = .returned (.int .i64 (orI x y)) ∧ w = w' := by
  go_enter Tryz.func95, Tryz.ntmps95
  go_wp2
  refine wp_loop_rounds 3 ?_
  rw [rounds_succ]; go_wp2
  all_goals (first | (rw [rounds_succ]; go_wp2) | skip)
  all_goals (first | (rw [rounds_succ]; go_wp2) | skip)
  all_goals go_ret
  · exact ⟨ret_int (orI_ne ‹_›), rfl⟩
  · exact ⟨ret_int (orI_eq ‹_›), rfl⟩
  · exact ⟨ret_int (orI_zero ‹_› ‹_›), rfl⟩

theorem grew_of_below {w w' : World} (h : Below w.heap.size w w') (hd : w.drawn ≤ w'.drawn) : ∃ q os, w' = Sort.grow (w.drewN q) os := by
  refine ⟨w'.drawn - w.drawn, w'.heap.extract w.heap.size w'.heap.size, ?_⟩
  obtain ⟨h1, h2, h3, h4, h5⟩ := h
  cases w with | mk heap tape drawn os output =>
  cases w' with | mk heap' tape' drawn' os' output' =>
  simp only at h1 h2 h3 h4 h5 hd
  subst h1; subst h2; subst h3
  simp only [Sort.grow, World.drewN, World.mk.injEq, true_and, and_true]
  refine ⟨?_, by omega⟩
  apply Array.ext_getElem?
  intro i
  by_cases hi : i < heap.size
  · rw [h5 i hi, Array.getElem?_append, if_pos hi]
  · rw [Array.getElem?_append, if_neg hi, Array.getElem?_extract]
    by_cases h2 : i < heap'.size
    · rw [if_pos (by omega)]; congr 1; omega
    · rw [if_neg (by omega)]; exact Array.getElem?_eq_none (by omega)

set_option maxHeartbeats 400000 in
theorem rngCmp_any (x y : QRng) (w : World) :
    Calls Tryz.prog 94 #[.agg #[.int .u64 x.c, .int .u64 x.a, .int .u64 x.b], .agg #[.int .u64 y.c, .int .u64 y.a, .int .u64 y.b]] w fun e w' => e = .returned (.int .i64 (x.cmp y)) ∧ ∃ q os, w' = Sort.grow (w.drewN q) os := by
  have h1 := fun W => cmpU_any x.c y.c W
  have h2 := fun W => cmpU_any x.a y.a W
  obtain ⟨u, hu⟩ : ∃ u, u = cmpU x.c y.c := ⟨_, rfl⟩
  obtain ⟨v, hv⟩ : ∃ v, v = cmpU x.a y.a := ⟨_, rfl⟩
  have hr : x.cmp y = orI u v := by rw [hu, hv]; rfl
  rw [← hu] at h1; rw [← hv] at h2; rw [hr]
  clear hr hu hv
  go_enter Tryz.func94, Tryz.ntmps94
  go_wp2
  go_region_held3 (fun w' => w'.cell? ⟨w.heap.size, 0, none⟩ = some (.int .u64 x.c) ∧ w'.cell? ⟨w.heap.size, 1, none⟩ = some (.int .u64 x.a) ∧ w'.cell? ⟨w.heap.size + 1, 0, none⟩ = some (.int .u64 y.c) ∧ w'.cell? ⟨w.heap.size + 1, 1, none⟩ = some (.int .u64 y.a)) (go_keep) (first | (go_at_call_of 96 (Value.int .u64 x.c); refine (h1 _).mono ?_; rintro e w' ⟨rfl, rfl⟩) | (go_at_call_of 96 (Value.int .u64 x.a); refine (h2 _).mono ?_; rintro e w' ⟨rfl, rfl⟩) | (go_at_call 95; refine (or2_any u v _ _ (by go_simp) (by go_simp)).mono ?_; rintro e w' ⟨rfl, rfl⟩))
  go_wp2
  go_ret
  exact ⟨rfl, grew_of_below (by (repeat (first | exact Below.refl _ _ | assumption | refine Below.alloc ?_ (by simp <;> omega) _ | refine Below.drew ?_ | refine below_drewN ?_ _ | refine Below.setCell ?_ (by simp <;> omega) _ | refine belowTrans ?_ (by assumption)))) (by simp)⟩

end Go.Proofs.YtaeebgljcdfolaaGreatDoor
/- How lists lie in memory: a slice of structs, as a list; what a step of the program leaves. -/
namespace Go.Proofs.YtaeebgljcdfolaaGreatDoor
open Go.RowKit

/-- The slice value v holds the list l in the world w, each element in k cells. -/
def SliceAt {α : Type} (k : Nat) (enc : α → List Value) (w : World) (v : Value) (l : List α) : Prop :=
  (v = .slice none 0 0 ∧ l = []) ∨ ∃ b off cap, v = .slice (some ⟨b, off, none⟩) l.length cap ∧ l.length ≤ 9223372036854775807 ∧ b < w.heap.size ∧
    ∀ j x, l[j]? = some x → ∀ i y, (enc x)[i]? = some y → w.cell? ⟨b, off + j * k + i, none⟩ = some y

def encRng (r : QRng) : List Value := [.int .u64 r.c, .int .u64 r.a, .int .u64 r.b]
def encOp (o : QOp) : List Value := [.int .u64 o.id.c, .int .u64 o.id.k, .int .i64 o.kind, .int .u64 o.stamp, .int .u64 o.left.c, .int .u64 o.left.k, .int .u64 o.right.c, .int .u64 o.right.k, .string o.text, .int .i64 o.v.kind, .int .i64 o.v.n, .float .f64 o.v.f, .string o.v.s, .string o.key, .int .u64 o.parent.c, .int .u64 o.parent.k, .int .u64 o.frm.c, .int .u64 o.frm.k, .bool o.frmA, .int .u64 o.til.c, .int .u64 o.til.k, .bool o.tilA]

theorem alloc_heap_if (w : World) (o : Obj) (k : Nat) : (w.alloc o).heap[k]? = if k = w.heap.size then some o else w.heap[k]? := by
  show (w.heap.push o)[k]? = _
  rw [Array.getElem?_push]

/-- Blocks below B, but for those in S, are as they were. -/
structure Mods (S : Nat → Prop) (w w' : World) : Prop where
  os : w'.os = w.os
  tape : w'.tape = w.tape
  output : w'.output = w.output
  size : w.heap.size ≤ w'.heap.size
  block : ∀ k, k < w.heap.size → ¬ S k → w'.heap[k]? = w.heap[k]?

theorem Mods.refl (S : Nat → Prop) (w : World) : Mods S w w := ⟨rfl, rfl, rfl, Nat.le_refl _, fun _ _ _ => rfl⟩
theorem Mods.trans {S : Nat → Prop} {a b c : World} (h : Mods S a b) (g : Mods S b c) : Mods S a c :=
  ⟨g.os.trans h.os, g.tape.trans h.tape, g.output.trans h.output, Nat.le_trans h.size g.size, fun k hk hs => (g.block k (Nat.lt_of_lt_of_le hk h.size) hs).trans (h.block k hk hs)⟩
theorem Mods.of_below {S : Nat → Prop} {a b : World} (h : Below a.heap.size a b) : Mods S a b := ⟨h.os, h.tape, h.output, h.size, fun k hk _ => h.block k hk⟩

theorem Mods.alloc {S : Nat → Prop} {w w' : World} (h : Mods S w w') (o : Obj) : Mods S w (w'.alloc o) :=
  ⟨h.os, h.tape, h.output, by rw [World.size_alloc]; have := h.size; omega, fun k hk hs => (by rw [alloc_heap_if, if_neg (by have := h.size; omega)]; exact h.block k hk hs)⟩
theorem Mods.drew {S : Nat → Prop} {w w' : World} (h : Mods S w w') : Mods S w w'.drew := ⟨h.os, h.tape, h.output, h.size, h.block⟩
theorem Mods.grown {S : Nat → Prop} {w w' w'' : World} (h : Mods S w w') {row : Option Nat} (hg : w'.grownBy w'' row) (hr : ∀ b, row = some b → S b ∨ w.heap.size ≤ b) : Mods S w w'' :=
  ⟨hg.os.trans h.os, hg.tape.trans h.tape, hg.output.trans h.output, Nat.le_trans h.size hg.size, fun k hk hs => (hg.block k (Nat.lt_of_lt_of_le hk h.size) (fun e => by rcases hr k e.symm with h1 | h1; exact hs h1; omega)).trans (h.block k hk hs)⟩
theorem Mods.mono {S T : Nat → Prop} {w w' : World} (h : Mods S w w') (hst : ∀ k, S k → T k) : Mods T w w' := ⟨h.os, h.tape, h.output, h.size, fun k hk hs => h.block k hk fun e => hs (hst k e)⟩

theorem SliceAt.keep {α : Type} {k : Nat} {enc : α → List Value} {w w' : World} {v : Value} {l : List α} (h : SliceAt k enc w v l) (hs : w.heap.size ≤ w'.heap.size)
    (hb : ∀ b off n c, v = .slice (some ⟨b, off, none⟩) n c → b < w.heap.size → w'.heap[b]? = w.heap[b]?) : SliceAt k enc w' v l := by
  rcases h with h | ⟨b, off, cap, hv, hn, hlt, hc⟩
  · exact .inl h
  · refine .inr ⟨b, off, cap, hv, hn, by omega, fun j x hj i y hi => ?_⟩
    have := hc j x hj i y hi
    rw [← this]
    exact World.cell?_of_block (w := w) (hb _ _ _ _ hv hlt)

theorem SliceAt.below {α : Type} {k : Nat} {enc : α → List Value} {w w' : World} {v : Value} {l : List α} (h : SliceAt k enc w v l) (hb : Below w.heap.size w w') : SliceAt k enc w' v l :=
  h.keep hb.size fun b _ _ _ _ hlt => hb.block b hlt

/-- the call returns a value of which R holds. -/
def RetW (R : Value → World → Prop) (e : Ending) (w' : World) : Prop := ∃ v, e = .returned v ∧ R v w'
end Go.Proofs.YtaeebgljcdfolaaGreatDoor
