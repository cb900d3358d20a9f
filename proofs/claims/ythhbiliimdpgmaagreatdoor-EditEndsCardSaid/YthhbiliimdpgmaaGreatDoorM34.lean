/- Walk: ops.Cut of the set, whole. -/
import Derived.Test.YthhbiliimdpgmaaGreatDoorM24
import Derived.Test.YthhbiliimdpgmaaGreatDoorM13
import Derived.Test.YthhbiliimdpgmaaGreatDoorM18
import Derived.Test.YthhbiliimdpgmaaGreatDoorM01
import Derived.ProofKit
import Derived.OpenShut
import Derived.ShutString
import Derived.ChangeOld
import Derived.Below
import Derived.Deep.Slices
import Derived.Deep.Fields
import Derived.ChangeSame
namespace Go.Proofs.YthhbiliimdpgmaaGreatDoor
open Go.RowKit Go.Lib

set_option maxRecDepth 100000 in
set_option maxHeartbeats 4000000 in
theorem opsCut_set (s : Int) (w : World) (hT : Tabs w) :
    Calls Tryz.prog 33 #[opV (setO s), .int .i64 0, .int .i64 1] w fun x w' => x = .returned (.tuple #[opV (setO s), .bool true]) ∧ Below w.heap.size w w' := by
  have hlen := fun w hT => opsLen_any (setO s) w (by show 0 < _; decide) hT
  have hl1 : ((setO s).len : Int) = 1 := rfl
  rw [hl1] at hlen
  clear hl1
  have hv0 := valClean_any valZero
  rw [show valZero.clean = valZero from rfl] at hv0
  simp only [show valZero.kind = 0 from rfl, show valZero.n = 0 from rfl, show valZero.f = 0 from rfl, show valZero.s = (⟨#[]⟩ : ByteArray) from rfl] at hv0
  change Calls Tryz.prog 33 #[.agg #[.int .u64 (setO s).id.c, .int .u64 (setO s).id.k, .int .i64 (setO s).kind, .int .u64 (setO s).stamp, .int .u64 (setO s).left.c, .int .u64 (setO s).left.k, .int .u64 (setO s).right.c, .int .u64 (setO s).right.k, .string (setO s).text, .int .i64 (setO s).v.kind, .int .i64 (setO s).v.n, .float .f64 (setO s).v.f, .string (setO s).v.s, .string (setO s).key, .int .u64 (setO s).parent.c, .int .u64 (setO s).parent.k, .int .u64 (setO s).frm.c, .int .u64 (setO s).frm.k, .bool (setO s).frmA, .int .u64 (setO s).til.c, .int .u64 (setO s).til.k, .bool (setO s).tilA], .int .i64 0, .int .i64 1] w _
  go_enter Tryz.func33, Tryz.ntmps33
  go_upto_region 1 with fail
  obtain ⟨W, hW⟩ : ∃ W, (w.alloc (.cells (encOp (setO s)).toArray 35)).alloc (.cells (encOp opZero).toArray 35) = W := ⟨_, rfl⟩
  have hB : Below w.heap.size w W := by rw [← hW]; exact ((Below.refl _ _).alloc (Nat.le_refl _) _).alloc (by simp) _
  have hbx : OpBox W w.heap.size (setO s) := by rw [← hW]; exact (OpBox.new w (setO s)).below ((Below.refl _ _).alloc (Nat.le_refl _) _) (by simp)
  have hby : OpBox W (w.heap.size + 1) opZero := by rw [← hW]; have := OpBox.new (w.alloc (.cells (encOp (setO s)).toArray 35)) opZero; rwa [World.size_alloc] at this
  change Code.wp _ _ _ _ ((w.alloc (.cells (encOp (setO s)).toArray 35)).alloc (.cells (encOp opZero).toArray 35))
  rw [hW]
  clear hW
  have hz0 : w.heap.size < W.heap.size := hbx.lt
  have hz1 : w.heap.size + 1 < W.heap.size := hby.lt
  go_upto_region 3 with (first | (refine wpList_load_g 35 ⟨w.heap.size, 0, none⟩ rfl rfl hbx.load (by rfl) ?_) | (go_at_call 63; refine (hlen _ (hT.below hB)).mono ?_; rintro e1 w1 ⟨rfl, hb1⟩))
  have hbx1 := hbx.below hb1 hz0
  have hby1 := hby.below hb1 hz1
  have hB2 := belowTrans hB hb1
  clear hbx hby hB hb1 hz0 hz1 hlen
  clear W
  have hx1 := hbx1.lt
  have hy1 := hby1.lt
  have q9 : w1.cell? ⟨w.heap.size, 9, none⟩ = some (.int .i64 0) := hbx1.cells 9 _ rfl
  have q10 : w1.cell? ⟨w.heap.size, 10, none⟩ = some (.int .i64 0) := hbx1.cells 10 _ rfl
  have q11 : w1.cell? ⟨w.heap.size, 11, none⟩ = some (.float .f64 0) := hbx1.cells 11 _ rfl
  have q12 : w1.cell? ⟨w.heap.size, 12, none⟩ = some (.string ⟨#[]⟩) := hbx1.cells 12 _ rfl
  have hsf := store_float
  have f9 := hbx1.f 9
  have f10 := hbx1.f 10
  have f11 := hbx1.f 11
  have f12 := hbx1.f 12
  go_upto_region 4 with (go_at_call 42; refine (hv0 _).mono ?_; rintro e1 w2 ⟨rfl, hb2⟩; obtain ⟨hc2, hf2⟩ := bcell hb2)
  have hbx2 : OpBox ((((w2.setCell ⟨w.heap.size, 9, none⟩ (.int .i64 0)).setCell ⟨w.heap.size, 10, none⟩ (.int .i64 0)).setCell ⟨w.heap.size, 11, none⟩ (.float .f64 0)).setCell ⟨w.heap.size, 12, none⟩ (.string ⟨#[]⟩)) w.heap.size (setO s) := (hbx1.below hb2 hx1).setV valZero
  have hb3 := belowTrans hB2 hb2
  have hB3 := (((hb3.setCell (p := ⟨w.heap.size, 9, none⟩) (Nat.le_refl _) (.int .i64 0)).setCell (p := ⟨w.heap.size, 10, none⟩) (Nat.le_refl _) (.int .i64 0)).setCell (p := ⟨w.heap.size, 11, none⟩) (Nat.le_refl _) (.float .f64 0)).setCell (p := ⟨w.heap.size, 12, none⟩) (Nat.le_refl _) (.string ⟨#[]⟩)
  have hby2 := hby1.below hb2 hy1
  have hby3 : OpBox ((((w2.setCell ⟨w.heap.size, 9, none⟩ (.int .i64 0)).setCell ⟨w.heap.size, 10, none⟩ (.int .i64 0)).setCell ⟨w.heap.size, 11, none⟩ (.float .f64 0)).setCell ⟨w.heap.size, 12, none⟩ (.string ⟨#[]⟩)) (w.heap.size + 1) opZero := by
    refine (((Below.heap_setCell _ _ _ _ ?_).trans (Below.heap_setCell _ _ _ _ ?_)).trans (Below.heap_setCell _ _ _ _ ?_)).trans ((Below.heap_setCell _ _ _ _ ?_).trans hby2) <;> (show ¬ w.heap.size + 1 = w.heap.size; omega)
  obtain ⟨w3, hw3⟩ : ∃ w3, ((((w2.setCell ⟨w.heap.size, 9, none⟩ (.int .i64 0)).setCell ⟨w.heap.size, 10, none⟩ (.int .i64 0)).setCell ⟨w.heap.size, 11, none⟩ (.float .f64 0)).setCell ⟨w.heap.size, 12, none⟩ (.string ⟨#[]⟩)) = w3 := ⟨_, rfl⟩
  rw [hw3] at hbx2 hB3 hby3 ⊢
  clear hw3 q9 q10 q11 q12 f9 f10 f11 f12 hbx1 hby1 hB2 hb2 hb3 hc2 hf2 hby2 hx1 hy1 hv0 hsf
  clear w1 w2
  have q2 : w3.cell? ⟨w.heap.size, 2, none⟩ = some (.int .i64 4) := hbx2.cells 2 _ rfl
  have hres := Lib.hid (hby3.put (setO s)).load
  go_wp2_with (first | (refine wpList_load_eq (T := 35) (v := opV (setO s)) rfl rfl rfl hbx2.load ?_) | (refine wpList_store_eq (T := 35) (v := opV (setO s)) rfl rfl rfl rfl (OpBox.store hby3 (setO s)) ?_))
  refine bodyPost_ret (v := .tuple #[opV (setO s), .bool true]) ?_ rfl ⟨rfl, below_putOp hB3 (by omega) _⟩
  have h9 := hres.out
  simp [results, Tryz.results33, asAddr, h9]
end Go.Proofs.YthhbiliimdpgmaaGreatDoor
/- Walks: quirehelp.Place among 6, among 8; ids.TurnOf of no turns. -/
namespace Go.Proofs.YthhbiliimdpgmaaGreatDoor
open Go.RowKit Go.Lib

def PlaceN (N : Nat) (w : World) (e : Ending) (w' : World) : Prop := ∃ r : Nat, e = .returned (.int .i64 (r : Int)) ∧ r < N ∧ w = w'
theorem PlaceN.mk {N : Nat} {w : World} {r : Int} (h0 : 0 ≤ r) (h1 : r < N) : PlaceN N w (.returned (.int .i64 r)) w := ⟨r.toNat, by rw [Int.toNat_of_nonneg h0], by omega, rfl⟩
set_option maxHeartbeats 400000 in
theorem placeE6 (k : Int) (w : World) : Calls Tryz.prog 5 #[.int .i64 k, .int .i64 6] w (PlaceN 6 w) := by
  have h1 := Int.tmod_lt_of_pos k (b := 6) (by omega)
  have h2 := Int.lt_tmod_of_pos k (b := 6) (by omega)
  go_enter Tryz.func5, Tryz.ntmps5
  go_wp2
  all_goals (go_ret; exact PlaceN.mk (by omega) (by omega))
set_option maxHeartbeats 400000 in
theorem placeE8 (k : Int) (w : World) : Calls Tryz.prog 5 #[.int .i64 k, .int .i64 8] w (PlaceN 8 w) := by
  have h1 := Int.tmod_lt_of_pos k (b := 8) (by omega)
  have h2 := Int.lt_tmod_of_pos k (b := 8) (by omega)
  go_enter Tryz.func5, Tryz.ntmps5
  go_wp2
  all_goals (go_ret; exact PlaceN.mk (by omega) (by omega))
end Go.Proofs.YthhbiliimdpgmaaGreatDoor
/- Arguments that came in, as lists (as XArgs, for rows without values). -/
namespace Go.Proofs.YthhbiliimdpgmaaGreatDoor
open Go.ChangeShapes Go.WideShapes Go.Deep Go.RowKit

/-- the slice value v reads as the list l (SliceAt's own words, without the address of an empty one). -/
def SliceP {α : Type} (k : Nat) (enc : α → List Value) (w : World) (v : Value) (l : List α) : Prop :=
  ∃ p cap, v = .slice p l.length cap ∧ l.length ≤ 9223372036854775807 ∧ ∀ (j : Nat) x, l[j]? = some x → ∃ b off, p = some ⟨b, off, none⟩ ∧ b < w.heap.size ∧ ∀ i y, (enc x)[i]? = some y → w.cell? ⟨b, off + j * k + i, none⟩ = some y
end Go.Proofs.YthhbiliimdpgmaaGreatDoor
