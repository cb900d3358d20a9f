/- Walks: ops.Join's closures; slices.IndexFunc, DeleteFunc of none, SortStableFunc and CompactFunc of operations that stand in order. -/
import Derived.Test.YtaeebgljcdfolaaGreatDoorM29
import Derived.Test.YtaeebgljcdfolaaGreatDoorM22
import Derived.Test.YtaeebgljcdfolaaGreatDoorM19
import Derived.Test.YtaeebgljcdfolaaGreatDoorM01
import Derived.ProofKit
import Derived.OpenShut
import Derived.ShutString
import Derived.ChangeOld
import Derived.Below
import Derived.Deep.Slices
import Derived.Deep.Fields
import Derived.ChangeSame
namespace Go.Proofs.YtaeebgljcdfolaaGreatDoor
open Go.RowKit Go.Lib

/-- a right text, as an operation. -/
def TextO (o : QOp) : Prop := ∃ i l r t, o = tOp i l r t ∧ GoodT i l r t ∧ t.size ≤ 100000
/-- right texts, one a client, in order. -/
structure JoinL (l : List QOp) : Prop where
  ok : ∀ o ∈ l, TextO o
  ord : l.Pairwise fun x y => x.id.c < y.id.c
theorem opCells {w : World} {b off n cap : Nat} {l : List QOp} (h : SliceAt 22 encOp w (.slice (some ⟨b, off, none⟩) n cap) l) {k : Nat} {x : QOp} (hx : l[k]? = some x) : n = l.length ∧ b < w.heap.size ∧ OpCells w b (off + k * 22) x := by
  rcases h with ⟨e, _⟩ | ⟨b', off', c', e, _, hb, hc⟩
  · cases e
  · cases e
    exact ⟨rfl, hb, fun i y hy => hc k x hx i y hy⟩
theorem OpCells.below {w w' : World} {b off : Nat} {o : QOp} (h : OpCells w b off o) (hb : Below w.heap.size w w') (hl : b < w.heap.size) : OpCells w' b off o := fun i y hy => (hb.cell (p := ⟨b, off + i, none⟩) hl).trans (h i y hy)
set_option maxRecDepth 100000 in
set_option maxHeartbeats 1000000 in
theorem join1_any (o : QOp) (h : TextO o) (w : World) (hT : Tabs w) : Calls Tryz.prog 75 #[opV o] w fun e w' => e = .returned (.bool false) ∧ Below w.heap.size w w' := by
  obtain ⟨i, l, r, t, rfl, hg, hs⟩ := h
  have hck := fun w hT => opsCheck_t i l r t w hg (by omega) hT
  change Calls Tryz.prog 75 #[.agg #[.int .u64 i.c, .int .u64 i.k, .int .i64 1, .int .u64 0, .int .u64 l.c, .int .u64 l.k, .int .u64 r.c, .int .u64 r.k, .string t, .int .i64 0, .int .i64 0, .float .f64 0, .string ⟨#[]⟩, .string ⟨#[]⟩, .int .u64 0, .int .u64 0, .int .u64 0, .int .u64 0, .bool false, .int .u64 0, .int .u64 0, .bool false]] w _
  go_enter Tryz.func75, Tryz.ntmps75
  go_upto_region 1 with fail
  obtain ⟨W, hW⟩ : ∃ W, w.alloc (.cells (encOp (tOp i l r t)).toArray 35) = W := ⟨_, rfl⟩
  have hB : Below w.heap.size w W := by rw [← hW]; exact (Below.refl _ _).alloc (Nat.le_refl _) _
  have hbx : OpBox W w.heap.size (tOp i l r t) := by rw [← hW]; exact OpBox.new _ _
  change Code.wp _ _ _ _ (w.alloc (.cells (encOp (tOp i l r t)).toArray 35))
  rw [hW]
  clear hW
  go_wp2_with (first | (refine wpList_load_eq (T := 35) (v := opV (tOp i l r t)) rfl rfl rfl hbx.load ?_) | (go_at_call 31; refine (hck _ (hT.below hB)).mono ?_; rintro e w1 ⟨rfl, hb1⟩))
  have hb := belowTrans hB hb1
  go_ret
  exact ⟨rfl, hb⟩
set_option maxRecDepth 100000 in
set_option maxHeartbeats 1000000 in
theorem join2_any (o p : QOp) (h : p.id.c < o.id.c) (w : World) : Calls Tryz.prog 77 #[opV o, opV p] w fun e w' => e = .returned (.int .i64 1) ∧ Below w.heap.size w w' := by
  have h1 := idsLess_any o.id p.id
  have h2 := idsLess_any p.id o.id
  have e1 : o.id.lessB p.id = false := by simp [QId.lessB]; omega
  have e2 : p.id.lessB o.id = true := by simp [QId.lessB]; omega
  rw [e1] at h1
  rw [e2] at h2
  clear e1 e2 h
  change Calls Tryz.prog 77 #[.agg #[.int .u64 o.id.c, .int .u64 o.id.k, .int .i64 o.kind, .int .u64 o.stamp, .int .u64 o.left.c, .int .u64 o.left.k, .int .u64 o.right.c, .int .u64 o.right.k, .string o.text, .int .i64 o.v.kind, .int .i64 o.v.n, .float .f64 o.v.f, .string o.v.s, .string o.key, .int .u64 o.parent.c, .int .u64 o.parent.k, .int .u64 o.frm.c, .int .u64 o.frm.k, .bool o.frmA, .int .u64 o.til.c, .int .u64 o.til.k, .bool o.tilA], .agg #[.int .u64 p.id.c, .int .u64 p.id.k, .int .i64 p.kind, .int .u64 p.stamp, .int .u64 p.left.c, .int .u64 p.left.k, .int .u64 p.right.c, .int .u64 p.right.k, .string p.text, .int .i64 p.v.kind, .int .i64 p.v.n, .float .f64 p.v.f, .string p.v.s, .string p.key, .int .u64 p.parent.c, .int .u64 p.parent.k, .int .u64 p.frm.c, .int .u64 p.frm.k, .bool p.frmA, .int .u64 p.til.c, .int .u64 p.til.k, .bool p.tilA]] w _
  go_enter Tryz.func77, Tryz.ntmps77
  go_upto_region 1 with fail
  obtain ⟨W, hW⟩ : ∃ W, (w.alloc (.cells (encOp o).toArray 35)).alloc (.cells (encOp p).toArray 35) = W := ⟨_, rfl⟩
  have hB : Below w.heap.size w W := by rw [← hW]; exact ((Below.refl _ _).alloc (Nat.le_refl _) _).alloc (by simp) _
  have hbx : OpBox W w.heap.size o := by rw [← hW]; exact (OpBox.new w o).below ((Below.refl _ _).alloc (Nat.le_refl _) _) (by simp)
  have hby : OpBox W (w.heap.size + 1) p := by rw [← hW]; have := OpBox.new (w.alloc (.cells (encOp o).toArray 35)) p; rwa [World.size_alloc] at this
  change Code.wp _ _ _ _ ((w.alloc (.cells (encOp o).toArray 35)).alloc (.cells (encOp p).toArray 35))
  rw [hW]
  clear hW
  have hz0 : w.heap.size < W.heap.size := hbx.lt
  have hz1 : w.heap.size + 1 < W.heap.size := hby.lt
  have a0 := hbx.cells 0 _ rfl
  have a1 := hbx.cells 1 _ rfl
  have b0 := hby.cells 0 _ rfl
  have b1 := hby.cells 1 _ rfl
  go_upto_region 3 with (go_at_call 37; refine (h1 _).mono ?_; rintro e w1 ⟨rfl, hb1⟩)
  have hB1 := belowTrans hB hb1
  have a0 := (hb1.cell (p := ⟨w.heap.size, 0, none⟩) hz0).trans a0
  have a1 := (hb1.cell (p := ⟨w.heap.size, 1, none⟩) hz0).trans a1
  have b0 := (hb1.cell (p := ⟨w.heap.size + 1, 0, none⟩) hz1).trans b0
  have b1 := (hb1.cell (p := ⟨w.heap.size + 1, 1, none⟩) hz1).trans b1
  clear hbx hby hB hz0 hz1 hb1
  go_wp2_with (go_at_call 37; refine (h2 _).mono ?_; rintro e w2 ⟨rfl, hb2⟩)
  have hb := belowTrans hB1 hb2
  go_ret
  exact ⟨rfl, hb⟩
set_option maxRecDepth 100000 in
set_option maxHeartbeats 1000000 in
theorem join3_any (o p : QOp) (h : p.id.c < o.id.c) (w : World) : Calls Tryz.prog 79 #[opV o, opV p] w fun e w' => e = .returned (.bool false) ∧ Below w.heap.size w w' := by
  have he := eqlId o.id p.id
  have e1 : decide (o.id = p.id) = false := by
    simp only [decide_eq_false_iff_not]
    intro e
    rw [e] at h
    omega
  rw [e1] at he
  clear e1 h
  change Calls Tryz.prog 79 #[.agg #[.int .u64 o.id.c, .int .u64 o.id.k, .int .i64 o.kind, .int .u64 o.stamp, .int .u64 o.left.c, .int .u64 o.left.k, .int .u64 o.right.c, .int .u64 o.right.k, .string o.text, .int .i64 o.v.kind, .int .i64 o.v.n, .float .f64 o.v.f, .string o.v.s, .string o.key, .int .u64 o.parent.c, .int .u64 o.parent.k, .int .u64 o.frm.c, .int .u64 o.frm.k, .bool o.frmA, .int .u64 o.til.c, .int .u64 o.til.k, .bool o.tilA], .agg #[.int .u64 p.id.c, .int .u64 p.id.k, .int .i64 p.kind, .int .u64 p.stamp, .int .u64 p.left.c, .int .u64 p.left.k, .int .u64 p.right.c, .int .u64 p.right.k, .string p.text, .int .i64 p.v.kind, .int .i64 p.v.n, .float .f64 p.v.f, .string p.v.s, .string p.key, .int .u64 p.parent.c, .int .u64 p.parent.k, .int .u64 p.frm.c, .int .u64 p.frm.k, .bool p.frmA, .int .u64 p.til.c, .int .u64 p.til.k, .bool p.tilA]] w _
  go_enter Tryz.func79, Tryz.ntmps79
  go_upto_region 1 with fail
  obtain ⟨W, hW⟩ : ∃ W, (w.alloc (.cells (encOp o).toArray 35)).alloc (.cells (encOp p).toArray 35) = W := ⟨_, rfl⟩
  have hB : Below w.heap.size w W := by rw [← hW]; exact ((Below.refl _ _).alloc (Nat.le_refl _) _).alloc (by simp) _
  have hbx : OpBox W w.heap.size o := by rw [← hW]; exact (OpBox.new w o).below ((Below.refl _ _).alloc (Nat.le_refl _) _) (by simp)
  have hby : OpBox W (w.heap.size + 1) p := by rw [← hW]; have := OpBox.new (w.alloc (.cells (encOp o).toArray 35)) p; rwa [World.size_alloc] at this
  change Code.wp _ _ _ _ ((w.alloc (.cells (encOp o).toArray 35)).alloc (.cells (encOp p).toArray 35))
  rw [hW]
  clear hW
  have hz0 : w.heap.size < W.heap.size := hbx.lt
  have hz1 : w.heap.size + 1 < W.heap.size := hby.lt
  have a0 := hbx.cells 0 _ rfl
  have a1 := hbx.cells 1 _ rfl
  have b0 := hby.cells 0 _ rfl
  have b1 := hby.cells 1 _ rfl
  clear hbx hby hz0 hz1
  go_wp2_with fail
  go_ret
  exact ⟨rfl, hB⟩
set_option maxRecDepth 100000 in
set_option maxHeartbeats 1000000 in
theorem indexNone_any (p : Option Addr) (cap : Nat) (l : List QOp) (w : World) (hl : SliceAt 22 encOp w (.slice p l.length cap) l) (hj : JoinL l) (hn : l.length ≤ 100000) (hT : Tabs w) :
    Calls Tryz.prog 109 #[.slice p l.length cap, .func (.func 75) #[] #[]] w fun e w' => e = .returned (.int .i64 (-1)) ∧ Below w.heap.size w w' := by
  have HJ := Lib.hid hj
  clear hj
  go_enter Tryz.func109, Tryz.ntmps109
  go_wp2
  go_loopw [8] (fun i wr => ∃ k : Nat, k ≤ l.length ∧ i = .int .i64 k ∧ Below w.heap.size w wr) (fun i _ => l.length - (intOf i).toNat)
  case atStart => exact ⟨0, Nat.zero_le _, rfl, Below.refl _ _⟩
  case round =>
    obtain ⟨k, hk, rfl, hb⟩ := hrel
    by_cases hlt : k < l.length
    · have hltz : (k : Int) < (l.length : Int) := by omega
      have hlr := hl.below hb
      obtain ⟨b, off, rfl⟩ : ∃ b off, p = some ⟨b, off, none⟩ := by
        rcases hlr with ⟨_, h⟩ | ⟨b0, off, _, h, _⟩
        · rw [h] at hlt; simp at hlt
        · cases h; exact ⟨_, _, rfl⟩
      obtain ⟨hcc, _, hoc⟩ := opCells hlr (k := k) (x := l[k]) (by simp)
      clear hcc hlr
      have hto := HJ.out.ok l[k] (by simp)
      generalize l[k] = o at hoc hto
      have hj1 := fun w hT => join1_any o hto w hT
      clear hto
      go_wp2_with (first | (refine wpList_load_eq (T := 35) (v := opV o) rfl rfl rfl (load_op hoc) ?_) | (go_at_call 75; refine (hj1 _ (hT.below hb)).mono ?_; rintro e w1 ⟨rfl, hb1⟩))
      have hb2 := hb.trans (hb1.mono hb.size)
      go_roundw
      case rel => exact ⟨k + 1, by omega, by go_num, hb2⟩
      case measure => simp [intOf]; omega
    · obtain rfl : k = l.length := by omega
      have hltz : ¬ (l.length : Int) < (l.length : Int) := by omega
      go_wp2_with fail
      go_ret
      exact ⟨rfl, hb⟩
set_option maxRecDepth 100000 in
set_option maxHeartbeats 1000000 in
theorem deleteNone_any (p : Option Addr) (cap : Nat) (l : List QOp) (w : World) (hl : SliceAt 22 encOp w (.slice p l.length cap) l) (hj : JoinL l) (hn : l.length ≤ 100000) (hT : Tabs w) :
    Calls Tryz.prog 73 #[.slice p l.length cap, .func (.func 75) #[] #[]] w fun e w' => e = .returned (.slice p l.length cap) ∧ Below w.heap.size w w' := by
  have hi := indexNone_any p cap l w hl hj hn hT
  clear hl hj
  go_enter Tryz.func73, Tryz.ntmps73
  go_wp2_with (go_at_call 109; refine hi.mono ?_; rintro e w1 ⟨rfl, hb1⟩)
  go_ret
  exact ⟨rfl, hb1⟩
end Go.Proofs.YtaeebgljcdfolaaGreatDoor
/- Arguments that came in, as lists (as XArgs, for rows without values). -/
namespace Go.Proofs.YtaeebgljcdfolaaGreatDoor
open Go.ChangeShapes Go.WideShapes Go.Deep Go.RowKit

/-- the slice value v reads as the list l (SliceAt's own words, without the address of an empty one). -/
def SliceP {α : Type} (k : Nat) (enc : α → List Value) (w : World) (v : Value) (l : List α) : Prop :=
  ∃ p cap, v = .slice p l.length cap ∧ l.length ≤ 9223372036854775807 ∧ ∀ (j : Nat) x, l[j]? = some x → ∃ b off, p = some ⟨b, off, none⟩ ∧ b < w.heap.size ∧ ∀ i y, (enc x)[i]? = some y → w.cell? ⟨b, off + j * k + i, none⟩ = some y
end Go.Proofs.YtaeebgljcdfolaaGreatDoor
