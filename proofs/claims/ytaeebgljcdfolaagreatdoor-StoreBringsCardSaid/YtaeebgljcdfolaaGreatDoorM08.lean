/- Walks: utf8.ValidString and RuneCountInString by the shelf's contracts; utf.Check, utf.Len; quireref3.Cut. -/
import Derived.Test.YtaeebgljcdfolaaGreatDoorM07
import Derived.Test.YtaeebgljcdfolaaGreatDoorM03
import Derived.Shelf.Unicode.ValidAny
import Derived.Shelf.Utf8.RuneCount
import Derived.Test.YtaeebgljcdfolaaGreatDoorM02
import Derived.Deep.WholeRow
import Derived.Deep.DeepCutAuto
namespace Go.Proofs.YtaeebgljcdfolaaGreatDoor
open Go.RowKit Go.Lib

/-- utf8's two tables lie as its text lays them. -/
def Tabs (w : World) : Prop := Lib.Utf8Tabs (Tryz.valid_ren.g 3) (Tryz.valid_ren.g 4) w
theorem Tabs.below {w w' : World} (h : Tabs w) (hb : Below w.heap.size w w') : Tabs w' := Utf8Tabs_below h hb

theorem valid_any (s : ByteArray) (w : World) (hs : s.size ≤ 9223372036854775807) (hT : Tabs w) :
    Calls Tryz.prog 112 #[.string s] w fun e w' => e = .returned (.bool (okB s)) ∧ Below w.heap.size w w' := by
  have h := Any.utf8_ValidString Tryz.valid s w hs hT
  rw [validD_runes] at h
  exact h
theorem count_any (s : ByteArray) (w : World) (hs : s.size < 9223372036854775807) :
    Calls Tryz.prog 108 #[.string s] w fun e w' => e = .returned (.int .i64 (Lib.runeCount s : Int)) ∧ Below w.heap.size w w' := by
  have h := Any.utf8_RuneCountInString Tryz.runeCount s w hs
  refine Calls.mono h ?_
  rintro e w' ⟨rfl, pos, rfl⟩
  exact ⟨rfl, (Below.refl _ _).alloc (Nat.le_refl _) _⟩

set_option maxHeartbeats 400000 in
theorem utfCheck_any (s : ByteArray) (w : World) (hs : s.size ≤ 9223372036854775807) (hT : Tabs w) :
    Calls Tryz.prog 83 #[.string s] w fun e w' => e = .returned (.bool (okB s)) ∧ Below w.heap.size w w' := by
  go_enter Tryz.func83, Tryz.ntmps83
  go_wp2_with fail
  refine (valid_any s _ hs hT).mono ?_
  rintro e w1 ⟨rfl, hb⟩
  go_wp2_with fail
  go_ret
  exact ⟨rfl, hb⟩

theorem count_runes {s : ByteArray} (h : okB s = true) : Lib.runeCount s = (runesB s).length := by
  unfold okB at h
  obtain ⟨rs, hrs⟩ := Option.isSome_iff_exists.1 h
  obtain ⟨e, ho⟩ := text_of_runes hrs
  unfold runesB
  rw [hrs]
  conv => lhs; rw [e]
  exact runeCount_enc ho
theorem runes_bad {s : ByteArray} (h : okB s = false) : runesB s = [] := by
  unfold okB at h
  unfold runesB
  cases hr : runesL s.data.toList with
  | none => rfl
  | some x => rw [hr] at h; cases h

set_option maxHeartbeats 400000 in
theorem utfLen_any (s : ByteArray) (w : World) (hs : s.size < 9223372036854775807) (hT : Tabs w) :
    Calls Tryz.prog 72 #[.string s] w fun e w' => e = .returned (.int .i64 ((runesB s).length : Int)) ∧ Below w.heap.size w w' := by
  cases h : okB s
  · have hl := runes_bad h
    have hv := utfCheck_any s
    rw [h] at hv
    rw [hl]
    clear h hl
    go_enter Tryz.func72, Tryz.ntmps72
    go_wp2_with fail
    refine (hv _ (by omega) hT).mono ?_
    rintro e w1 ⟨rfl, hb⟩
    go_wp2_with fail
    go_ret
    exact ⟨rfl, hb⟩
  · have hl := count_runes h
    have hv := utfCheck_any s
    rw [h] at hv
    have hc := count_any s
    rw [hl] at hc
    clear h hl
    generalize (runesB s).length = N at hc ⊢
    go_enter Tryz.func72, Tryz.ntmps72
    go_wp2_with fail
    refine (hv _ (by omega) hT).mono ?_
    rintro e w1 ⟨rfl, hb⟩
    go_wp2_with fail
    refine (hc _ hs).mono ?_
    rintro e w2 ⟨rfl, hb2⟩
    go_wp2_with fail
    go_ret
    exact ⟨rfl, belowTrans hb hb2⟩

/-- a part of a text. -/
def cutB (s : ByteArray) (f t : Nat) : ByteArray := estr (((runesB s).take t).drop f)
set_option maxRecDepth 100000 in
set_option maxHeartbeats 1000000 in
theorem cut3_any (s : ByteArray) (f t : Nat) (w : World) (hs : s.size ≤ 1000000000000) (hft : f < t) (ht : t ≤ (runesB s).length) :
    Calls Tryz.prog 30 #[.string s, .int .i64 f, .int .i64 t] w fun e w' => e = .returned (.string (cutB s f t)) ∧ Below w.heap.size w w' := by
  unfold cutB
  obtain ⟨rs, hrs⟩ : ∃ rs, runesB s = rs := ⟨_, rfl⟩
  rw [hrs] at ht ⊢
  obtain ⟨R, hR⟩ : ∃ R, estr ((rs.take t).drop f) = R := ⟨_, rfl⟩
  rw [hR]
  have HR := Lib.hid hR
  have Hrs := Lib.hid hrs
  clear hR hrs
  go_enter Tryz.func30, Tryz.ntmps30
  go_wp2_with fail
  refine (runes3_any s hs _).mono ?_
  rintro e w1 ⟨v, rfl, hown, hb⟩
  rw [Hrs.out] at hown
  obtain ⟨g, c, rfl, hnc, hc⟩ : ∃ g c, v = .slice (some ⟨g, 0, none⟩) rs.length c ∧ rs.length ≤ c ∧ ∀ j, j < rs.length → w1.cell? ⟨g, j, none⟩ = some (.int .i32 (rs.getD j 0)) := by
    rcases hown.2 with ⟨_, e⟩ | ⟨g, cap, cur, rfl, _, hcur, hn, _⟩
    · omega
    · refine ⟨g, cap, rfl, hn, fun j hj => ?_⟩
      have h1 := World.ownsRow.cellAt hown j (by omega)
      have h2 := flat_get (enc := encR) (k := 1) (fun _ => rfl) rs j 0 rs[j] (by simp [hj]) (by omega)
      rw [Nat.mul_one, Nat.add_zero] at h2
      refine h1.trans (h2.trans ?_)
      simp [encR, List.getD, hj]
  have hcv : (convert 90 9 (.slice (some ⟨g, f, none⟩) (t - f) (c - f))).run Tryz.prog w1 = .ok (.string R) w1 := by
    have := run_convert_runes (P := Tryz.prog) w1 90 9 21 ⟨g, f, none⟩ (t - f) (c - f) ((rs.take t).drop f) (by simp; omega) Tryz.underlying90 Tryz.underlying21 Tryz.underlying9 (fun j hj => by
      rw [Addr.add_lit]
      simp at hj
      rw [hc (f + j) (by omega)]
      congr 2
      simp [List.getD, show f + j < t by omega])
    rw [this, List.take_of_length_le (by simp; omega), ← HR.out]
    rfl
  have hsl := fun w => slice_lh_run (T := 90) (k := 1) (by kernel_rfl) (fun w => by kernel_rfl) g 0 rs.length c f t hft (by omega) w
  simp only [Nat.zero_add, Nat.mul_one] at hsl
  have hmin : min (t : Int) (rs.length : Int) = t := by omega
  clear hown hc
  go_wp2_with fail
  all_goals go_ret
  all_goals exact ⟨rfl, hb⟩
end Go.Proofs.YtaeebgljcdfolaaGreatDoor
/- Plain: maps within maps as a list of sets; who wins; the view. -/
namespace Go.Proofs.YtaeebgljcdfolaaGreatDoor

structure QMaps where
  ops : List QOp
  hidden : List QRng
  deriving Inhabited

def QOp.clean (o : QOp) : QOp := { o with v := o.v.clean }
def idZero : QId := ⟨0, 0⟩
def valZero : QVal := ⟨0, 0, 0, ByteArray.empty⟩
def opZero : QOp := ⟨idZero, 0, 0, idZero, idZero, ByteArray.empty, valZero, ByteArray.empty, idZero, idZero, false, idZero, false⟩

namespace QMaps
def at_ (M : QMaps) (i : QId) : Option QOp := M.ops.find? fun o => decide (o.id = i)
def has (M : QMaps) (i : QId) : Bool := (M.at_ i).isSome
def isMap (M : QMaps) (i : QId) : Bool := decide (i = idZero) || (match M.at_ i with | some o => decide (o.v.kind = 5) && decide (o.kind = 4) | none => false)
def setB (M : QMaps) (o : QOp) : Bool := decide (o.kind = 4) && o.id.rightB && !M.has o.id && M.isMap o.parent
def set (M : QMaps) (o : QOp) : QMaps := { M with ops := M.ops ++ [o.clean] }
end QMaps

def opsAt (l : List QOp) (p : QId) (k : ByteArray) : List QOp := l.filter fun o => decide (o.parent = p) && decide (o.key = k)
/-- the keys of a map, in the order in which they came. -/
def keysAt (l : List QOp) (p : QId) : List ByteArray := l.foldl (fun (ks : List ByteArray) (o : QOp) => if o.parent = p ∧ (ks.any fun x => decide (x = o.key)) = false then ks ++ [o.key] else ks) []
def parents (l : List QOp) : List QId := l.foldl (fun (ps : List QId) (o : QOp) => if o.parent ∈ ps then ps else ps ++ [o.parent]) []

def pickOp (hid : List QRng) (best : Option QOp) (o : QOp) : Option QOp :=
  if hasRngs hid o.id then best else match best with
    | none => some o
    | some b => if b.lessB o then some o else some b
def bestOp (hid : List QRng) (l : List QOp) : Option QOp := l.foldl (pickOp hid) none
/-- a null wins, but is not seen. -/
def seen (b : Option QOp) : Option QOp := match b with
  | some o => if o.v.kind = 0 then none else some o
  | none => none
def QMaps.get (M : QMaps) (p : QId) (k : ByteArray) : Option QOp := seen (bestOp M.hidden (opsAt M.ops p k))

def QMaps.findFrom (M : QMaps) : QId → List ByteArray → Option QId
  | i, [] => some i
  | i, k :: path => match M.get i k with
    | some o => if o.v.kind = 5 then M.findFrom o.id path else none
    | none => none

inductive QEntry where
  | mk (key : ByteArray) (v : QVal) (kids : List QEntry)
  deriving Inhabited

def sortKeys (ks : List ByteArray) : List ByteArray := (ks.mergeSort fun x y => decide (x.data.toList ≤ y.data.toList))
def QMaps.viewN (M : QMaps) : Nat → QId → List QEntry
  | 0, _ => []
  | n + 1, p => (sortKeys (keysAt M.ops p)).filterMap fun k => match M.get p k with
    | some o => some (.mk k o.v.clean (if o.v.kind = 5 then M.viewN n o.id else []))
    | none => none

theorem mem_keysAt {p : QId} {k : ByteArray} : ∀ (l : List QOp) (acc : List ByteArray), k ∈ l.foldl (fun (ks : List ByteArray) (o : QOp) => if o.parent = p ∧ (ks.any fun x => decide (x = o.key)) = false then ks ++ [o.key] else ks) acc ↔ k ∈ acc ∨ ∃ o ∈ l, o.parent = p ∧ o.key = k
  | [], acc => by simp
  | o :: l, acc => by
    rw [List.foldl_cons, mem_keysAt l]
    by_cases hp : o.parent = p
    · by_cases hk : (acc.any fun x => decide (x = o.key)) = false
      · rw [if_pos ⟨hp, hk⟩]
        simp [hp, or_assoc, eq_comm]
      · rw [if_neg (fun h => hk h.2)]
        have : o.key ∈ acc := by
          have h1 : (acc.any fun x => decide (x = o.key)) = true := by simpa using hk
          obtain ⟨x, hx, he⟩ := List.any_eq_true.1 h1
          rw [← of_decide_eq_true he]; exact hx
        constructor
        · rintro (h | ⟨x, hx, h⟩)
          · exact .inl h
          · exact .inr ⟨x, by simp [hx], h⟩
        · rintro (h | ⟨x, hx, h1, h2⟩)
          · exact .inl h
          · rcases List.mem_cons.1 hx with rfl | hx
            · exact .inl (h2 ▸ this)
            · exact .inr ⟨x, hx, h1, h2⟩
    · rw [if_neg (fun h => hp h.1)]
      simp [hp]
theorem opsAt_ne {l : List QOp} {p : QId} {k : ByteArray} : opsAt l p k ≠ [] ↔ ∃ o ∈ l, o.parent = p ∧ o.key = k := by
  unfold opsAt
  rw [ne_eq, List.filter_eq_nil_iff]
  simp
theorem mem_keysAt_iff {l : List QOp} {p : QId} {k : ByteArray} : k ∈ keysAt l p ↔ opsAt l p k ≠ [] := by
  unfold keysAt
  rw [mem_keysAt, opsAt_ne]
  simp
theorem mem_parents {p : QId} : ∀ (l : List QOp) (acc : List QId), p ∈ l.foldl (fun (ps : List QId) (o : QOp) => if o.parent ∈ ps then ps else ps ++ [o.parent]) acc ↔ p ∈ acc ∨ ∃ o ∈ l, o.parent = p
  | [], acc => by simp
  | o :: l, acc => by
    rw [List.foldl_cons, mem_parents l]
    by_cases hp : o.parent ∈ acc
    · rw [if_pos hp]
      constructor
      · rintro (h | ⟨x, hx, h⟩)
        · exact .inl h
        · exact .inr ⟨x, by simp [hx], h⟩
      · rintro (h | ⟨x, hx, h⟩)
        · exact .inl h
        · rcases List.mem_cons.1 hx with rfl | hx
          · exact .inl (h ▸ hp)
          · exact .inr ⟨x, hx, h⟩
    · rw [if_neg hp]
      simp [or_assoc, eq_comm]
theorem mem_parents_iff {l : List QOp} {p : QId} : p ∈ parents l ↔ ∃ o ∈ l, o.parent = p := by
  unfold parents
  rw [mem_parents]
  simp

theorem nan_nan : nanB nanBits = true := by decide +kernel
theorem clean_clean (v : QVal) : v.clean.clean = v.clean := by
  unfold QVal.clean
  cases h : nanB v.f
  · simp [h]
  · simp [nan_nan]
end Go.Proofs.YtaeebgljcdfolaaGreatDoor
/- Operations as whole values: loads and stores of a whole one, in one step. -/
namespace Go.Proofs.YtaeebgljcdfolaaGreatDoor
open Go.RowKit

def encIdv (i : QId) : List Value := [.int .u64 i.c, .int .u64 i.k]
theorem infoId : (Tryz.prog.info? 28).map (fun i => (i.zero, i.size, i.bytes)) = some (some (.agg #[.int .u64 idZero.c, .int .u64 idZero.k]), 2, 16) := by kernel_rfl
def opV (o : QOp) : Value := .agg #[.int .u64 o.id.c, .int .u64 o.id.k, .int .i64 o.kind, .int .u64 o.stamp, .int .u64 o.left.c, .int .u64 o.left.k, .int .u64 o.right.c, .int .u64 o.right.k, .string o.text, .int .i64 o.v.kind, .int .i64 o.v.n, .float .f64 o.v.f, .string o.v.s, .string o.key, .int .u64 o.parent.c, .int .u64 o.parent.k, .int .u64 o.frm.c, .int .u64 o.frm.k, .bool o.frmA, .int .u64 o.til.c, .int .u64 o.til.k, .bool o.tilA]

/-- the cells of a set at a place. -/
def OpCells (w : World) (b off : Nat) (o : QOp) : Prop := ∀ i y, (encOp o)[i]? = some y → w.cell? ⟨b, off + i, none⟩ = some y
/-- the box of a set. -/
def OpBox (w : World) (b : Nat) (o : QOp) : Prop := w.heap[b]? = some (.cells (encOp o).toArray 35 (0, 0))

theorem OpBox.cells {w : World} {b : Nat} {o : QOp} (h : OpBox w b o) : OpCells w b 0 o := fun i y hy => by
  rw [World.cell?, h]; simpa using hy
theorem OpBox.lt {w : World} {b : Nat} {o : QOp} (h : OpBox w b o) : b < w.heap.size := (Array.getElem?_eq_some_iff.1 h).1

theorem undOp : ∃ d, Tryz.prog.underlying 35 = some d ∧ (match d with | .struct _ | .array _ _ => true | _ => false) = true :=
  ⟨(Tryz.prog.underlying 35).get (by kernel_rfl), by simp, by kernel_rfl⟩
theorem sizeOfOp : (Tryz.prog.info? 35).map (·.size) = some 22 := by kernel_rfl

theorem load_op {w : World} {b off : Nat} {o : QOp} (h : OpCells w b off o) : (loadVar 35 ⟨b, off, none⟩).run Tryz.prog w = .ok (opV o) w := by
  obtain ⟨d, hu, hd⟩ := undOp
  have hl : (loadCells ⟨b, off, none⟩ (encOp o).length).run Tryz.prog w = .ok (encOp o).toArray w :=
    run_loadCells_list (P := Tryz.prog) w ⟨b, off, none⟩ (encOp o) (fun j v hv => by rw [Addr.add_lit]; exact h j v hv)
  cases hq : (Tryz.prog).info? 35 with
  | none => have := sizeOfOp; simp [hq] at this
  | some i =>
    have hs : i.size = 22 := by have := sizeOfOp; simpa [hq] using this
    have hagg : (isAgg 35).run Tryz.prog w = .ok true w := by
      unfold isAgg
      rw [Sem.run_bind, run_underlying hu w]
      cases d <;> simp_all
    have hsz : (sizeOf 35).run Tryz.prog w = .ok 22 w := by simp [sizeOf, typeInfo, hq, hs]
    unfold loadVar
    rw [Sem.run_bind, hagg]
    simp only [Result.andThen_ok, if_true, Sem.run_bind, hsz]
    rw [show (22 : Nat) = (encOp o).length from rfl, hl]
    rfl
theorem OpBox.load {w : World} {b : Nat} {o : QOp} (h : OpBox w b o) : (loadVar 35 ⟨b, 0, none⟩).run Tryz.prog w = .ok (opV o) w := load_op h.cells

/-- the world with a set laid into a box. -/
def putOp (w : World) (b : Nat) (o : QOp) : World := w.setRow b (encOp o).toArray
theorem OpBox.store {w : World} {b : Nat} {x : QOp} (h : OpBox w b x) (o : QOp) : (storeVar 35 ⟨b, 0, none⟩ (opV o)).run Tryz.prog w = .ok () (putOp w b o) :=
  run_storeVar_row w b _ _ _ _ h (by rw [sizeOfOp]; rfl) rfl (by simp [encOp, Value.oneCell'])
theorem putOp_other {w : World} {b k : Nat} {o : QOp} (h : k ≠ b) : (putOp w b o).heap[k]? = w.heap[k]? := by
  simp only [putOp, World.setRow]
  rw [Array.getElem?_modify, if_neg (Ne.symm h)]
theorem OpBox.put {w : World} {b : Nat} {x : QOp} (h : OpBox w b x) (o : QOp) : OpBox (putOp w b o) b o := by
  unfold OpBox at *
  simp only [putOp, World.setRow]
  rw [Array.getElem?_modify, if_pos rfl, h]
  rfl
theorem OpBox.other {w : World} {b c : Nat} {x : QOp} (h : OpBox w b x) (o : QOp) (hb : b ≠ c) : OpBox (putOp w c o) b x := (putOp_other hb).trans h
@[simp] theorem putOp_size (w : World) (b : Nat) (o : QOp) : (putOp w b o).heap.size = w.heap.size := by simp [putOp, World.setRow]
theorem below_putOp {n b : Nat} {w w' : World} (h : Below n w w') (hb : n ≤ b) (o : QOp) : Below n w (putOp w' b o) :=
  ⟨h.os, h.tape, h.output, by rw [putOp_size]; exact h.size, fun k hk => (putOp_other (by omega)).trans (h.block k hk)⟩
theorem OpBox.new (w : World) (o : QOp) : OpBox (w.alloc (.cells (encOp o).toArray 35)) w.heap.size o := by
  unfold OpBox
  rw [alloc_heap_if, if_pos rfl]
theorem OpBox.below {n b : Nat} {w w' : World} {o : QOp} (h : OpBox w b o) (hb : Below n w w') (hn : b < n) : OpBox w' b o := (hb.block b hn).trans h


/-! the laws at the operations. -/
theorem wpList_load_eq {P : Program} {ops : Array Oper} {rest : List Oper} {o : Oper} {a : Act} {w : World} {Q : Exit → Act → World → Prop} {T : TypeId} {x : Operand} {ad : Addr} {v : Value} (hg : o.guard = none) (ho : o.op = .load T x) (hx : a.eval x = .pointer (some ad))
    (hr : (loadVar T ad).run P w = .ok v w) (h : wpList P ops Q rest (a.put o.dst v) w) : wpList P ops Q (o :: rest) a w :=
  wpList_plain hg fun _ hK => by
    unfold Oper.wp execOp
    simp only [ho, hx, Instr.loadAt, Instr.sureAddr, Sem.run_bind, Sem.run_pure, Result.andThen_ok, hr]
    exact hK _ _ h
theorem wpList_store_eq {P : Program} {ops : Array Oper} {rest : List Oper} {o : Oper} {a : Act} {w w' : World} {Q : Exit → Act → World → Prop} {T : TypeId} {x y : Operand} {ad : Addr} {v : Value} (hg : o.guard = none) (ho : o.op = .store T x y) (hx : a.eval x = .pointer (some ad)) (hy : a.eval y = v)
    (hr : (storeVar T ad v).run P w = .ok () w') (h : wpList P ops Q rest (a.put o.dst undef) w') : wpList P ops Q (o :: rest) a w :=
  wpList_plain hg fun _ hK => by
    unfold Oper.wp execOp
    simp only [ho, hx, hy, Instr.storeAt, Instr.sureAddr, Sem.run_bind, Sem.run_pure, Result.andThen_ok, hr]
    exact hK _ _ h
theorem wpList_load_at {P : Program} {ops : Array Oper} {rest : List Oper} {o : Oper} {a : Act} {w : World} {Q : Exit → Act → World → Prop} (T : TypeId) {x : Operand} (hg : o.guard = none) (ho : o.op = .load T x)
    (h : ∃ ad v, a.eval x = .pointer (some ad) ∧ (loadVar T ad).run P w = .ok v w ∧ wpList P ops Q rest (a.put o.dst v) w) : wpList P ops Q (o :: rest) a w := by
  obtain ⟨ad, v, hx, hr, h⟩ := h
  exact wpList_load_eq hg ho hx hr h
theorem wpList_store_at {P : Program} {ops : Array Oper} {rest : List Oper} {o : Oper} {a : Act} {w : World} {Q : Exit → Act → World → Prop} (T : TypeId) {x y : Operand} (hg : o.guard = none) (ho : o.op = .store T x y)
    (h : ∃ ad w', a.eval x = .pointer (some ad) ∧ (storeVar T ad (a.eval y)).run P w = .ok () w' ∧ wpList P ops Q rest (a.put o.dst undef) w') : wpList P ops Q (o :: rest) a w := by
  obtain ⟨ad, w', hx, hr, h⟩ := h
  exact wpList_store_eq hg ho hx rfl hr h
theorem quiet_load {P : Program} {C : World → Prop} {a : Act} {o : Oper} {K : Act → Prop} {v : Value} (T : TypeId) (x : Operand) (ad : Addr) (ho : o.op = .load T x) (hx : a.eval x = .pointer (some ad)) (hr : ∀ w, C w → (loadVar T ad).run P w = .ok v w) (hk : K (a.put o.dst v)) : o.quiet P a C K :=
  ⟨_, fun w hw => by
    unfold Oper.quietAt execOp
    simp only [ho, hx, Instr.loadAt, Instr.sureAddr, Sem.run_bind, Sem.run_pure, Result.andThen_ok, hr w hw]
    exact ⟨rfl, rfl⟩, hk⟩

theorem infoOp : (Tryz.prog.info? 35).map (fun i => (i.zero, i.size, i.bytes)) = some (some (opV opZero), 22, 200) := by kernel_rfl
theorem OpBox.f {w : World} {b : Nat} {o : QOp} (h : OpBox w b o) (n : Nat) : w.frozen? ⟨b, n, none⟩ = false := by simp [World.frozen?, show w.heap[b]? = _ from h]
theorem wpList_load_g {P : Program} {ops : Array Oper} {rest : List Oper} {o : Oper} {a : Act} {w : World} {Q : Exit → Act → World → Prop} (T : TypeId) {x : Operand} (ad : Addr) {v : Value} (ho : o.op = .load T x) (hx : a.eval x = .pointer (some ad))
    (hr : (loadVar T ad).run P w = .ok v w) (hw : Region.wanted o (yielded ops a.tmps) = true) (h : wpList P ops Q rest (a.put o.dst v) w) : wpList P ops Q (o :: rest) a w := by
  unfold wpList
  rw [if_pos hw]
  left
  unfold Oper.wp execOp
  simp only [ho, hx, Instr.loadAt, Instr.sureAddr, Sem.run_bind, Sem.run_pure, Result.andThen_ok, hr]
  exact h
end Go.Proofs.YtaeebgljcdfolaaGreatDoor
