/- Walks: utf8.ValidString and RuneCountInString by the shelf's contracts; utf.Check, utf.Len. -/
import Derived.Test.YthhbiliimdpgmaaGreatDoorM05
import Derived.Test.YthhbiliimdpgmaaGreatDoorM02
import Derived.Shelf.Unicode.ValidAny
import Derived.Shelf.Utf8.RuneCount
import Derived.Test.YthhbiliimdpgmaaGreatDoorM03
import Derived.Deep.WholeRow
import Derived.Deep.DeepCutAuto
import Derived.Test.YthhbiliimdpgmaaGreatDoorM01
import Derived.Maps.OwnSet
namespace Go.Proofs.YthhbiliimdpgmaaGreatDoor
open Go.RowKit Go.Lib

/-- utf8's two tables lie as its text lays them. -/
def Tabs (w : World) : Prop := Lib.Utf8Tabs (Tryz.valid_ren.g 3) (Tryz.valid_ren.g 4) w
theorem Tabs.below {w w' : World} (h : Tabs w) (hb : Below w.heap.size w w') : Tabs w' := Utf8Tabs_below h hb

theorem valid_any (s : ByteArray) (w : World) (hs : s.size ≤ 9223372036854775807) (hT : Tabs w) :
    Calls Tryz.prog 92 #[.string s] w fun e w' => e = .returned (.bool (okB s)) ∧ Below w.heap.size w w' := by
  have h := Any.utf8_ValidString Tryz.valid s w hs hT
  rw [validD_runes] at h
  exact h
theorem count_any (s : ByteArray) (w : World) (hs : s.size < 9223372036854775807) :
    Calls Tryz.prog 93 #[.string s] w fun e w' => e = .returned (.int .i64 (Lib.runeCount s : Int)) ∧ Below w.heap.size w w' := by
  have h := Any.utf8_RuneCountInString Tryz.runeCount s w hs
  refine Calls.mono h ?_
  rintro e w' ⟨rfl, pos, rfl⟩
  exact ⟨rfl, (Below.refl _ _).alloc (Nat.le_refl _) _⟩

set_option maxHeartbeats 400000 in
theorem utfCheck_any (s : ByteArray) (w : World) (hs : s.size ≤ 9223372036854775807) (hT : Tabs w) :
    Calls Tryz.prog 44 #[.string s] w fun e w' => e = .returned (.bool (okB s)) ∧ Below w.heap.size w w' := by
  go_enter Tryz.func44, Tryz.ntmps44
  go_wp2_with fail
  refine (valid_any s _ hs hT).mono ?_
  rintro e w1 ⟨rfl, hb⟩
  go_wp2_with fail
  go_ret
  exact ⟨rfl, hb⟩

theorem count_runes {s : ByteArray} (h : okB s = true) : Lib.runeCount s = (runesB s).length := by
  unfold okB at h
  obtain ⟨rs, hrs⟩ := Option.isSome_iff_exists.1 h
  obtain ⟨e, ho⟩ := text_of_runes hrs
  unfold runesB
  rw [hrs]
  conv => lhs; rw [e]
  exact runeCount_enc ho
theorem runes_bad {s : ByteArray} (h : okB s = false) : runesB s = [] := by
  unfold okB at h
  unfold runesB
  cases hr : runesL s.data.toList with
  | none => rfl
  | some x => rw [hr] at h; cases h

set_option maxHeartbeats 400000 in
theorem utfLen_any (s : ByteArray) (w : World) (hs : s.size < 9223372036854775807) (hT : Tabs w) :
    Calls Tryz.prog 45 #[.string s] w fun e w' => e = .returned (.int .i64 ((runesB s).length : Int)) ∧ Below w.heap.size w w' := by
  cases h : okB s
  · have hl := runes_bad h
    have hv := utfCheck_any s
    rw [h] at hv
    rw [hl]
    clear h hl
    go_enter Tryz.func45, Tryz.ntmps45
    go_wp2_with fail
    refine (hv _ (by omega) hT).mono ?_
    rintro e w1 ⟨rfl, hb⟩
    go_wp2_with fail
    go_ret
    exact ⟨rfl, hb⟩
  · have hl := count_runes h
    have hv := utfCheck_any s
    rw [h] at hv
    have hc := count_any s
    rw [hl] at hc
    clear h hl
    generalize (runesB s).length = N at hc ⊢
    go_enter Tryz.func45, Tryz.ntmps45
    go_wp2_with fail
    refine (hv _ (by omega) hT).mono ?_
    rintro e w1 ⟨rfl, hb⟩
    go_wp2_with fail
    refine (hc _ hs).mono ?_
    rintro e w2 ⟨rfl, hb2⟩
    go_wp2_with fail
    go_ret
    exact ⟨rfl, belowTrans hb hb2⟩

/-- a part of a text. -/
def cutB (s : ByteArray) (f t : Nat) : ByteArray := estr (((runesB s).take t).drop f)
end Go.Proofs.YthhbiliimdpgmaaGreatDoor
/- Plain: maps within maps as a list of sets; who wins; the view. -/
namespace Go.Proofs.YthhbiliimdpgmaaGreatDoor

structure QMaps where
  ops : List QOp
  hidden : List QRng
  deriving Inhabited

def QOp.clean (o : QOp) : QOp := { o with v := o.v.clean }
def idZero : QId := ⟨0, 0⟩
def valZero : QVal := ⟨0, 0, 0, ByteArray.empty⟩
def opZero : QOp := ⟨idZero, 0, 0, idZero, idZero, ByteArray.empty, valZero, ByteArray.empty, idZero, idZero, false, idZero, false⟩

namespace QMaps
def at_ (M : QMaps) (i : QId) : Option QOp := M.ops.find? fun o => decide (o.id = i)
def has (M : QMaps) (i : QId) : Bool := (M.at_ i).isSome
def isMap (M : QMaps) (i : QId) : Bool := decide (i = idZero) || (match M.at_ i with | some o => decide (o.v.kind = 5) && decide (o.kind = 4) | none => false)
def setB (M : QMaps) (o : QOp) : Bool := decide (o.kind = 4) && o.id.rightB && !M.has o.id && M.isMap o.parent
def set (M : QMaps) (o : QOp) : QMaps := { M with ops := M.ops ++ [o.clean] }
end QMaps

def opsAt (l : List QOp) (p : QId) (k : ByteArray) : List QOp := l.filter fun o => decide (o.parent = p) && decide (o.key = k)
/-- the keys of a map, in the order in which they came. -/
def keysAt (l : List QOp) (p : QId) : List ByteArray := l.foldl (fun (ks : List ByteArray) (o : QOp) => if o.parent = p ∧ (ks.any fun x => decide (x = o.key)) = false then ks ++ [o.key] else ks) []
def parents (l : List QOp) : List QId := l.foldl (fun (ps : List QId) (o : QOp) => if o.parent ∈ ps then ps else ps ++ [o.parent]) []

def pickOp (hid : List QRng) (best : Option QOp) (o : QOp) : Option QOp :=
  if hasRngs hid o.id then best else match best with
    | none => some o
    | some b => if b.lessB o then some o else some b
def bestOp (hid : List QRng) (l : List QOp) : Option QOp := l.foldl (pickOp hid) none
/-- a null wins, but is not seen. -/
def seen (b : Option QOp) : Option QOp := match b with
  | some o => if o.v.kind = 0 then none else some o
  | none => none
def QMaps.get (M : QMaps) (p : QId) (k : ByteArray) : Option QOp := seen (bestOp M.hidden (opsAt M.ops p k))

def QMaps.findFrom (M : QMaps) : QId → List ByteArray → Option QId
  | i, [] => some i
  | i, k :: path => match M.get i k with
    | some o => if o.v.kind = 5 then M.findFrom o.id path else none
    | none => none

inductive QEntry where
  | mk (key : ByteArray) (v : QVal) (kids : List QEntry)
  deriving Inhabited

def sortKeys (ks : List ByteArray) : List ByteArray := (ks.mergeSort fun x y => decide (x.data.toList ≤ y.data.toList))
def QMaps.viewN (M : QMaps) : Nat → QId → List QEntry
  | 0, _ => []
  | n + 1, p => (sortKeys (keysAt M.ops p)).filterMap fun k => match M.get p k with
    | some o => some (.mk k o.v.clean (if o.v.kind = 5 then M.viewN n o.id else []))
    | none => none

theorem mem_keysAt {p : QId} {k : ByteArray} : ∀ (l : List QOp) (acc : List ByteArray), k ∈ l.foldl (fun (ks : List ByteArray) (o : QOp) => if o.parent = p ∧ (ks.any fun x => decide (x = o.key)) = false then ks ++ [o.key] else ks) acc ↔ k ∈ acc ∨ ∃ o ∈ l, o.parent = p ∧ o.key = k
  | [], acc => by simp
  | o :: l, acc => by
    rw [List.foldl_cons, mem_keysAt l]
    by_cases hp : o.parent = p
    · by_cases hk : (acc.any fun x => decide (x = o.key)) = false
      · rw [if_pos ⟨hp, hk⟩]
        simp [hp, or_assoc, eq_comm]
      · rw [if_neg (fun h => hk h.2)]
        have : o.key ∈ acc := by
          have h1 : (acc.any fun x => decide (x = o.key)) = true := by simpa using hk
          obtain ⟨x, hx, he⟩ := List.any_eq_true.1 h1
          rw [← of_decide_eq_true he]; exact hx
        constructor
        · rintro (h | ⟨x, hx, h⟩)
          · exact .inl h
          · exact .inr ⟨x, by simp [hx], h⟩
        · rintro (h | ⟨x, hx, h1, h2⟩)
          · exact .inl h
          · rcases List.mem_cons.1 hx with rfl | hx
            · exact .inl (h2 ▸ this)
            · exact .inr ⟨x, hx, h1, h2⟩
    · rw [if_neg (fun h => hp h.1)]
      simp [hp]
theorem opsAt_ne {l : List QOp} {p : QId} {k : ByteArray} : opsAt l p k ≠ [] ↔ ∃ o ∈ l, o.parent = p ∧ o.key = k := by
  unfold opsAt
  rw [ne_eq, List.filter_eq_nil_iff]
  simp
theorem mem_keysAt_iff {l : List QOp} {p : QId} {k : ByteArray} : k ∈ keysAt l p ↔ opsAt l p k ≠ [] := by
  unfold keysAt
  rw [mem_keysAt, opsAt_ne]
  simp
theorem mem_parents {p : QId} : ∀ (l : List QOp) (acc : List QId), p ∈ l.foldl (fun (ps : List QId) (o : QOp) => if o.parent ∈ ps then ps else ps ++ [o.parent]) acc ↔ p ∈ acc ∨ ∃ o ∈ l, o.parent = p
  | [], acc => by simp
  | o :: l, acc => by
    rw [List.foldl_cons, mem_parents l]
    by_cases hp : o.parent ∈ acc
    · rw [if_pos hp]
      constructor
      · rintro (h | ⟨x, hx, h⟩)
        · exact .inl h
        · exact .inr ⟨x, by simp [hx], h⟩
      · rintro (h | ⟨x, hx, h⟩)
        · exact .inl h
        · rcases List.mem_cons.1 hx with rfl | hx
          · exact .inl (h ▸ hp)
          · exact .inr ⟨x, hx, h⟩
    · rw [if_neg hp]
      simp [or_assoc, eq_comm]
theorem mem_parents_iff {l : List QOp} {p : QId} : p ∈ parents l ↔ ∃ o ∈ l, o.parent = p := by
  unfold parents
  rw [mem_parents]
  simp

theorem nan_nan : nanB nanBits = true := by decide +kernel
theorem clean_clean (v : QVal) : v.clean.clean = v.clean := by
  unfold QVal.clean
  cases h : nanB v.f
  · simp [h]
  · simp [nan_nan]
end Go.Proofs.YthhbiliimdpgmaaGreatDoor
/- Operations as whole values: loads and stores of a whole one, in one step. -/
namespace Go.Proofs.YthhbiliimdpgmaaGreatDoor
open Go.RowKit

def encIdv (i : QId) : List Value := [.int .u64 i.c, .int .u64 i.k]
theorem infoId : (Tryz.prog.info? 28).map (fun i => (i.zero, i.size, i.bytes)) = some (some (.agg #[.int .u64 idZero.c, .int .u64 idZero.k]), 2, 16) := by kernel_rfl
def opV (o : QOp) : Value := .agg #[.int .u64 o.id.c, .int .u64 o.id.k, .int .i64 o.kind, .int .u64 o.stamp, .int .u64 o.left.c, .int .u64 o.left.k, .int .u64 o.right.c, .int .u64 o.right.k, .string o.text, .int .i64 o.v.kind, .int .i64 o.v.n, .float .f64 o.v.f, .string o.v.s, .string o.key, .int .u64 o.parent.c, .int .u64 o.parent.k, .int .u64 o.frm.c, .int .u64 o.frm.k, .bool o.frmA, .int .u64 o.til.c, .int .u64 o.til.k, .bool o.tilA]

/-- the cells of a set at a place. -/
def OpCells (w : World) (b off : Nat) (o : QOp) : Prop := ∀ i y, (encOp o)[i]? = some y → w.cell? ⟨b, off + i, none⟩ = some y
/-- the box of a set. -/
def OpBox (w : World) (b : Nat) (o : QOp) : Prop := w.heap[b]? = some (.cells (encOp o).toArray 35 (0, 0))

theorem OpBox.cells {w : World} {b : Nat} {o : QOp} (h : OpBox w b o) : OpCells w b 0 o := fun i y hy => by
  rw [World.cell?, h]; simpa using hy
theorem OpBox.lt {w : World} {b : Nat} {o : QOp} (h : OpBox w b o) : b < w.heap.size := (Array.getElem?_eq_some_iff.1 h).1

theorem undOp : ∃ d, Tryz.prog.underlying 35 = some d ∧ (match d with | .struct _ | .array _ _ => true | _ => false) = true :=
  ⟨(Tryz.prog.underlying 35).get (by kernel_rfl), by simp, by kernel_rfl⟩
theorem sizeOfOp : (Tryz.prog.info? 35).map (·.size) = some 22 := by kernel_rfl

theorem load_op {w : World} {b off : Nat} {o : QOp} (h : OpCells w b off o) : (loadVar 35 ⟨b, off, none⟩).run Tryz.prog w = .ok (opV o) w := by
  obtain ⟨d, hu, hd⟩ := undOp
  have hl : (loadCells ⟨b, off, none⟩ (encOp o).length).run Tryz.prog w = .ok (encOp o).toArray w :=
    run_loadCells_list (P := Tryz.prog) w ⟨b, off, none⟩ (encOp o) (fun j v hv => by rw [Addr.add_lit]; exact h j v hv)
  cases hq : (Tryz.prog).info? 35 with
  | none => have := sizeOfOp; simp [hq] at this
  | some i =>
    have hs : i.size = 22 := by have := sizeOfOp; simpa [hq] using this
    have hagg : (isAgg 35).run Tryz.prog w = .ok true w := by
      unfold isAgg
      rw [Sem.run_bind, run_underlying hu w]
      cases d <;> simp_all
    have hsz : (sizeOf 35).run Tryz.prog w = .ok 22 w := by simp [sizeOf, typeInfo, hq, hs]
    unfold loadVar
    rw [Sem.run_bind, hagg]
    simp only [Result.andThen_ok, if_true, Sem.run_bind, hsz]
    rw [show (22 : Nat) = (encOp o).length from rfl, hl]
    rfl
theorem OpBox.load {w : World} {b : Nat} {o : QOp} (h : OpBox w b o) : (loadVar 35 ⟨b, 0, none⟩).run Tryz.prog w = .ok (opV o) w := load_op h.cells

/-- the world with a set laid into a box. -/
def putOp (w : World) (b : Nat) (o : QOp) : World := w.setRow b (encOp o).toArray
theorem OpBox.store {w : World} {b : Nat} {x : QOp} (h : OpBox w b x) (o : QOp) : (storeVar 35 ⟨b, 0, none⟩ (opV o)).run Tryz.prog w = .ok () (putOp w b o) :=
  run_storeVar_row w b _ _ _ _ h (by rw [sizeOfOp]; rfl) rfl (by simp [encOp, Value.oneCell'])
theorem putOp_other {w : World} {b k : Nat} {o : QOp} (h : k ≠ b) : (putOp w b o).heap[k]? = w.heap[k]? := by
  simp only [putOp, World.setRow]
  rw [Array.getElem?_modify, if_neg (Ne.symm h)]
theorem OpBox.put {w : World} {b : Nat} {x : QOp} (h : OpBox w b x) (o : QOp) : OpBox (putOp w b o) b o := by
  unfold OpBox at *
  simp only [putOp, World.setRow]
  rw [Array.getElem?_modify, if_pos rfl, h]
  rfl
theorem OpBox.other {w : World} {b c : Nat} {x : QOp} (h : OpBox w b x) (o : QOp) (hb : b ≠ c) : OpBox (putOp w c o) b x := (putOp_other hb).trans h
@[simp] theorem putOp_size (w : World) (b : Nat) (o : QOp) : (putOp w b o).heap.size = w.heap.size := by simp [putOp, World.setRow]
theorem below_putOp {n b : Nat} {w w' : World} (h : Below n w w') (hb : n ≤ b) (o : QOp) : Below n w (putOp w' b o) :=
  ⟨h.os, h.tape, h.output, by rw [putOp_size]; exact h.size, fun k hk => (putOp_other (by omega)).trans (h.block k hk)⟩
theorem OpBox.new (w : World) (o : QOp) : OpBox (w.alloc (.cells (encOp o).toArray 35)) w.heap.size o := by
  unfold OpBox
  rw [alloc_heap_if, if_pos rfl]
theorem OpBox.below {n b : Nat} {w w' : World} {o : QOp} (h : OpBox w b o) (hb : Below n w w') (hn : b < n) : OpBox w' b o := (hb.block b hn).trans h


/-! the laws at the operations. -/
theorem wpList_load_eq {P : Program} {ops : Array Oper} {rest : List Oper} {o : Oper} {a : Act} {w : World} {Q : Exit → Act → World → Prop} {T : TypeId} {x : Operand} {ad : Addr} {v : Value} (hg : o.guard = none) (ho : o.op = .load T x) (hx : a.eval x = .pointer (some ad))
    (hr : (loadVar T ad).run P w = .ok v w) (h : wpList P ops Q rest (a.put o.dst v) w) : wpList P ops Q (o :: rest) a w :=
  wpList_plain hg fun _ hK => by
    unfold Oper.wp execOp
    simp only [ho, hx, Instr.loadAt, Instr.sureAddr, Sem.run_bind, Sem.run_pure, Result.andThen_ok, hr]
    exact hK _ _ h
theorem wpList_store_eq {P : Program} {ops : Array Oper} {rest : List Oper} {o : Oper} {a : Act} {w w' : World} {Q : Exit → Act → World → Prop} {T : TypeId} {x y : Operand} {ad : Addr} {v : Value} (hg : o.guard = none) (ho : o.op = .store T x y) (hx : a.eval x = .pointer (some ad)) (hy : a.eval y = v)
    (hr : (storeVar T ad v).run P w = .ok () w') (h : wpList P ops Q rest (a.put o.dst undef) w') : wpList P ops Q (o :: rest) a w :=
  wpList_plain hg fun _ hK => by
    unfold Oper.wp execOp
    simp only [ho, hx, hy, Instr.storeAt, Instr.sureAddr, Sem.run_bind, Sem.run_pure, Result.andThen_ok, hr]
    exact hK _ _ h
theorem wpList_load_at {P : Program} {ops : Array Oper} {rest : List Oper} {o : Oper} {a : Act} {w : World} {Q : Exit → Act → World → Prop} (T : TypeId) {x : Operand} (hg : o.guard = none) (ho : o.op = .load T x)
    (h : ∃ ad v, a.eval x = .pointer (some ad) ∧ (loadVar T ad).run P w = .ok v w ∧ wpList P ops Q rest (a.put o.dst v) w) : wpList P ops Q (o :: rest) a w := by
  obtain ⟨ad, v, hx, hr, h⟩ := h
  exact wpList_load_eq hg ho hx hr h
theorem wpList_store_at {P : Program} {ops : Array Oper} {rest : List Oper} {o : Oper} {a : Act} {w : World} {Q : Exit → Act → World → Prop} (T : TypeId) {x y : Operand} (hg : o.guard = none) (ho : o.op = .store T x y)
    (h : ∃ ad w', a.eval x = .pointer (some ad) ∧ (storeVar T ad (a.eval y)).run P w = .ok () w' ∧ wpList P ops Q rest (a.put o.dst undef) w') : wpList P ops Q (o :: rest) a w := by
  obtain ⟨ad, w', hx, hr, h⟩ := h
  exact wpList_store_eq hg ho hx rfl hr h
theorem quiet_load {P : Program} {C : World → Prop} {a : Act} {o : Oper} {K : Act → Prop} {v : Value} (T : TypeId) (x : Operand) (ad : Addr) (ho : o.op = .load T x) (hx : a.eval x = .pointer (some ad)) (hr : ∀ w, C w → (loadVar T ad).run P w = .ok v w) (hk : K (a.put o.dst v)) : o.quiet P a C K :=
  ⟨_, fun w hw => by
    unfold Oper.quietAt execOp
    simp only [ho, hx, Instr.loadAt, Instr.sureAddr, Sem.run_bind, Sem.run_pure, Result.andThen_ok, hr w hw]
    exact ⟨rfl, rfl⟩, hk⟩

theorem infoOp : (Tryz.prog.info? 35).map (fun i => (i.zero, i.size, i.bytes)) = some (some (opV opZero), 22, 200) := by kernel_rfl
theorem OpBox.f {w : World} {b : Nat} {o : QOp} (h : OpBox w b o) (n : Nat) : w.frozen? ⟨b, n, none⟩ = false := by simp [World.frozen?, show w.heap[b]? = _ from h]
theorem wpList_load_g {P : Program} {ops : Array Oper} {rest : List Oper} {o : Oper} {a : Act} {w : World} {Q : Exit → Act → World → Prop} (T : TypeId) {x : Operand} (ad : Addr) {v : Value} (ho : o.op = .load T x) (hx : a.eval x = .pointer (some ad))
    (hr : (loadVar T ad).run P w = .ok v w) (hw : Region.wanted o (yielded ops a.tmps) = true) (h : wpList P ops Q rest (a.put o.dst v) w) : wpList P ops Q (o :: rest) a w := by
  unfold wpList
  rw [if_pos hw]
  left
  unfold Oper.wp execOp
  simp only [ho, hx, Instr.loadAt, Instr.sureAddr, Sem.run_bind, Sem.run_pure, Result.andThen_ok, hr]
  exact h
end Go.Proofs.YthhbiliimdpgmaaGreatDoor
/- Maps in memory as association lists: what a look-up and a store do. -/
namespace Go.Proofs.YthhbiliimdpgmaaGreatDoor
open Go.RowKit Go.MapKept

/-- the map block r holds the pairs l, in the order in which they came. -/
def MapK {κ : Type} (enc : κ → Value) (w : World) (r : Nat) (l : List (κ × Value)) : Prop :=
  ∃ es clock, w.heap[r]? = some (.map es clock) ∧ es.toList.map (fun e => (e.key, e.val)) = l.map (fun p => (enc p.1, p.2)) ∧ Stamped es clock

def look {κ : Type} [DecidableEq κ] (l : List (κ × Value)) (x : κ) : Option Value := (l.find? fun p => decide (p.1 = x)).map (·.2)
def put {κ : Type} [DecidableEq κ] (l : List (κ × Value)) (x : κ) (v : Value) : List (κ × Value) :=
  if (look l x).isSome then l.map (fun p => if p.1 = x then (x, v) else p) else l ++ [(x, v)]

def findIx {κ : Type} [DecidableEq κ] (x : κ) : List (κ × Value) → Nat → Option (Nat × Value)
  | [], _ => none
  | p :: l, i => if p.1 = x then some (i, p.2) else findIx x l (i + 1)

theorem findIx_look {κ : Type} [DecidableEq κ] (x : κ) : ∀ (l : List (κ × Value)) (i : Nat), (findIx x l i).map (·.2) = look l x
  | [], _ => rfl
  | p :: l, i => by
    unfold findIx look
    by_cases h : p.1 = x
    · simp [h]
    · rw [if_neg h, findIx_look x l (i + 1)]
      simp [look, h]

theorem findIx_some {κ : Type} [DecidableEq κ] {x : κ} : ∀ {l : List (κ × Value)} {i j : Nat} {v : Value}, findIx x l i = some (j, v) → ∃ k, j = i + k ∧ l[k]? = some (x, v) ∧ ∀ m p, m < k → l[m]? = some p → p.1 ≠ x
  | [], _, _, _, h => by simp [findIx] at h
  | p :: l, i, j, v, h => by
    unfold findIx at h
    by_cases hp : p.1 = x
    · rw [if_pos hp] at h
      cases h
      exact ⟨0, rfl, by rw [← hp]; rfl, fun m _ hm => absurd hm (Nat.not_lt_zero _)⟩
    · rw [if_neg hp] at h
      obtain ⟨k, rfl, h1, h2⟩ := findIx_some h
      refine ⟨k + 1, by omega, by simpa using h1, fun m q hm hq => ?_⟩
      cases m with
      | zero => obtain rfl : p = q := by simpa using hq
                exact hp
      | succ m => exact h2 m q (by omega) (by simpa using hq)

theorem modify_map {β : Type} (g : MapEntry → β) (es : Array MapEntry) (j : Nat) (f : MapEntry → MapEntry) (h : ∀ a, es[j]? = some a → g (f a) = g a) : (es.modify j f).toList.map g = es.toList.map g := by
  apply List.ext_getElem?
  intro i
  rw [List.getElem?_map, Array.getElem?_toList, Array.getElem?_modify, List.getElem?_map, Array.getElem?_toList]
  by_cases hij : j = i
  · subst hij
    rw [if_pos rfl]
    cases he : es[j]? with
    | none => rfl
    | some a => simp [h a he]
  · rw [if_neg hij]

/-- what the laws on a map's block need of its keys' type. -/
structure KeyQ (P : Program) (K : TypeId) {κ : Type} [DecidableEq κ] (enc : κ → Value) : Prop where
  inj : ∀ {x y : κ}, enc x = enc y → x = y
  check : ∀ (w : World) (em : Bool) (x : κ), (Instr.checkKey em 10000 K (enc x)).run P w = .ok () w
  find : ∀ (w : World) (x : κ) (es : List MapEntry) (l : List (κ × Value)), es.map (fun e => (e.key, e.val)) = l.map (fun p => (enc p.1, p.2)) → (Instr.findKey K (enc x) es).run P w = .ok (findIx x l 0) w
  stays : ∀ (w : World) (x : κ), (Instr.keyThatStays (enc x) (enc x)).run P w = .ok (enc x) w

section
variable {P : Program} {K T E : TypeId} {κ : Type} [DecidableEq κ] {enc : κ → Value}

theorem run_look (Q : KeyQ P K enc) (ht : P.underlying T = some (.map K E)) {z : Value} (hz : ∀ w, (zeroValue E).run P w = .ok z w) {w : World} {r : Nat} {l : List (κ × Value)} (h : MapK enc w r l) (x : κ) (c : Bool) :
    (Instr.lookup T (.map (some r)) (enc x) c).run P w = .ok (if c then .tuple #[(look l x).getD z, .bool (look l x).isSome] else (look l x).getD z) w := by
  obtain ⟨es, clock, hb, hl, hs⟩ := h
  have hf := Q.find w x es.toList l hl
  have e := findIx_look x l 0
  simp only [Instr.lookup, Sem.run_bind, run_underlying ht, Result.andThen, MapKept.run_getObj_map hb, Sem.run_pure, Q.check, hf]
  rw [← e]
  cases hx : findIx x l 0 with
  | none => simp [Sem.run_bind, hz, Result.andThen, Sem.run_pure]
  | some p => obtain ⟨j, v⟩ := p; simp [Sem.run_pure, Result.andThen]

theorem run_look_nil (Q : KeyQ P K enc) (ht : P.underlying T = some (.map K E)) {z : Value} (hz : ∀ w, (zeroValue E).run P w = .ok z w) (w : World) (x : κ) (c : Bool) :
    (Instr.lookup T (.map none) (enc x) c).run P w = .ok (if c then .tuple #[z, .bool false] else z) w := by
  have hf := Q.find w x [] [] rfl
  simp only [Instr.lookup, Sem.run_bind, run_underlying ht, Result.andThen, Sem.run_pure, Q.check, hf, findIx]
  simp [Sem.run_bind, hz, Result.andThen, Sem.run_pure]

/-- the map with another obj in its block. -/
def putMap (w : World) (r : Nat) (o : Obj) : World := { w with heap := w.heap.setIfInBounds r o }
theorem putMap_same {w : World} {r : Nat} {o : Obj} (h : r < w.heap.size) : (putMap w r o).heap[r]? = some o := by simp [putMap, h]
theorem putMap_other {w : World} {r k : Nat} {o : Obj} (h : k ≠ r) : (putMap w r o).heap[k]? = w.heap[k]? := by simp [putMap, Ne.symm h]
@[simp] theorem putMap_size (w : World) (r : Nat) (o : Obj) : (putMap w r o).heap.size = w.heap.size := by simp [putMap]

theorem run_put (Q : KeyQ P K enc) (ht : P.underlying T = some (.map K E)) {w : World} {r : Nat} {l : List (κ × Value)} (h : MapK enc w r l) (x : κ) (v : Value) :
    ∃ o, (Instr.mapUpdate T (.map (some r)) (enc x) v).run P w = .ok () (putMap w r o) ∧ MapK enc (putMap w r o) r (put l x v) := by
  obtain ⟨es, clock, hb, hl, hs1, hs2, hs3⟩ := h
  have hr : r < w.heap.size := (Array.getElem?_eq_some_iff.1 hb).1
  have hf := Q.find w x es.toList l hl
  have e := findIx_look x l 0
  have hkeys : es.toList.map (·.key) = l.map (fun p => enc p.1) := by
    have := congrArg (List.map Prod.fst) hl
    simpa [List.map_map, Function.comp_def] using this
  cases hx : findIx x l 0 with
  | none =>
    rw [hx] at e hf
    refine ⟨.map (es.push { key := enc x, val := v, born := clock }) (clock + 1), ?_, ⟨_, _, putMap_same hr, ?_, ?_, ?_, ?_⟩⟩
    · simp only [Instr.mapUpdate, Sem.run_bind, run_underlying ht, Result.andThen, MapKept.run_getObj_map hb, Q.check, hf, MapKept.run_setObj_map _ hb]
      rfl
    · have e' : look l x = none := by rw [← e]; rfl
      rw [put, e']
      simp [hl]
    · intro y hy
      simp only [Array.toList_push, List.mem_append, List.mem_singleton] at hy
      rcases hy with hy | rfl
      · have := hs1 y hy; omega
      · simp
    · simp only [Array.toList_push, List.map_append, List.map_cons, List.map_nil]
      refine List.nodup_append.2 ⟨hs2, by simp, fun a ha b hb' => ?_⟩
      obtain ⟨y, hy, rfl⟩ := List.mem_map.1 ha
      obtain rfl : b = clock := by simpa using hb'
      have := hs1 y hy
      omega
    · simp only [Array.toList_push, List.map_append, List.map_cons, List.map_nil]
      refine List.nodup_append.2 ⟨hs3, by simp, fun a ha b hb' => ?_⟩
      obtain rfl : b = enc x := by simpa using hb'
      rintro rfl
      rw [hkeys] at ha
      obtain ⟨p, hp, he⟩ := List.mem_map.1 ha
      have hp1 : p.1 = x := Q.inj he
      have : look l x = none := by rw [← e]; rfl
      simp only [look, Option.map_eq_none_iff, List.find?_eq_none, decide_eq_true_eq] at this
      exact this p hp hp1
  | some q =>
    obtain ⟨j, u⟩ := q
    obtain ⟨k, hk, hlk, hbefore⟩ := findIx_some hx
    obtain rfl : j = k := by omega
    rw [hx] at e hf
    have hjl : j < l.length := (List.getElem?_eq_some_iff.1 hlk).1
    have hjs : j < es.toList.length := by rw [← List.length_map (f := fun e : MapEntry => (e.key, e.val)), hl, List.length_map]; exact hjl
    have hej : es.toList[j].key = enc x := by
      have := congrArg (fun t => t[j]?) hl
      simp [hlk] at this
      obtain ⟨a, ha, hk, _⟩ := this
      have h2 : es.toList[j]? = some a := by rw [Array.getElem?_toList]; exact ha
      rw [List.getElem?_eq_getElem hjs] at h2
      cases h2
      exact hk
    have hea : es[j]? = some es.toList[j] := by rw [← Array.getElem?_toList, List.getElem?_eq_getElem hjs]
    have hsome : (look l x).isSome = true := by rw [← e]; rfl
    refine ⟨.map (es.modify j fun e => { e with key := enc x, val := v }) clock, ?_, ⟨_, _, putMap_same hr, ?_, ?_, ?_, ?_⟩⟩
    · have hst := Q.stays w x
      simp only [Instr.mapUpdate, Sem.run_bind, run_underlying ht, Result.andThen, MapKept.run_getObj_map hb, Q.check, hf, hea, Option.map_some, Option.getD_some, hej, hst, MapKept.run_setObj_map _ hb]
      rfl
    · rw [put, if_pos hsome]
      apply List.ext_getElem?
      intro i
      rw [List.getElem?_map, Array.getElem?_toList, Array.getElem?_modify, List.getElem?_map, List.getElem?_map]
      by_cases hij : j = i
      · subst hij
        simp [hea, hlk]
      · rw [if_neg hij]
        have hi := congrArg (fun t => t[i]?) hl
        simp only [List.getElem?_map, Array.getElem?_toList] at hi
        rw [hi]
        cases hli : l[i]? with
        | none => rfl
        | some p =>
          have hne : p.1 ≠ x := fun hpx => by
            have hil : i < l.length := (List.getElem?_eq_some_iff.1 hli).1
            rw [hkeys] at hs3
            have hnd := List.pairwise_iff_getElem.1 hs3
            have e1 : l[i] = p := by rw [List.getElem?_eq_getElem hil] at hli; exact Option.some.inj hli
            have e2 : l[j] = (x, u) := by rw [List.getElem?_eq_getElem hjl] at hlk; exact Option.some.inj hlk
            rcases Nat.lt_or_gt_of_ne hij with h | h
            · exact hnd j i (by simpa using hjl) (by simpa using hil) h (by simp [e1, e2, hpx])
            · exact hnd i j (by simpa using hil) (by simpa using hjl) h (by simp [e1, e2, hpx])
          simp [hne]
    · intro y hy
      have h3 : y.born ∈ (es.modify j fun e => { e with key := enc x, val := v }).toList.map (·.born) := List.mem_map.2 ⟨y, hy, rfl⟩
      rw [modify_map (·.born) es j (fun e => { e with key := enc x, val := v }) (fun a ha => rfl)] at h3
      obtain ⟨z, hz, hz2⟩ := List.mem_map.1 h3
      rw [← hz2]
      exact hs1 z hz
    · rw [modify_map (·.born) es j (fun e => { e with key := enc x, val := v }) (fun a ha => rfl)]; exact hs2
    · rw [modify_map (·.key) es j (fun e => { e with key := enc x, val := v }) (fun a ha => by rw [hea] at ha; cases ha; exact hej.symm)]; exact hs3

end
end Go.Proofs.YthhbiliimdpgmaaGreatDoor
/- The two kinds of keys: texts, ids. -/
namespace Go.Proofs.YthhbiliimdpgmaaGreatDoor
open Go.RowKit Go.MapKept

theorem findNow_str (x : ByteArray) : ∀ (es : List MapEntry) (l : List (ByteArray × Value)) (i : Nat), es.map (fun e => (e.key, e.val)) = l.map (fun p => (Value.string p.1, p.2)) → Instr.findNow .string (.string x) es i = some (findIx x l i)
  | [], [], _, _ => rfl
  | [], _ :: _, _, h => by simp at h
  | _ :: _, [], _, h => by simp at h
  | e :: es, p :: l, i, h => by
    simp only [List.map_cons, List.cons.injEq, Prod.mk.injEq] at h
    obtain ⟨⟨h1, h2⟩, h3⟩ := h
    unfold Instr.findNow findIx
    rw [h1]
    simp only [Instr.sameNow]
    by_cases hx : p.1 = x
    · have : (x == p.1) = true := (bytes_beq x p.1).2 hx.symm
      rw [this]
      simp [hx, h2]
    · have : (x == p.1) = false := by
        cases h : (x == p.1)
        · rfl
        · exact absurd ((bytes_beq x p.1).1 h).symm hx
      rw [this]
      simp only [hx, if_false]
      exact findNow_str x es l (i + 1) h3

theorem strKey : KeyQ Tryz.prog 9 Value.string where
  inj h := by cases h; rfl
  check w em x := run_checkKey (d := .string) (k := .string x) (by kernel_rfl) trivial em 9999
  find w x es l h := run_findKey (d := .string) (by kernel_rfl) (findNow_str x es l 0 h)
  stays w x := run_keyThatStays (d := .string) (k := .string x) trivial

def idV (i : QId) : Value := .agg #[.int .u64 i.c, .int .u64 i.k]

theorem idCheck (w : World) (em : Bool) (x : QId) : (Instr.checkKey em 10000 28 (idV x)).run Tryz.prog w = .ok () w := by kernel_rfl

theorem idEqual (w : World) (x y : QId) : (Op.equal 28 (idV x) (idV y)).run Tryz.prog w = .ok (decide (x = y)) w := by
  unfold Op.equal Op.maxDepth Op.equalIn idV
  go_simp
  obtain ⟨a, b⟩ := x
  obtain ⟨c, d⟩ := y
  by_cases h1 : a = c <;> by_cases h2 : b = d <;> simp [h1, h2]

theorem idStays (w : World) (x : QId) : (Instr.keyThatStays (idV x) (idV x)).run Tryz.prog w = .ok (idV x) w := by
  have : Instr.sameBits 10000 (idV x) (idV x) = true := by simp [Instr.sameBits, idV]
  simp [Instr.keyThatStays, this]

theorem idAsking (w : World) (x : QId) : ∀ (es : List MapEntry) (l : List (QId × Value)) (i : Nat), es.map (fun e => (e.key, e.val)) = l.map (fun p => (idV p.1, p.2)) → (Instr.findAsking 28 (idV x) es i).run Tryz.prog w = .ok (findIx x l i) w
  | [], [], _, _ => rfl
  | [], _ :: _, _, h => by simp at h
  | _ :: _, [], _, h => by simp at h
  | e :: es, p :: l, i, h => by
    simp only [List.map_cons, List.cons.injEq, Prod.mk.injEq] at h
    obtain ⟨⟨h1, h2⟩, h3⟩ := h
    unfold Instr.findAsking findIx
    rw [h1]
    simp only [Sem.run_bind, idEqual, Result.andThen]
    by_cases hx : p.1 = x
    · simp [hx, h2]
    · have hx' : ¬ x = p.1 := fun h => hx h.symm
      simp only [hx, hx', decide_false, Bool.false_eq_true, if_false]
      exact idAsking w x es l (i + 1) h3

theorem idKey : KeyQ Tryz.prog 28 idV where
  inj {x y} h := by
    obtain ⟨a, b⟩ := x
    obtain ⟨c, d⟩ := y
    simp [idV] at h
    simp [h]
  check w em x := idCheck w em x
  find w x es l h := by
    rw [run_findKey_eq w (by rw [Tryz.underlying28])]
    exact idAsking w x _ l 0 h
  stays w x := idStays w x
end Go.Proofs.YthhbiliimdpgmaaGreatDoor
