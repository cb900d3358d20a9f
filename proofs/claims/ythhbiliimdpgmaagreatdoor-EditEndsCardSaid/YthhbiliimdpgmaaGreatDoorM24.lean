/- Walk: ops.Check of any right operation whose bare form is itself; of the set. -/
import Derived.Test.YthhbiliimdpgmaaGreatDoorM20
import Derived.Test.YthhbiliimdpgmaaGreatDoorM05
import Derived.Lib.SlFresh
import Derived.Test.YthhbiliimdpgmaaGreatDoorM10
import Derived.Laws.IdiomCopy
import Derived.ArgAppend
import Derived.Test.YthhbiliimdpgmaaGreatDoorM22
import Derived.Test.YthhbiliimdpgmaaGreatDoorM08
namespace Go.Proofs.YthhbiliimdpgmaaGreatDoor
open Go.RowKit Go.Lib

set_option maxRecDepth 100000 in
set_option maxHeartbeats 4000000 in
theorem opsCheck_g (o : QOp) (w : World) (hbare : ∀ w, Tabs w → Calls Tryz.prog 55 #[opV o] w fun e w' => e = .returned (.tuple #[opV o, .bool true]) ∧ Below w.heap.size w w')
    (hid : o.id.rightB = true) (hfit : o.id.k + o.len ≤ 9007199254740992) (hs : o.text.size ≤ 1000000000000) (hany : o.names.any (badB o.rng) = false) (hT : Tabs w) :
    Calls Tryz.prog 30 #[opV o] w fun e w' => e = .returned (.int .i64 0) ∧ Below w.heap.size w w' := by
  have hsame := opsSame_self o
  have hright := right_any o.id
  have hi0 : 1 ≤ o.id.k := by have := hid; simp [QId.rightB, numB] at this; omega
  rw [hid] at hright
  have hrange := fun w hT => opsRange_any o w (by omega) (by omega) (by omega) hT
  have hnames := opsNames_any o
  have hcont := fun b bb w h hl => containsId_any o.rng b bb o.names w h hl (by simp [QOp.names])
  rw [hany] at hcont
  have Hc := Lib.hid hcont
  clear hany hcont hid
  have hN0 : 0 ≤ (o.len : Int) := by omega
  unfold QOp.rng at Hc hrange
  generalize (o.len : Int) = N at hfit hrange Hc hN0
  change Calls Tryz.prog 30 #[.agg #[.int .u64 o.id.c, .int .u64 o.id.k, .int .i64 o.kind, .int .u64 o.stamp, .int .u64 o.left.c, .int .u64 o.left.k, .int .u64 o.right.c, .int .u64 o.right.k, .string o.text, .int .i64 o.v.kind, .int .i64 o.v.n, .float .f64 o.v.f, .string o.v.s, .string o.key, .int .u64 o.parent.c, .int .u64 o.parent.k, .int .u64 o.frm.c, .int .u64 o.frm.k, .bool o.frmA, .int .u64 o.til.c, .int .u64 o.til.k, .bool o.tilA]] w _
  go_enter Tryz.func30, Tryz.ntmps30
  go_upto_region 1 with fail
  obtain ⟨W, hW⟩ : ∃ W, w.alloc (.cells (encOp o).toArray 35) = W := ⟨_, rfl⟩
  have hB : Below w.heap.size w W := by rw [← hW]; exact (Below.refl _ _).alloc (Nat.le_refl _) _
  have hbx : OpBox W w.heap.size o := by rw [← hW]; exact OpBox.new _ _
  change Code.wp _ _ _ _ (w.alloc (.cells (encOp o).toArray 35))
  rw [hW]
  clear hW
  go_wp2_with (refine wpList_load_eq (T := 35) (v := opV o) rfl rfl rfl hbx.load ?_)
  refine (hbare _ (hT.below hB)).mono ?_
  rintro e w1 ⟨rfl, hb1⟩
  have hbx1 := hbx.below hb1 hbx.lt
  have hB1 := belowTrans hB hb1
  clear hbare hbx hb1 hB
  clear W
  have bz := OpBox.new w1 opZero
  have Hput := Lib.hid (bz.put o)
  have HbP := Lib.hid (below_putOp ((Below.refl w1.heap.size w1).alloc (Nat.le_refl _) (.cells (encOp opZero).toArray 35)) (Nat.le_refl _) o)
  go_upto_region 2 with (refine wpList_store_eq (T := 35) (v := opV o) rfl rfl rfl rfl (OpBox.store bz o) ?_)
  have hby := Hput.out
  have hb2 := HbP.out
  obtain ⟨w2, hw2⟩ : ∃ w2, putOp (w1.alloc (.cells (encOp opZero).toArray 35)) w1.heap.size o = w2 := ⟨_, rfl⟩
  rw [hw2] at hby hb2 ⊢
  have hbx2 := hbx1.below hb2 hbx1.lt
  have hB2 := belowTrans hB1 hb2
  clear hw2 Hput HbP bz hbx1 hB1
  go_wp2_with (first | (refine wpList_load_g 35 ⟨w1.heap.size, 0, none⟩ rfl rfl hby.load (by rfl) ?_) | (refine wpList_load_g 35 ⟨w.heap.size, 0, none⟩ rfl rfl hbx2.load (by rfl) ?_))
  refine (hsame _).mono ?_
  rintro e w3 ⟨rfl, hb3⟩
  have hbx3 := hbx2.below hb3 hbx2.lt
  have hB3 := belowTrans hB2 hb3
  have hx0 : w3.cell? ⟨w.heap.size, 0, none⟩ = some (.int .u64 o.id.c) := hbx3.cells 0 _ rfl
  have hx1 : w3.cell? ⟨w.heap.size, 1, none⟩ = some (.int .u64 o.id.k) := hbx3.cells 1 _ rfl
  clear hsame hbx2 hby hb2 hb3 hB2
  clear w2 
  go_wp2_with fail
  refine (hright _).mono ?_
  rintro e w4 ⟨rfl, hb4⟩
  have hbx4 := hbx3.below hb4 hbx3.lt
  have hB4 := belowTrans hB3 hb4
  clear hx0 hx1 hright hbx3 hB3 hb4
  clear w3
  go_wp2_with (refine wpList_load_eq (T := 35) (v := opV o) rfl rfl rfl hbx4.load ?_)
  refine (hrange _ (hT.below hB4)).mono ?_
  rintro e w5 ⟨rfl, hb5⟩
  have hbx5 := hbx4.below hb5 hbx4.lt
  have hB5 := belowTrans hB4 hb5
  clear hrange hbx4 hB4 hb5
  clear w4
  go_upto_region 5 with fail
  have hrb : RngBox (w5.alloc (.cells #[.int .u64 o.id.c, .int .u64 o.id.k, .int .u64 (o.id.k + N)] 95)) w5.heap.size ⟨o.id.c, o.id.k, o.id.k + N⟩ := heap_alloc_new w5 _
  have hb6 : Below w5.heap.size w5 (w5.alloc (.cells #[.int .u64 o.id.c, .int .u64 o.id.k, .int .u64 (o.id.k + N)] 95)) := (Below.refl _ _).alloc (Nat.le_refl _) _
  obtain ⟨w6, hw6⟩ : ∃ w6, w5.alloc (.cells #[.int .u64 o.id.c, .int .u64 o.id.k, .int .u64 (o.id.k + N)] 95) = w6 := ⟨_, rfl⟩
  rw [hw6] at hrb hb6 ⊢
  have hbx6 := hbx5.below hb6 hbx5.lt
  have hB6 := belowTrans hB5 hb6
  have r2 := hrb.cells.2.2
  clear hw6 hbx5 hB5 hb6
  go_wp2_with (refine wpList_load_eq (T := 35) (v := opV o) rfl rfl rfl hbx6.load ?_)
  refine Calls.mono (hnames _) ?_
  rintro e w7 ⟨nb, rfl, hb7, _, hnb⟩
  have hrb7 := hrb.below hb7 hrb.lt
  have hB7 := belowTrans hB6 hb7
  have hcc := Hc.out w5.heap.size nb w7 hrb7 hnb
  clear hnames hrb hbx6 hB6 hb7 r2 hnb hrb7
  go_wp2_with fail
  refine Calls.mono hcc ?_
  rintro e w8 ⟨rfl, hb8⟩
  go_wp2_with fail
  go_ret
  exact ⟨rfl, belowTrans hB7 hb8⟩
theorem setO_names (s : Int) : (setO s).names = [idZero, idZero, idZero, idZero, idZero] := rfl
theorem opsCheck_set (s : Int) (w : World) (hs1 : 1 ≤ s) (hs2 : s ≤ 9007199254740991) (hT : Tabs w) :
    Calls Tryz.prog 30 #[opV (setO s)] w fun e w' => e = .returned (.int .i64 0) ∧ Below w.heap.size w w' :=
  opsCheck_g (setO s) w (fun w hT => bare_set s w hs1 hs2 hT) (show (⟨4, 1⟩ : QId).rightB = true by decide) (by show (1 : Int) + 1 ≤ _; decide) (by show 0 ≤ _; decide) (by rw [setO_names]; simp [badB, QId.namedB, hasRngs, QId.rightB, numB, idZero]) hT
end Go.Proofs.YthhbiliimdpgmaaGreatDoor
/- The builtin clear, as a step of a list of operations. -/
namespace Go.Proofs.YthhbiliimdpgmaaGreatDoor
open Go.RowKit Go.Lib

theorem wpList_clearB {P : Program} {w : World} {ops : Array Oper} {rest : List Oper} {o : Oper} {a : Act} {Q : Exit → Act → World → Prop} (hgd : o.guard = none) (x : Operand) (t : TypeId)
    (ho : o.op = .call { callee := .builtin .clear, args := #[x], argTypes := #[t] }) (v : Value) (hx : a.eval x = v) {u : Value} {w' : World} (hr : ∀ ty, (Builtin.clear_ #[t] ty #[v]).run P w = .ok u w') (h : wpList P ops Q rest (a.put o.dst u) w') : wpList P ops Q (o :: rest) a w := by
  refine wpList_plain hgd fun K hK => ?_
  unfold Oper.wp execOp
  simp only [ho, resolve, invoke, builtin, Sem.run_bind, Sem.run_pure, Result.andThen_ok, List.map_toArray, List.map_cons, List.map_nil, hx, hr]
  exact hK _ _ h
end Go.Proofs.YthhbiliimdpgmaaGreatDoor
/- Rows of structs whose cells are written in place. -/
namespace Go.Proofs.YthhbiliimdpgmaaGreatDoor
open Go.RowKit

theorem setCells_rest (b : Nat) : ∀ (vs : List Value) (o : Nat) (w : World), (∀ k, k ≠ b → (w.setCells b o vs).heap[k]? = w.heap[k]?) ∧ (w.setCells b o vs).heap.size = w.heap.size ∧ (w.setCells b o vs).os = w.os ∧ (w.setCells b o vs).tape = w.tape ∧ (w.setCells b o vs).output = w.output
  | [], _, _ => ⟨fun _ _ => rfl, rfl, rfl, rfl, rfl⟩
  | v :: vs, o, w => by
    obtain ⟨h1, h2, h3, h4, h5⟩ := setCells_rest b vs (o + 1) (w.setCell ⟨b, o, none⟩ v)
    refine ⟨fun k hk => (h1 k hk).trans (Below.heap_setCell _ _ _ _ hk), h2.trans (by simp), h3, h4, h5⟩
theorem setCells_row (b : Nat) {t : TypeId} {f : Nat × Nat} : ∀ (vs : List Value) (o : Nat) (w : World) (cur : Array Value), w.heap[b]? = some (.cells cur t f) → ∃ cur', (w.setCells b o vs).heap[b]? = some (.cells cur' t f) ∧ cur'.size = cur.size
  | [], _, _, cur, h => ⟨cur, h, rfl⟩
  | v :: vs, o, w, cur, h => by
    have h1 : (w.setCell ⟨b, o, none⟩ v).heap[b]? = some (.cells (cur.setIfInBounds o v) t f) := by
      simp [World.setCell, Array.getElem?_modify, h]
    obtain ⟨cur', h2, h3⟩ := setCells_row b vs (o + 1) _ _ h1
    exact ⟨cur', h2, by rw [h3]; simp⟩
theorem OwnAt.of_cells {α : Type} {base E k : Nat} {enc : α → List Value} (hk : ∀ x, (enc x).length = k) {w : World} {g cap : Nat} {cur : Array Value} {l : List α} (hg : base ≤ g) (hcur : w.heap[g]? = some (.cells cur E (0, 0))) (hn : l.length ≤ cap) (hm : cap ≤ maxLen) (hs : cur.size = cap * k)
    (hc : ∀ (j : Nat) (x : α), l[j]? = some x → ∀ (i : Nat) (y : Value), (enc x)[i]? = some y → w.cell? ⟨g, j * k + i, none⟩ = some y) : OwnAt base E k enc w (.slice (some ⟨g, 0, none⟩) l.length cap) l := by
  refine ⟨flat_length hk l, .inr ⟨g, cap, cur, rfl, hg, hcur, hn, hm, hs, ?_⟩⟩
  apply List.ext_getElem?
  intro p
  rw [List.getElem?_take]
  by_cases hp : p < l.length * k
  · rw [if_pos hp]
    have hk0 : 0 < k := Nat.pos_of_ne_zero fun e => by subst e; simp at hp
    have hj : p / k < l.length := Nat.div_lt_of_lt_mul (by rw [Nat.mul_comm]; exact hp)
    have h1 := flat_get hk l (p / k) (p % k) l[p / k] (by simp [hj]) (Nat.mod_lt _ hk0)
    have hpk : p / k * k + p % k = p := by rw [Nat.mul_comm]; exact Nat.div_add_mod p k
    rw [hpk] at h1
    rw [h1]
    have hlt : p % k < (enc l[p / k]).length := by rw [hk]; exact Nat.mod_lt _ hk0
    have h2 := hc (p / k) l[p / k] (by simp [hj]) (p % k) _ (List.getElem?_eq_getElem hlt)
    rw [hpk, World.cell?, hcur] at h2
    simp only [Option.isSome_none, Bool.false_eq_true, if_false] at h2
    rw [Array.getElem?_toList, h2, List.getElem?_eq_getElem hlt]
  · rw [if_neg hp]
    rw [List.getElem?_eq_none (by rw [flat_length hk]; omega)]
end Go.Proofs.YthhbiliimdpgmaaGreatDoor
/- Walk: ops.Needs of an operation that names nobody. -/
namespace Go.Proofs.YthhbiliimdpgmaaGreatDoor
open Go.RowKit Go.Lib

def needB (o : QOp) (x : QId) : Bool := decide (x = idZero) || decide (x.c = o.id.c)
set_option maxRecDepth 100000 in
theorem needs1_any (x : QId) (o : QOp) (b : Nat) (w : World) (hb : OpBox w b o) :
    Calls Tryz.prog 114 #[.agg #[.int .u64 x.c, .int .u64 x.k], .pointer (some ⟨b, 0, none⟩)] w fun e w' => e = .returned (.bool (needB o x)) ∧ Below w.heap.size w w' := by
  have he := eqlId x idZero
  unfold idZero at he
  have q0 : w.cell? ⟨b, 0, none⟩ = some (.int .u64 o.id.c) := hb.cells 0 _ rfl
  unfold needB
  by_cases hx : x = idZero
  · have hd : decide (x = ⟨0, 0⟩) = true := decide_eq_true hx
    rw [hd] at he
    have HR : Hid ((decide (x = idZero) || decide (x.c = o.id.c)) = true) := Lib.hid (by simp [hx])
    rw [HR.out]
    clear hx HR
    go_enter Tryz.func114, Tryz.ntmps114
    go_wp2
    go_ret
    exact ⟨rfl, by (repeat (first | exact Below.refl _ _ | assumption | refine Below.alloc ?_ (by simp <;> omega) _ | refine Below.drew ?_ | refine below_drewN ?_ _ | refine Below.setCell ?_ (by simp <;> omega) _ | refine belowTrans ?_ (by assumption)))⟩
  · have hd : decide (x = ⟨0, 0⟩) = false := decide_eq_false hx
    rw [hd] at he
    have HR : Hid ((decide (x = idZero) || decide (x.c = o.id.c)) = decide (x.c = o.id.c)) := Lib.hid (by simp [hx])
    rw [HR.out]
    have hlb := hb.lt
    have q0 : (w.alloc (.cells #[.int .u64 x.c, .int .u64 x.k] 28)).cell? ⟨b, 0, none⟩ = some (.int .u64 o.id.c) := (((Below.refl w.heap.size w).alloc (Nat.le_refl _) _).cell (p := ⟨b, 0, none⟩) hlb).trans q0
    clear hx HR hd
    go_enter Tryz.func114, Tryz.ntmps114
    go_wp2
    go_ret
    exact ⟨congrArg (fun z => Ending.returned (.bool z)) (by rw [Bool.eq_iff_iff]; simp), by (repeat (first | exact Below.refl _ _ | assumption | refine Below.alloc ?_ (by simp <;> omega) _ | refine Below.drew ?_ | refine below_drewN ?_ _ | refine Below.setCell ?_ (by simp <;> omega) _ | refine belowTrans ?_ (by assumption)))⟩
theorem need_below (o : QOp) (b : Nat) (w : World) (h : OpBox w b o) : PredBelow Tryz.prog 114 #[.pointer (some ⟨b, 0, none⟩)] (fun x => .agg (encIdv x).toArray) (needB o) w := by
  intro W x hW
  refine (needs1_any x o b W (h.below hW h.lt)).mono ?_
  exact fun e w' ⟨he, hb'⟩ => ⟨he, hW.trans (hb'.mono hW.size)⟩
/-- five ids of nobody. -/
def five : List QId := [idZero, idZero, idZero, idZero, idZero]
theorem indexNone (o : QOp) (b nb : Nat) (w : World) (h : OpBox w b o) (hl : w.heap[nb]? = some (.cells (five.flatMap encIdv).toArray 28 (0, 0))) :
    Calls Tryz.prog 110 #[.slice (some ⟨nb, 0, none⟩) 5 5, .func (.func 114) #[] #[.pointer (some ⟨b, 0, none⟩)]] w fun e w' => e = .returned (.int .i64 0) ∧ Below w.heap.size w w' := by
  have := AnyQ.slices_IndexFunc Tryz.indexId 2 (fun w => by kernel_rfl) (fun w => by kernel_rfl) encIdv (fun _ => rfl) (needB o) 114 #[.pointer (some ⟨b, 0, none⟩)] (enters_of Tryz.func114 (by kernel_rfl) rfl) nb 0 5 5 five w (need_below o b w h) (Nat.le_refl _) (by omega) (Array.getElem?_eq_some_iff.1 hl).1
    (fun j hj k v hv => by
      have hk : k < 2 := (List.getElem?_eq_some_iff.1 hv).1
      have hj5 : j < five.length := hj
      have h1 := flat_get (enc := encIdv) (k := 2) (fun _ => rfl) five j k five[j] (by simp) hk
      rw [World.cell?, hl]
      simp only [Option.isSome_none, Bool.false_eq_true, if_false, Nat.zero_add, List.getElem?_toArray]
      rw [h1]
      simpa [hj5] using hv)
  have hn : needB o idZero = true := by simp [needB]
  have hi : idxBy (fun _ y => needB o y) (five.take 5) default = 0 := by simp [five, idxBy, idxByFrom, hn]
  exact this.mono fun e w' ⟨h1, h2⟩ => ⟨by rw [h1]; exact congrArg (fun z => Ending.returned (.int .i64 z)) hi, h2⟩
def fiveZ : List Value := five.flatMap encIdv
set_option maxRecDepth 100000 in
set_option maxHeartbeats 1000000 in
theorem deleteNone (o : QOp) (b nb : Nat) (w : World) (h : OpBox w b o) (hl : w.heap[nb]? = some (.cells fiveZ.toArray 28 (0, 0))) :
    Calls Tryz.prog 113 #[.slice (some ⟨nb, 0, none⟩) 5 5, .func (.func 114) #[] #[.pointer (some ⟨b, 0, none⟩)]] w fun e w' => e = .returned (.slice (some ⟨nb, 0, none⟩) 0 5) ∧ Mods (fun k => k = nb) w w' := by
  have hix := indexNone o b nb w h hl
  have hnd := fun w h => needs1_any idZero o b w h
  have hn : needB o idZero = true := by simp [needB]
  rw [hn] at hnd
  have HL := Lib.hid hl
  clear hl hn
  go_enter Tryz.func113, Tryz.ntmps113
  go_upto_region 5 with (go_at_call 110; refine hix.mono ?_; rintro e w1 ⟨rfl, hb1⟩)
  have hlt : nb < w.heap.size := (Array.getElem?_eq_some_iff.1 HL.out).1
  clear hix
  go_loopw [5, 6] (fun i j wr => ∃ k : Nat, k ≤ 5 ∧ i = .int .i64 0 ∧ j = .int .i64 k ∧ Below w.heap.size w wr) (fun _ j _ => 5 - (intOf j).toNat)
  case atStart => exact ⟨1, by omega, rfl, rfl, hb1⟩
  case round =>
    clear hb1
    obtain ⟨k, hk, rfl, rfl, hb⟩ := hrel
    have hlr : wr.heap[nb]? = some (.cells fiveZ.toArray 28 (0, 0)) := (hb.block nb hlt).trans HL.out
    by_cases hk5 : k < 5
    · have hkz : (k : Int) < 5 := by omega
      have c0 : wr.cell? ⟨nb, k * 2, none⟩ = some (.int .u64 0) := by
        have hkk : k = 0 ∨ k = 1 ∨ k = 2 ∨ k = 3 ∨ k = 4 := by omega
        rcases hkk with rfl | rfl | rfl | rfl | rfl <;> simp [World.cell?, hlr, fiveZ, five, encIdv, idZero]
      have c1 : wr.cell? ⟨nb, k * 2 + 1, none⟩ = some (.int .u64 0) := by
        have hkk : k = 0 ∨ k = 1 ∨ k = 2 ∨ k = 3 ∨ k = 4 := by omega
        rcases hkk with rfl | rfl | rfl | rfl | rfl <;> simp [World.cell?, hlr, fiveZ, five, encIdv, idZero]
      have hwr : w.heap.size ≤ wr.heap.size := hb.size
      have hbc : Below w.heap.size w (wr.alloc (.cells #[.int .u64 0, .int .u64 0] 28)) := hb.alloc hwr _
      have hnw := hnd (wr.alloc (.cells #[.int .u64 0, .int .u64 0] 28)) (h.below hbc h.lt)
      unfold idZero at hnw
      clear hlr
      go_wp2_with (go_at_call 114; refine hnw.mono ?_; rintro e w5 ⟨rfl, hb5⟩)
      exact ⟨⟨k + 1, by omega, rfl, by go_num, belowTrans hbc hb5⟩, by simp [intOf]; omega⟩
    · obtain rfl : k = 5 := by omega
      have hkz : ¬ (5 : Int) < 5 := by omega
      have hcl : ∀ ty, (Builtin.clear_ #[108] ty #[.slice (some ⟨nb, 0, none⟩) 5 5]).run Tryz.prog wr = .ok (.tuple #[]) (wr.setCells nb 0 fiveZ) := by
        intro ty
        have hst := run_storeCells_cells (P := Tryz.prog) nb 0 fiveZ 0 wr (fun j hj => by
          have : j < 10 := hj
          simp [World.cell?, hlr, fiveZ, five, encIdv]; omega) (fun j hj => by simp [World.frozen?, hlr]) (by
          have h1 : fiveZ.all (·.oneCell') = true := by decide
          exact List.all_eq_true.1 h1)
        have hzv : ∀ w, (zeroValue 28).run Tryz.prog w = .ok (.agg #[.int .u64 0, .int .u64 0]) w := fun w => by kernel_rfl
        have hzc : (Builtin.zeroCells (Value.agg #[.int .u64 0, .int .u64 0]).cells 5).toList = fiveZ := by kernel_rfl
        simp [Builtin.clear_, run_underlying Tryz.underlying108, hzv, hzc, hst]
      go_wp2_with (refine wpList_clearB rfl _ _ rfl _ rfl hcl ?_)
      go_ret
      obtain ⟨r5, r4, r1, r2, r3⟩ := setCells_rest nb fiveZ 0 wr
      have hm := Mods.of_below (S := fun k => k = nb) hb
      exact ⟨rfl, ⟨r1.trans hm.os, r2.trans hm.tape, r3.trans hm.output, (by rw [r4]; exact hm.size), fun k hk hs => (r5 k hs).trans (hm.block k hk hs)⟩⟩
/-- the ids of nobody alone. -/
def QOp.free (o : QOp) : Prop := o.names = five
def NeedsR (w : World) (e : Ending) (w' : World) : Prop := ∃ b, e = .returned (.slice (some ⟨b, 0, none⟩) 0 5) ∧ Below w.heap.size w w'
set_option maxRecDepth 100000 in
set_option maxHeartbeats 1000000 in
theorem needs_free (o : QOp) (ho : o.free) (w : World) : Calls Tryz.prog 68 #[opV o] w (NeedsR w) := by
  have hnames := opsNames_any o
  have hN : o.names.flatMap encIdv = fiveZ := by rw [ho]; rfl
  have HN := Lib.hid hN
  clear hN ho
  unfold opV
  go_enter Tryz.func68, Tryz.ntmps68
  go_upto_region 1 with fail
  obtain ⟨W, hW⟩ : ∃ W, w.alloc (.cells (encOp o).toArray 35) = W := ⟨_, rfl⟩
  have hB : Below w.heap.size w W := by rw [← hW]; exact (Below.refl _ _).alloc (Nat.le_refl _) _
  have hbx : OpBox W w.heap.size o := by rw [← hW]; exact OpBox.new _ _
  change Code.wp _ _ _ _ (w.alloc (.cells (encOp o).toArray 35))
  rw [hW]
  clear hW
  go_wp2_with (first | (refine wpList_load_eq (T := 35) (v := opV o) rfl rfl rfl hbx.load ?_) | (go_at_call 62; refine (hnames _).mono ?_; rintro e w1 ⟨nb, rfl, hb1, hnb, hl1⟩))
  rw [HN.out] at hl1
  have hdl := deleteNone o w.heap.size nb w1 (hbx.below hb1 hbx.lt) hl1
  go_wp2_with (go_at_call 113; refine hdl.mono ?_; rintro e w2 ⟨rfl, hm2⟩)
  go_ret
  exact ⟨nb, rfl, belowTrans hB ((hb1.trans ⟨hm2.os, hm2.tape, hm2.output, hm2.size, fun k hk => hm2.block k (Nat.lt_of_lt_of_le hk hb1.size) (by omega)⟩))⟩
/-- nothing of nobody: the test over what Needs tells. -/
theorem containsNo (fv : Value) (b : Nat) (w : World) (g : FuncId) (cb : Array Value) (hf : fv = .func (.func g) #[] cb) :
    Calls Tryz.prog 61 #[.slice (some ⟨b, 0, none⟩) 0 5, fv] w fun e w' => e = .returned (.bool false) ∧ w = w' := by
  subst hf
  have hi : Calls Tryz.prog 110 #[.slice (some ⟨b, 0, none⟩) 0 5, .func (.func g) #[] cb] w fun e w' => e = .returned (.int .i64 (-1)) ∧ w = w' := by
    go_enter Tryz.func110, Tryz.ntmps110
    go_wp2
    go_loopw [8] (fun z wr => z = .int .i64 0 ∧ wr = w) (fun _ _ => 0)
    case atStart => exact ⟨rfl, rfl⟩
    case round =>
      obtain ⟨rfl, rfl⟩ := hrel
      go_wp2
      go_ret
      exact ⟨rfl, rfl⟩
  go_enter Tryz.func61, Tryz.ntmps61
  go_wp2_with (go_at_call 110; refine hi.mono ?_; rintro e w2 ⟨rfl, rfl⟩)
  go_ret
  exact ⟨rfl, rfl⟩
end Go.Proofs.YthhbiliimdpgmaaGreatDoor
/- Regions that draw, in the frame of a round of a range over a function: what is shown of a region elsewhere holds there too. -/
namespace Go.Proofs.YthhbiliimdpgmaaGreatDoor
open Go.RowKit Go.Shelf

section
variable {l n : Nat} {P : Program} {ops : Array Oper} {Q : Exit → Act → World → Prop}
def noDefer (ops : Array Oper) : Bool := ops.all fun o => match o.op with | .defer _ => false | _ => true
theorem noDefer_spec (h : noDefer ops = true) {i : Nat} {o : Oper} (hi : ops[i]? = some o) : ∀ c, o.op ≠ .defer c := by
  intro c hc
  have := Array.all_eq_true.1 h i (Array.getElem?_eq_some_iff.1 hi).1
  rw [(Array.getElem?_eq_some_iff.1 hi).2, hc] at this
  cases this
theorem opIn_of {o : Oper} {a : Act} {w : World} {K K' : Act → World → Prop} (hd : ∀ c, o.op ≠ .defer c) (hL : ¬ LetsOut Q) (hK : ∀ a w, K a w → K' a w) (h : o.wp P a w K Q) : o.wpIn (Fence.wide.inRound l) n P a w K' Q := by
  unfold Oper.wp at h
  unfold Oper.wpIn
  refine ⟨fun _ _ => trivial, ?_⟩
  rw [Oper.semAt_eq _ _ _ hd]
  generalize (execOp a.eval o).run P w = r at h
  cases r with
  | ok x w' =>
    cases x <;> simp only [Oper.upon, Oper.uponIn] at h ⊢
    case value u => exact hK _ _ h
    case skip => exact hK _ _ h
    case defer d => exact hK _ _ h
    case enter f args =>
      refine ⟨(fun h => by cases h), ((callsIn_wide.2 h).inRound l).mono fun e w'' he => ?_⟩
      cases e with
      | returned u => exact hK _ _ he
      | panicked c => exact he
      | outgrown => exact absurd he hL
    case row row args =>
      refine ⟨(fun h => by cases h), fun c cs _ => ?_⟩
      obtain ⟨v, w2, r, s⟩ := h c cs
      exact ⟨v, w2, hK _ _ r, stepsIn_wide.2 s⟩
  | halt x w' =>
    cases x <;> simp only [Oper.upon, Oper.uponIn] at h ⊢
    case panic u => exact h
theorem opsIn_of (hd : noDefer ops = true) (hL : ¬ LetsOut Q) : ∀ (is : List Nat) (a : Act) (w : World), wpOps P ops Q is a w → wpOpsIn (Fence.wide.inRound l) n P ops Q is a w
  | [], _, _, h => h
  | i :: rest, a, w, h => by
    unfold wpOps at h
    unfold wpOpsIn
    cases hi : ops[i]? with
    | none => rw [hi] at h; exact opsIn_of hd hL rest a w h
    | some o =>
      rw [hi] at h
      dsimp only at h ⊢
      split
      · rename_i hw
        rw [if_pos hw] at h
        rcases h with h | h
        · exact opIn_of (noDefer_spec hd hi) hL (opsIn_of hd hL rest) h
        · exact absurd h.2 hL
      · rename_i hw
        rw [if_neg hw] at h
        exact ⟨fun _ _ => trivial, opsIn_of hd hL rest _ _ h⟩
/-- a drawn region in a round's frame, out of what holds of all its orders. -/
theorem wpIn_round_any {id : Nat} {a : Act} {w : World} (hm : P.follows .mixedOrders = true) (hd : noDefer ops = true) (hL : ¬ LetsOut Q)
    (h : wpAny P .any ops Q ops.size (Array.replicate ops.size false) a { w with drawn := w.drawn + 1 }) : (Code.region id ops true).wpIn (Fence.wide.inRound l) n P Q a w :=
  wpIn_region_draw fun t => by
    simp only [Region.schedule, hm, Bool.true_or, if_true]
    exact opsIn_of hd hL _ _ _ (wpAny_sound ops.size t _ a _ h)
end
section
variable {l n : Nat} {P : Program} {Q : Exit → Act → World → Prop}
theorem wpListIn_store_r {ops : Array Oper} {rest : List Oper} {o : Oper} {a : Act} {w w' : World} {T : TypeId} {x y : Operand} {ad : Addr} {v : Value} (hg : o.guard = none) (ho : o.op = .store T x y) (hx : a.eval x = .pointer (some ad)) (hy : a.eval y = v)
    (hr : (storeVar T ad v).run P w = .ok () w') (h : wpListIn (Fence.wide.inRound l) n P ops Q rest (a.put o.dst undef) w') : wpListIn (Fence.wide.inRound l) n P ops Q (o :: rest) a w :=
  wpListIn_plain hg fun K hK => ⟨fun _ _ => trivial, by
    rw [Oper.semAt_eq _ _ _ (by rw [ho]; intro c e; cases e)]
    unfold execOp
    simp only [ho, hx, hy, Instr.storeAt, Instr.sureAddr, Sem.run_bind, Sem.run_pure, Result.andThen_ok, hr]
    exact hK _ _ h⟩
theorem wpListIn_load_r {ops : Array Oper} {rest : List Oper} {o : Oper} {a : Act} {w : World} (T : TypeId) {x : Operand} (ad : Addr) {v : Value} (hg : o.guard = none) (ho : o.op = .load T x) (hx : a.eval x = .pointer (some ad))
    (hr : (loadVar T ad).run P w = .ok v w) (h : wpListIn (Fence.wide.inRound l) n P ops Q rest (a.put o.dst v) w) : wpListIn (Fence.wide.inRound l) n P ops Q (o :: rest) a w :=
  wpListIn_plain hg fun K hK => ⟨fun _ _ => trivial, by
    rw [Oper.semAt_eq _ _ _ (by rw [ho]; intro c e; cases e)]
    unfold execOp
    simp only [ho, hx, Instr.loadAt, Instr.sureAddr, Sem.run_bind, Sem.run_pure, Result.andThen_ok, hr]
    exact hK _ _ h⟩
/-- as wp_region_flow3, in a round's frame. -/
theorem wpIn_round_flow3 {id : Nat} {a : Act} {w : World} {os : List Oper} (k : Nat) (rs ms : List Nat) (S : World → Prop) (hm : P.follows .mixedOrders = true) (hB : flow3B .any os.toArray k rs ms = true) (hd : noDefer os.toArray = true) (hL : ¬ LetsOut Q)
    (hQ : ∀ c a d v w, Q (.panic c) (Act.put a d v) w → Q (.panic c) a w) (hS : S w.drew)
    (h : wpQuiet P os.toArray S (fun a' => wpSeqF P os.toArray Q S k ms a' w.drew) (rs.map fun i => (os[i]?).getD default) a) : (Code.region id os.toArray true).wpIn (Fence.wide.inRound l) n P Q a w := by
  unfold flow3B at hB
  simp only [Bool.and_eq_true, decide_eq_true_eq] at hB
  obtain ⟨⟨⟨⟨h1, h2⟩, h3⟩, h4⟩, h5⟩ := hB
  refine wpIn_round_any hm hd hL (wpAny_of_flow (S := S) (n := k) _ _ _ _ ?_)
  suffices H : wpAnyF P .any os.toArray Q S k (ms.length + rs.length) (Array.replicate os.toArray.size false) a w.drew by rw [h5] at H; exact H
  refine wpAnyF_reads3 h1 hQ rs ms.length _ a w.drew (fun a' => wpSeqF P os.toArray Q S k ms a' w.drew) (Closed.none _) h2 h3 hS (fun a' h' => wpAnyF_seq ms _ a' _ h4 h') ?_
  simpa using h
end
end Go.Proofs.YthhbiliimdpgmaaGreatDoor
