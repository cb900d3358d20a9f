/- Walks: Units of a document whose sequence holds nothing. -/
import Derived.Test.YthhbiliimdpgmaaGreatDoorM39
import Derived.Test.YthhbiliimdpgmaaGreatDoorM27
import Derived.Test.YthhbiliimdpgmaaGreatDoorM37
import Derived.Lib.OthersKept
namespace Go.Proofs.YthhbiliimdpgmaaGreatDoor
open Go.RowKit Go.Shelf Go.Lib
attribute [local go_sem] Oper.semAt_some

theorem seqAll_any (sv : Value) (w : World) (hd : sv.oneCell' = true) : Calls Tryz.prog 133 #[sv] w fun e w' => e = .returned (.func (.func 171) #[] #[.pointer (some ⟨w.heap.size, 0, none⟩)]) ∧ w' = w.alloc (.cells #[sv] 60) := by
  go_enter Tryz.func133, Tryz.ntmps133
  go_wp2
  go_ret
  exact ⟨rfl, rfl⟩
theorem docSeen_any (sv : Value) (w : World) (hd : sv.oneCell' = true) : Calls Tryz.prog 88 #[sv] w fun e w' => e = .returned (.func (.func 132) #[] #[.pointer (some ⟨w.heap.size, 0, none⟩)]) ∧ w' = w.alloc (.cells #[sv] 24) := by
  go_enter Tryz.func88, Tryz.ntmps88
  go_wp2
  go_ret
  exact ⟨rfl, rfl⟩
set_option maxRecDepth 100000 in
theorem all1_none (n Bp m L : Nat) (hm : 3 ≤ m) (W : World) (hs : SeqZ n W) (hp : W.cell? ⟨Bp, 0, none⟩ = some (.pointer (some ⟨n + 6, 0, none⟩))) :
    CallsIn Fence.wide m Tryz.prog 171 #[.func (.yield L) #[] #[], .pointer (some ⟨Bp, 0, none⟩)] W fun e W' => (∃ v, e = .returned v) ∧ Below W.heap.size W W' := by
  have c1 : W.cell? ⟨n + 6, 1, none⟩ = some (.slice none 0 0) := by simp [World.cell?, hs.sq, noS]
  refine callsIn_of_wp Tryz.func171 rfl trivial ?_ rfl
  simp only [Tryz.ntmps171, List.size_toArray, List.length_cons, List.length_nil, Nat.reduceAdd, Nat.reduceSub, Array.replicate_succ, Array.replicate_zero, List.push_toArray, List.append_toArray, List.nil_append, List.cons_append]
  gi_wp2
  gi_loopw [10] (fun z wx => z = .int .i64 0 ∧ wx = W) (fun _ _ => 0)
  case atStart => exact ⟨rfl, rfl⟩
  case round =>
    obtain ⟨rfl, rfl⟩ := hrel
    gi_wp2
    go_end0
    exact ⟨⟨_, rfl⟩, by (repeat (first | exact Below.refl _ _ | assumption | refine Below.alloc ?_ (by simp <;> omega) _ | refine Below.drew ?_ | refine below_drewN ?_ _ | refine Below.setCell ?_ (by simp <;> omega) _ | refine belowTrans ?_ (by assumption)))⟩
set_option maxRecDepth 100000 in
set_option maxHeartbeats 1000000 in
theorem seen1_none (n Bp m L : Nat) (hm : 8 ≤ m) (kl : List (Int × Value)) (wl : List (QId × Value)) (hv vv : Value) (st : Int) (W : World) (hd : DocC n W kl wl hv vv st) (hs : SeqZ n W) (hp : W.cell? ⟨Bp, 0, none⟩ = some (.pointer (some ⟨n + 11, 0, none⟩))) (hpl : Bp < W.heap.size) :
    CallsIn Fence.wide m Tryz.prog 132 #[.func (.yield L) #[] #[], .pointer (some ⟨Bp, 0, none⟩)] W fun e W' => (∃ v, e = .returned v) ∧ Below W.heap.size W W' := by
  have c6 := hd.cell 6 _ rfl
  have hdl := hd.lt
  have hal := fun W => (callsIn_wide (n := m - 1)).2 (seqAll_any (.pointer (some ⟨n + 6, 0, none⟩)) W rfl)
  have hfn : Fence.wide.fn 133 := trivial
  have hm1 : 1 ≤ m := by omega
  refine callsIn_of_wp_marks Tryz.func132 rfl trivial ?_ rfl
  simp only [Tryz.ntmps132, List.size_toArray, List.length_cons, List.length_nil, Nat.reduceAdd, Nat.reduceSub, Array.replicate_succ, Array.replicate_zero, List.push_toArray, List.append_toArray, List.nil_append, List.cons_append]
  gi_wp2_with (gi_at_call 133; refine (hal _).mono ?_; rintro e w' ⟨rfl, rfl⟩)
  have hb3 : Below W.heap.size W ((W.alloc (.cells #[.func (.yield L) #[] #[]] 195)).alloc (.cells #[.pointer (some ⟨n + 6, 0, none⟩)] 60)) := by (repeat (first | exact Below.refl _ _ | assumption | refine Below.alloc ?_ (by simp <;> omega) _ | refine Below.drew ?_ | refine below_drewN ?_ _ | refine Below.setCell ?_ (by simp <;> omega) _ | refine belowTrans ?_ (by assumption)))
  have hp3 : ((W.alloc (.cells #[.func (.yield L) #[] #[]] 195)).alloc (.cells #[.pointer (some ⟨n + 6, 0, none⟩)] 60)).cell? ⟨W.heap.size + 1, 0, none⟩ = some (.pointer (some ⟨n + 6, 0, none⟩)) := by go_simp
  have hz3 : ((W.alloc (.cells #[.func (.yield L) #[] #[]] 195)).alloc (.cells #[.pointer (some ⟨n + 6, 0, none⟩)] 60)).heap.size = W.heap.size + 2 := by simp
  generalize (W.alloc (.cells #[.func (.yield L) #[] #[]] 195)).alloc (.cells #[.pointer (some ⟨n + 6, 0, none⟩)] 60) = W3 at hb3 hp3 hz3 ⊢
  refine wpIn_range_all (α := Unit) (gf := 171) (lb := #[.pointer (some ⟨W.heap.size + 1, 0, none⟩)]) (encs := fun _ => #[.int .i64 0, .int .i64 0]) (S := fun xs => xs = []) (N := 0) rfl (by omega) rfl trivial (enters_of Tryz.func171 (by kernel_rfl) rfl) (fun _ => rfl)
    (fun pre W' => pre = [] ∧ Below W3.heap.size W3 W') (fun _ => False) ?hIp ?h0 ?hround ?hseq ?hdone
  case hIp =>
    rintro pre W' r r' ⟨rfl, h⟩ hr
    exact ⟨rfl, ⟨h.os, h.tape, h.output, by simpa [World.putObj] using h.size, fun k hk => (World.putObj_heap_other (by omega)).trans (h.block k hk)⟩⟩
  case h0 =>
    intro r
    exact ⟨rfl, by (repeat (first | exact Below.refl _ _ | assumption | refine Below.alloc ?_ (by simp <;> omega) _ | refine Below.drew ?_ | refine below_drewN ?_ _ | refine Below.setCell ?_ (by simp <;> omega) _ | refine belowTrans ?_ (by assumption)))⟩
  case hround =>
    intro pre x W' r _ _ hl
    exact absurd hl (by omega)
  case hseq =>
    rintro rec hy W' ⟨_, h⟩ hb
    have h2 := h.size
    refine (all1_none n (W.heap.size + 1) (m - 1) (W3.heap.size + 1) (by omega) W' (hs.keep fun b g => (h.block b (by omega)).trans (hb3.block b (by omega))) ((h.cell (p := ⟨W.heap.size + 1, 0, none⟩) (by show W.heap.size + 1 < _; omega)).trans hp3)).mono ?_
    rintro e W4 ⟨hv', h4⟩
    have h5 := (Array.getElem?_eq_some_iff.1 hb.1).1
    exact ⟨hv', [], rfl, ⟨rfl, belowTrans h h4⟩, hb.keep fun k hk => h4.block k (by omega)⟩
  case hdone =>
    rintro xs W' rfl ⟨_, h⟩ hdf2
    have h4 := h.size
    have h5 := (Array.getElem?_eq_some_iff.1 hdf2).1
    refine ⟨by simp, .inl ⟨_, _, rfl, run_takeDeferred hdf2, ⟨_, results_none rfl _ _ _, ⟨_, rfl⟩, ?_⟩⟩⟩
    have h6 := belowTrans hb3 h
    exact ⟨h6.os, h6.tape, h6.output, by simpa [World.putObj] using h6.size, fun k hk => (World.putObj_heap_other (by omega)).trans (h6.block k hk)⟩
set_option maxRecDepth 100000 in
set_option maxHeartbeats 1000000 in
theorem units_none (n : Nat) (kl : List (Int × Value)) (wl : List (QId × Value)) (hv vv : Value) (st : Int) (W : World) (hd : DocC n W kl wl hv vv st) (hs : SeqZ n W) :
    Calls Tryz.prog 41 #[.pointer (some ⟨n + 11, 0, none⟩)] W fun e W' => e = .returned (.slice none 0 0) ∧ Below W.heap.size W W' := by
  have hdl := hd.lt
  have hsn := fun W => (callsIn_wide (n := 11)).2 (docSeen_any (.pointer (some ⟨n + 11, 0, none⟩)) W rfl)
  have hfn : Fence.wide.fn 88 := trivial
  refine (callsIn_wide (n := 12)).1 (callsIn_of_wp_marks Tryz.func41 rfl trivial ?_ rfl)
  simp only [Tryz.ntmps41, List.size_toArray, List.length_cons, List.length_nil, Nat.reduceAdd, Nat.reduceSub, Array.replicate_succ, Array.replicate_zero, List.push_toArray, List.append_toArray, List.nil_append, List.cons_append]
  gi_wp2_with (gi_at_call 88; refine (hsn _).mono ?_; rintro e w' ⟨rfl, rfl⟩)
  have hb3 : Below W.heap.size W ((W.alloc (.cells #[.slice none 0 0] 108)).alloc (.cells #[.pointer (some ⟨n + 11, 0, none⟩)] 24)) := by (repeat (first | exact Below.refl _ _ | assumption | refine Below.alloc ?_ (by simp <;> omega) _ | refine Below.drew ?_ | refine below_drewN ?_ _ | refine Below.setCell ?_ (by simp <;> omega) _ | refine belowTrans ?_ (by assumption)))
  have hp3 : ((W.alloc (.cells #[.slice none 0 0] 108)).alloc (.cells #[.pointer (some ⟨n + 11, 0, none⟩)] 24)).cell? ⟨W.heap.size + 1, 0, none⟩ = some (.pointer (some ⟨n + 11, 0, none⟩)) := by go_simp
  have ho3 : ((W.alloc (.cells #[.slice none 0 0] 108)).alloc (.cells #[.pointer (some ⟨n + 11, 0, none⟩)] 24)).cell? ⟨W.heap.size, 0, none⟩ = some (.slice none 0 0) := by go_simp
  have hz3 : ((W.alloc (.cells #[.slice none 0 0] 108)).alloc (.cells #[.pointer (some ⟨n + 11, 0, none⟩)] 24)).heap.size = W.heap.size + 2 := by simp
  generalize (W.alloc (.cells #[.slice none 0 0] 108)).alloc (.cells #[.pointer (some ⟨n + 11, 0, none⟩)] 24) = W3 at hb3 hp3 hz3 ho3 ⊢
  refine wpIn_range_all (α := Unit) (gf := 132) (lb := #[.pointer (some ⟨W.heap.size + 1, 0, none⟩)]) (encs := fun _ => #[.int .i64 0, .int .i64 0]) (S := fun xs => xs = []) (N := 0) rfl (by omega) rfl trivial (enters_of Tryz.func132 (by kernel_rfl) rfl) (fun _ => rfl)
    (fun pre W' => pre = [] ∧ Below W3.heap.size W3 W') (fun _ => False) ?hIp ?h0 ?hround ?hseq ?hdone
  case hIp =>
    rintro pre W' r r' ⟨rfl, h⟩ hr
    exact ⟨rfl, ⟨h.os, h.tape, h.output, by simpa [World.putObj] using h.size, fun k hk => (World.putObj_heap_other (by omega)).trans (h.block k hk)⟩⟩
  case h0 =>
    intro r
    exact ⟨rfl, by (repeat (first | exact Below.refl _ _ | assumption | refine Below.alloc ?_ (by simp <;> omega) _ | refine Below.drew ?_ | refine below_drewN ?_ _ | refine Below.setCell ?_ (by simp <;> omega) _ | refine belowTrans ?_ (by assumption)))⟩
  case hround =>
    intro pre x W' r _ _ hl
    exact absurd hl (by omega)
  case hseq =>
    rintro rec hy W' ⟨_, h⟩ hb
    have h2 := h.size
    refine (seen1_none n (W.heap.size + 1) 11 (W3.heap.size + 1) (by omega) kl wl hv vv st W' (hd.keep fun b g => (h.block b (by omega)).trans (hb3.block b (by omega))) (hs.keep fun b g => (h.block b (by omega)).trans (hb3.block b (by omega))) ((h.cell (p := ⟨W.heap.size + 1, 0, none⟩) (by show W.heap.size + 1 < _; omega)).trans hp3) (by omega)).mono ?_
    rintro e W4 ⟨hv', h4⟩
    have h5 := (Array.getElem?_eq_some_iff.1 hb.1).1
    exact ⟨hv', [], rfl, ⟨rfl, belowTrans h h4⟩, hb.keep fun k hk => h4.block k (by omega)⟩
  case hdone =>
    rintro xs W' rfl ⟨_, h⟩ hdf2
    have h4 := h.size
    have h5 := (Array.getElem?_eq_some_iff.1 hdf2).1
    have c3 := (h.cell (p := ⟨W.heap.size, 0, none⟩) (by show W.heap.size < _; omega)).trans ho3
    gi_wp2
    rw [hz3] at hdf2 h5
    refine ⟨by simp, .inl ⟨_, _, rfl, run_takeDeferred hdf2, ⟨_, results_tmp rfl _ _ _, rfl, ?_⟩⟩⟩
    have h6 := belowTrans hb3 h
    exact ⟨h6.os, h6.tape, h6.output, by simpa [World.putObj] using h6.size, fun k hk => (World.putObj_heap_other (by omega)).trans (h6.block k hk)⟩
end Go.Proofs.YthhbiliimdpgmaaGreatDoor
/- Walk: does of the text "ab" of client 7, in a document without units. -/
namespace Go.Proofs.YthhbiliimdpgmaaGreatDoor
open Go.RowKit Go.Lib

/-- a store into a map whose pairs are known. -/
theorem wpList_putK {P : Program} {K T E : TypeId} {κ : Type} [DecidableEq κ] {enc : κ → Value} (KQ : KeyQ P K enc) (ht : P.underlying T = some (.map K E)) {w : World} {ops : Array Oper} {rest : List Oper} {o : Oper} {a : Act} {Q : Exit → Act → World → Prop} (hgd : o.guard = none) (x y z : Operand)
    (ho : o.op = .mapUpdate T x y z) {r : Nat} {k : κ} {v : Value} {l : List (κ × Value)} (hx : a.eval x = .map (some r)) (hy : a.eval y = enc k) (hz : a.eval z = v) (hm : MapK enc w r l)
    (h : ∀ ob, MapK enc (putMap w r ob) r (put l k v) → wpList P ops Q rest (a.put o.dst undef) (putMap w r ob)) : wpList P ops Q (o :: rest) a w := by
  obtain ⟨ob, hr, hk⟩ := run_put KQ ht hm k v
  refine wpList_plain hgd fun K hK => ?_
  unfold Oper.wp execOp
  simp only [ho, hx, hy, hz, Sem.run_bind, Sem.run_pure, Result.andThen_ok, hr]
  exact hK _ _ (h ob hk)
theorem SeqZ.m {n : Nat} {W : World} (h : SeqZ n W) : SeqM n W [] [] (.slice none 0 0) (.slice none 0 0) true := ⟨h.all, h.at_, h.sq⟩
def sab : ByteArray := ⟨#[97, 98]⟩
def abO : QOp := tOp ⟨7, 1⟩ idZero idZero sab
def tF (n : Nat) (b : Nat) : Prop := b = n + 4 ∨ b = n + 5 ∨ b = n + 6 ∨ b = n + 7
/-- the two units are there. -/
def TextQ (n s : Nat) (W : World) : Prop := ∃ b1 b2 ov, AllA n ov [b1, b2] [u71, u72] W ∧ s ≤ b1 ∧ s ≤ b2 ∧ OwnAt s 202 1 encP W ov [b1, b2]
theorem sab_dec (k : Nat) (hk : k < 2) : (Utf8.decode sab k).2 = 1 := by
  match k, hk with
  | 0, _ => decide
  | 1, _ => decide
set_option maxRecDepth 100000 in
set_option maxHeartbeats 4000000 in
theorem does_text (n : Nat) (kl : List (Int × Value)) (wl : List (QId × Value)) (hv : Value) (st : Int) (w : World) (hd : DocC n w kl wl hv noS st) (hs : SeqZ n w) (hu : MapK idV w (n + 7) []) (hT : Tabs w) :
    Calls Tryz.prog 72 #[.pointer (some ⟨n + 11, 0, none⟩), opV abO] w fun e w' => e = .returned (.bool true) ∧ DocC n w' kl wl hv noS st ∧ TextQ n w.heap.size w' ∧ Mods (tF n) w w' := by
  have hlen : ∀ w, Tabs w → Calls Tryz.prog 63 #[opV abO] w fun e w' => e = .returned (.int .i64 2) ∧ Below w.heap.size w w' := fun w hT => opsLen_any abO w (by show 2 < _; decide) hT
  change Calls Tryz.prog 72 #[.pointer (some ⟨n + 11, 0, none⟩), .agg #[.int .u64 abO.id.c, .int .u64 abO.id.k, .int .i64 abO.kind, .int .u64 abO.stamp, .int .u64 abO.left.c, .int .u64 abO.left.k, .int .u64 abO.right.c, .int .u64 abO.right.k, .string abO.text, .int .i64 abO.v.kind, .int .i64 abO.v.n, .float .f64 abO.v.f, .string abO.v.s, .string abO.key, .int .u64 abO.parent.c, .int .u64 abO.parent.k, .int .u64 abO.frm.c, .int .u64 abO.frm.k, .bool abO.frmA, .int .u64 abO.til.c, .int .u64 abO.til.k, .bool abO.tilA]] w _
  have hdl := hd.lt
  go_enter Tryz.func72, Tryz.ntmps72
  go_upto_region 1 with fail
  obtain ⟨W, hW⟩ : ∃ W, (w.alloc (.cells #[.pointer (some ⟨n + 11, 0, none⟩)] 24)).alloc (.cells (encOp abO).toArray 35) = W := ⟨_, rfl⟩
  have hB : Below w.heap.size w W := by rw [← hW]; exact ((Below.refl _ _).alloc (Nat.le_refl _) _).alloc (by simp) _
  have hbx : OpBox W (w.heap.size + 1) abO := by rw [← hW]; have := OpBox.new (w.alloc (.cells #[.pointer (some ⟨n + 11, 0, none⟩)] 24)) abO; rwa [World.size_alloc] at this
  have hp0 : W.cell? ⟨w.heap.size, 0, none⟩ = some (.pointer (some ⟨n + 11, 0, none⟩)) := by rw [← hW]; exact (cellTwo w _ _ _ _ 0).1
  change Code.wp _ _ _ _ ((w.alloc (.cells #[.pointer (some ⟨n + 11, 0, none⟩)] 24)).alloc (.cells (encOp abO).toArray 35))
  rw [hW]
  clear hW
  have q0 : W.cell? ⟨w.heap.size + 1, 0, none⟩ = some (.int .u64 7) := hbx.cells 0 _ rfl
  have q1 : W.cell? ⟨w.heap.size + 1, 1, none⟩ = some (.int .u64 1) := hbx.cells 1 _ rfl
  have q2 : W.cell? ⟨w.heap.size + 1, 2, none⟩ = some (.int .i64 1) := hbx.cells 2 _ rfl
  have q4 : W.cell? ⟨w.heap.size + 1, 4, none⟩ = some (.int .u64 0) := hbx.cells 4 _ rfl
  have q5 : W.cell? ⟨w.heap.size + 1, 5, none⟩ = some (.int .u64 0) := hbx.cells 5 _ rfl
  have q6 : W.cell? ⟨w.heap.size + 1, 6, none⟩ = some (.int .u64 0) := hbx.cells 6 _ rfl
  have q7 : W.cell? ⟨w.heap.size + 1, 7, none⟩ = some (.int .u64 0) := hbx.cells 7 _ rfl
  have hlt1 : w.heap.size + 1 < W.heap.size := hbx.lt
  go_upto_region 4 with fail
  have hB2 : Below w.heap.size w (W.alloc (.cells #[.int .u64 7, .int .u64 1, .int .u64 0, .int .u64 0, .int .u64 0, .int .u64 0] 157)) := hB.alloc hB.size _
  have hbx2 : OpBox (W.alloc (.cells #[.int .u64 7, .int .u64 1, .int .u64 0, .int .u64 0, .int .u64 0, .int .u64 0] 157)) (w.heap.size + 1) abO := hbx.below ((Below.refl _ _).alloc (Nat.le_refl _) _) hbx.lt
  have hp2 : (W.alloc (.cells #[.int .u64 7, .int .u64 1, .int .u64 0, .int .u64 0, .int .u64 0, .int .u64 0] 157)).cell? ⟨w.heap.size, 0, none⟩ = some (.pointer (some ⟨n + 11, 0, none⟩)) := (((Below.refl W.heap.size W).alloc (Nat.le_refl _) _).cell (p := ⟨w.heap.size, 0, none⟩) (by show w.heap.size < _; omega)).trans hp0
  have hu2 : ∀ k v, (#[Value.int .u64 7, .int .u64 1, .int .u64 0, .int .u64 0, .int .u64 0, .int .u64 0])[k]? = some v → (W.alloc (.cells #[.int .u64 7, .int .u64 1, .int .u64 0, .int .u64 0, .int .u64 0, .int .u64 0] 157)).cell? ⟨W.heap.size, k, none⟩ = some v := fun k v hk => by
    simp only [World.cell?, alloc_heap_if, if_pos]
    simpa using hk
  have hZ : (W.alloc (.cells #[.int .u64 7, .int .u64 1, .int .u64 0, .int .u64 0, .int .u64 0, .int .u64 0] 157)).heap.size = W.heap.size + 1 := by simp
  generalize W.alloc (.cells #[.int .u64 7, .int .u64 1, .int .u64 0, .int .u64 0, .int .u64 0, .int .u64 0] 157) = W2 at hB2 hbx2 hp2 hu2 hZ ⊢
  clear q0 q1 q2 q4 q5 q6 q7 hp0 hbx hB
  generalize W.heap.size = Z at hu2 hZ hlt1 ⊢
  have hd2 := hd.keep fun b g => hB2.block b (by omega)
  have hs2 := hs.keep fun b g => hB2.block b (by omega)
  have hbl := hbx2.lt
  have p0 : ∀ t : MStep (fun _ => False) W2, t.val.cell? ⟨w.heap.size, 0, none⟩ = some (.pointer (some ⟨n + 11, 0, none⟩)) := MStep.cell (by show w.heap.size < _; omega) id hp2
  have d6 : ∀ t : MStep (fun _ => False) W2, t.val.cell? ⟨n + 11, 6, none⟩ = some (.pointer (some ⟨n + 6, 0, none⟩)) := MStep.cell hd2.lt id (hd2.cell 6 _ rfl)
  have z0 : ∀ t : MStep (fun _ => False) W2, t.val.cell? ⟨Z, 0, none⟩ = some (.int .u64 7) := MStep.cell (by show Z < _; omega) id (hu2 0 _ rfl)
  have z1 : ∀ t : MStep (fun _ => False) W2, t.val.cell? ⟨Z, 1, none⟩ = some (.int .u64 1) := MStep.cell (by show Z < _; omega) id (hu2 1 _ rfl)
  have z2 : ∀ t : MStep (fun _ => False) W2, t.val.cell? ⟨Z, 2, none⟩ = some (.int .u64 0) := MStep.cell (by show Z < _; omega) id (hu2 2 _ rfl)
  have z3 : ∀ t : MStep (fun _ => False) W2, t.val.cell? ⟨Z, 3, none⟩ = some (.int .u64 0) := MStep.cell (by show Z < _; omega) id (hu2 3 _ rfl)
  have z4 : ∀ t : MStep (fun _ => False) W2, t.val.cell? ⟨Z, 4, none⟩ = some (.int .u64 0) := MStep.cell (by show Z < _; omega) id (hu2 4 _ rfl)
  have z5 : ∀ t : MStep (fun _ => False) W2, t.val.cell? ⟨Z, 5, none⟩ = some (.int .u64 0) := MStep.cell (by show Z < _; omega) id (hu2 5 _ rfl)
  have l1 : ∀ w', (∃ t : MStep (fun _ => False) W2, w' = t.val) → (loadVar 35 ⟨w.heap.size + 1, 0, none⟩).run Tryz.prog w' = .ok (opV abO) w' := by
    rintro _ ⟨t, rfl⟩
    exact OpBox.load ((t.h.block _ hbl id).trans hbx2)
  have hT2 := hT.below hB2
  refine wp_region_flow3 7 [0, 1, 2, 3, 4, 5] [6, 7, 8] (fun w' => ∃ s : MStep (fun _ => False) W2, w' = s.val) (by kernel_rfl) (by kernel_rfl) (fun _ _ d _ _ h => by cases d <;> exact h) (MStep.to (Mods.refl _ _).drew) ?_
  simp only [List.map_cons, List.map_nil, List.getElem?_cons_succ, List.getElem?_cons_zero, Option.getD_some]
  repeat (first | go_big_quiet_skip | (go_big_quiet_want; first | ((refine quiet_load 35 _ _ rfl rfl l1 ?_); go_frame; go_big_quiet_on) | (go_big_quiet_op; go_big_quiet_on)))
  refine wpQuiet_nil ?_
  refine wpSeqF_step rfl ?_; simp only [List.getElem_toArray, List.getElem_cons_succ, List.getElem_cons_zero]
  go_wp2_with (go_at_call 63; refine (hlen W2.drew (hT2.below (Below.refl _ _).drew)).mono ?_; rintro e w3 ⟨rfl, hb3'⟩)
  have hb3 : Below W2.heap.size W2 w3 := belowTrans (Below.refl _ _).drew hb3'
  refine ⟨MStep.to (Mods.of_below hb3), ?_⟩
  have hrn := run_two n w3 (hs2.keep fun b g => hb3.block b (by omega)).m
  refine wpSeqF_step rfl ?_; simp only [List.getElem_toArray, List.getElem_cons_succ, List.getElem_cons_zero]
  go_wp2_with (go_at_call 118; refine hrn.mono ?_; rintro e w4 ⟨rfl, b1, b2, ov, hA4, hb1, hb2, ho4, hm4⟩)
  refine wpSeqF_step rfl ?_; simp only [List.getElem_toArray, List.getElem_cons_succ, List.getElem_cons_zero]
  go_wp2
  refine wpSeqF_nil ?_
  have hbx4 : OpBox w4 (w.heap.size + 1) abO := (hm4.block _ (by have := hb3.size; omega) (by omega)).trans (hbx2.below hb3 hbl)
  have hp4 : w4.cell? ⟨w.heap.size, 0, none⟩ = some (.pointer (some ⟨n + 11, 0, none⟩)) := (World.cell?_of_block (w := w3) (hm4.block w.heap.size (by have := hb3.size; omega) (by omega))).trans ((hb3.cell (p := ⟨w.heap.size, 0, none⟩) (by show w.heap.size < _; omega)).trans hp2)
  have hM4 : Mods (fun b => b = n + 4 ∨ b = n + 5 ∨ b = n + 6) w w4 := ((Mods.of_below hB2).trans (Mods.of_below hb3)).trans hm4
  have hd4 := hd.keep fun b g => hM4.block b (by omega) (by omega)
  have hu4 := hu.blk (hM4.block (n + 7) (by omega) (by omega))
  have hz4 : w.heap.size + 1 < w4.heap.size := hbx4.lt
  have hz34 : w.heap.size ≤ w3.heap.size := by have := hB2.size; have := hb3.size; omega
  clear p0 d6 z0 z1 z2 z3 z4 z5 l1 hrn hm4 hb3 hb3' hT2 hbl hs2 hd2 hu2 hp2 hbx2 hB2 hlen hZ hlt1
  have q0 : w4.cell? ⟨w.heap.size + 1, 0, none⟩ = some (.int .u64 7) := hbx4.cells 0 _ rfl
  have q1 : w4.cell? ⟨w.heap.size + 1, 1, none⟩ = some (.int .u64 1) := hbx4.cells 1 _ rfl
  have q8 : w4.cell? ⟨w.heap.size + 1, 8, none⟩ = some (.string sab) := hbx4.cells 8 _ rfl
  go_upto_region 8 with fail
  have hI5 : ((w4.alloc (.cells #[.int .u64 7, .int .u64 1] 28)).iter sab 0).heap[w4.heap.size + 1]? = some (.stringIter sab 0) := by
    have := World.iter_heap (w4.alloc (.cells #[.int .u64 7, .int .u64 1] 28)) sab 0
    rwa [World.size_alloc] at this
  have hB5 : Below w4.heap.size w4 ((w4.alloc (.cells #[.int .u64 7, .int .u64 1] 28)).iter sab 0) := ((Below.refl _ _).alloc (Nat.le_refl _) _).alloc (by simp) _
  have hX5 : ((w4.alloc (.cells #[.int .u64 7, .int .u64 1] 28)).iter sab 0).heap[w4.heap.size]? = some (.cells #[.int .u64 7, .int .u64 1] 28 (0, 0)) := by
    unfold World.iter
    rw [alloc_heap_if, if_neg (by simp), alloc_heap_if, if_pos rfl]
  have hz5 : ((w4.alloc (.cells #[.int .u64 7, .int .u64 1] 28)).iter sab 0).heap.size = w4.heap.size + 2 := by unfold World.iter; simp
  generalize (w4.alloc (.cells #[.int .u64 7, .int .u64 1] 28)).iter sab 0 = W5 at hI5 hB5 hX5 hz5 ⊢
  clear q0 q1 q8 hbx4
  go_loopw [8] (fun _ wx => ∃ (k : Nat) (l : List (QId × Value)), k ≤ 2 ∧ wx.heap[w4.heap.size + 1]? = some (.stringIter sab k) ∧ wx.heap[w4.heap.size]? = some (.cells #[.int .u64 7, .int .u64 (1 + k)] 28 (0, 0)) ∧ MapK idV wx (n + 7) l ∧ Mods (fun b => b = n + 7) w4 wx) (fun _ wx => match wx.heap[w4.heap.size + 1]? with | some (.stringIter _ k) => 2 - k | _ => 0)
  case atStart => exact ⟨0, [], by omega, hI5, hX5, hu4.blk (hB5.block _ (by omega)), Mods.of_below hB5⟩
  case round =>
    obtain ⟨k, l, hk, hI, hX, hml, hmx⟩ := hrel
    have hzx := hmx.size
    have hXl := (Array.getElem?_eq_some_iff.1 hX).1
    have hIl := (Array.getElem?_eq_some_iff.1 hI).1
    by_cases hlt : k < 2
    · have hnx := fun ty => run_next_any_at (P := Tryz.prog) wr (w4.heap.size + 1) sab k ty hI (by show k < 2; exact hlt)
      rw [sab_dec k hlt] at hnx
      have hI3 := iterAt_heap wr (w4.heap.size + 1) sab k (k + 1) hI
      have hoth : ∀ b, b ≠ w4.heap.size + 1 → (wr.iterAt (w4.heap.size + 1) sab (k + 1)).heap[b]? = wr.heap[b]? := fun b hb => by simp [World.iterAt, Ne.symm hb]
      have hsz3 : (wr.iterAt (w4.heap.size + 1) sab (k + 1)).heap.size = wr.heap.size := by simp [World.iterAt]
      have hmx3 : Mods (fun b => b = n + 7) w4 (wr.iterAt (w4.heap.size + 1) sab (k + 1)) := ⟨hmx.os, hmx.tape, hmx.output, by rw [hsz3]; exact hmx.size, fun b hb hs => (hoth b (by omega)).trans (hmx.block b hb hs)⟩
      have hX3 := (hoth w4.heap.size (by omega)).trans hX
      have hml3 := hml.blk (hoth (n + 7) (by omega))
      generalize wr.iterAt (w4.heap.size + 1) sab (k + 1) = W6 at hnx hI3 hmx3 hX3 hml3 hsz3
      generalize (Utf8.decode sab k).1 = rn at hnx
      have HI := Lib.hid hI
      clear hoth hI hX hml hmx
      go_upto_region 10 with fail
      have hXl3 := (Array.getElem?_eq_some_iff.1 hX3).1
      have y2 : W6.cell? ⟨w.heap.size, 0, none⟩ = some (.pointer (some ⟨n + 11, 0, none⟩)) := (World.cell?_of_block (w := w4) (hmx3.block w.heap.size (by omega) (by omega))).trans hp4
      have y7 : W6.cell? ⟨n + 11, 7, none⟩ = some (.map (some (n + 7))) := (World.cell?_of_block (w := w4) (hmx3.block (n + 11) hd4.lt (by omega))).trans (hd4.cell 7 _ rfl)
      have s0 : ∀ s : MStep (fun _ => False) W6, s.val.cell? ⟨w.heap.size, 0, none⟩ = some (.pointer (some ⟨n + 11, 0, none⟩)) := MStep.cell (by show w.heap.size < _; omega) id y2
      have s7 : ∀ s : MStep (fun _ => False) W6, s.val.cell? ⟨n + 11, 7, none⟩ = some (.map (some (n + 7))) := MStep.cell (by show n + 11 < _; have := hd4.lt; omega) id y7
      have i0 : ∀ s : MStep (fun _ => False) W6, s.val.cell? ⟨w4.heap.size, 0, none⟩ = some (.int .u64 7) := MStep.cell hXl3 id (by simp [World.cell?, hX3])
      have i1 : ∀ s : MStep (fun _ => False) W6, s.val.cell? ⟨w4.heap.size, 1, none⟩ = some (.int .u64 (1 + k)) := MStep.cell hXl3 id (by simp [World.cell?, hX3])
      refine wp_region_flow3 8 [0, 1, 2, 3, 4, 5, 6, 7] [8] (fun w' => ∃ s : MStep (fun _ => False) W6, w' = s.val) (by kernel_rfl) (by kernel_rfl) (fun _ _ d _ _ h => by cases d <;> exact h) (MStep.to (Mods.refl _ _).drew) ?_
      simp only [List.map_cons, List.map_nil, List.getElem?_cons_succ, List.getElem?_cons_zero, Option.getD_some]
      repeat (first | go_big_quiet_skip | (go_big_quiet_want; first | (fail; go_frame; go_big_quiet_on) | (go_big_quiet_op; go_big_quiet_on)))
      refine wpQuiet_nil ?_
      refine wpSeqF_step rfl ?_; simp only [List.getElem_toArray, List.getElem_cons_succ, List.getElem_cons_zero]
      refine wpList_putK idKey (T := 62) (E := 183) (by kernel_rfl) rfl _ _ _ rfl (k := ⟨7, 1 + k⟩) rfl rfl rfl (hml3.blk (w' := W6.drew) rfl) ?_
      intro ob hkey
      go_wp2
      refine wpSeqF_nil ?_
      have hoth : ∀ b, b ≠ n + 7 → (putMap W6.drew (n + 7) ob).heap[b]? = W6.heap[b]? := fun b hb => putMap_other (w := W6.drew) hb
      have hsz7 : (putMap W6.drew (n + 7) ob).heap.size = W6.heap.size := putMap_size _ _ _
      have hm7 : Mods (fun b => b = n + 7) w4 (putMap W6.drew (n + 7) ob) := ⟨hmx3.os, hmx3.tape, hmx3.output, by rw [hsz7]; exact hmx3.size, fun b hb hs => (hoth b hs).trans (hmx3.block b hb hs)⟩
      have hX7 := (hoth w4.heap.size (by omega)).trans hX3
      have hI7 := (hoth (w4.heap.size + 1) (by omega)).trans hI3
      generalize putMap W6.drew (n + 7) ob = W7 at hkey hoth hsz7 hm7 hX7 hI7 ⊢
      clear s0 s7 i0 i1 hmx3 hX3 hI3 hml3 hoth y2 y7 hnx
      have c1 : W7.cell? ⟨w4.heap.size, 1, none⟩ = some (.int .u64 (1 + k)) := by simp [World.cell?, hX7]
      have f1 : W7.frozen? ⟨w4.heap.size, 1, none⟩ = false := by simp [World.frozen?, hX7]
      have hkw : IntKind.u64.wrap (1 + (k : Int) + 1) = 1 + ((k : Int) + 1) := by simp [IntKind.wrap, IntKind.bits, IntKind.signed]; omega
      go_wp2
      have hX8 : (W7.setCell ⟨w4.heap.size, 1, none⟩ (.int .u64 (1 + ((k : Int) + 1)))).heap[w4.heap.size]? = some (.cells #[.int .u64 7, .int .u64 (1 + ((k : Int) + 1))] 28 (0, 0)) := by simp [World.setCell, Array.getElem?_modify, hX7]
      have hI8 : (W7.setCell ⟨w4.heap.size, 1, none⟩ (.int .u64 (1 + ((k : Int) + 1)))).heap[w4.heap.size + 1]? = some (.stringIter sab (k + 1)) := (Below.heap_setCell _ _ _ _ (by show ¬ w4.heap.size + 1 = w4.heap.size; omega)).trans hI7
      have hM8 : Mods (fun b => b = n + 7) w4 (W7.setCell ⟨w4.heap.size, 1, none⟩ (.int .u64 (1 + ((k : Int) + 1)))) := hm7.setC (.inr (Nat.le_refl _)) _
      have hm8 := hkey.blk (w' := W7.setCell ⟨w4.heap.size, 1, none⟩ (.int .u64 (1 + ((k : Int) + 1)))) (Below.heap_setCell _ _ _ _ (by show ¬ n + 7 = w4.heap.size; omega))
      refine ⟨⟨k + 1, _, by omega, hI8, hX8, hm8, hM8⟩, ?_⟩
      rw [hI8, HI.out]
      dsimp only
      omega
    · obtain rfl : k = 2 := by omega
      have hnx := fun ty => run_next_end_at (P := Tryz.prog) wr (w4.heap.size + 1) sab 2 ty hI (by show ¬ 2 < 2; omega)
      clear hX hml hI
      go_wp2
      go_ret
      exact ⟨rfl, hd4.keep fun b g => hmx.block b (by have := hd4.lt; omega) (by omega), ⟨b1, b2, ov, hA4.keepM hu4 hmx, by omega, by omega, ownsRow_base (ownsRow_blk ho4 fun k e => hmx.block k (ownsRow_lt ho4 k e) (by have := (World.ownsRow.lt ho4 k e).1; have := hd4.lt; omega)) hz34⟩, (hM4.mono fun b g => by unfold tF; omega).trans (hmx.mono fun b g => by unfold tF; omega)⟩
end Go.Proofs.YthhbiliimdpgmaaGreatDoor
