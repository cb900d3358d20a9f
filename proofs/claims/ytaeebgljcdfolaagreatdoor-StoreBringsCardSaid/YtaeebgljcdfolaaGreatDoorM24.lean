/- Rows of structs whose cells are written in place. -/
import Derived.Test.YtaeebgljcdfolaaGreatDoorM14
import Derived.Laws.IdiomCopy
import Derived.ArgAppend
import Derived.Test.YtaeebgljcdfolaaGreatDoorM09
import Derived.Test.YtaeebgljcdfolaaGreatDoorM08
import Derived.Test.YtaeebgljcdfolaaGreatDoorM20
import Derived.Test.YtaeebgljcdfolaaGreatDoorM22
namespace Go.Proofs.YtaeebgljcdfolaaGreatDoor
open Go.RowKit

theorem setCells_rest (b : Nat) : ∀ (vs : List Value) (o : Nat) (w : World), (∀ k, k ≠ b → (w.setCells b o vs).heap[k]? = w.heap[k]?) ∧ (w.setCells b o vs).heap.size = w.heap.size ∧ (w.setCells b o vs).os = w.os ∧ (w.setCells b o vs).tape = w.tape ∧ (w.setCells b o vs).output = w.output
  | [], _, _ => ⟨fun _ _ => rfl, rfl, rfl, rfl, rfl⟩
  | v :: vs, o, w => by
    obtain ⟨h1, h2, h3, h4, h5⟩ := setCells_rest b vs (o + 1) (w.setCell ⟨b, o, none⟩ v)
    refine ⟨fun k hk => (h1 k hk).trans (Below.heap_setCell _ _ _ _ hk), h2.trans (by simp), h3, h4, h5⟩
theorem setCells_row (b : Nat) {t : TypeId} {f : Nat × Nat} : ∀ (vs : List Value) (o : Nat) (w : World) (cur : Array Value), w.heap[b]? = some (.cells cur t f) → ∃ cur', (w.setCells b o vs).heap[b]? = some (.cells cur' t f) ∧ cur'.size = cur.size
  | [], _, _, cur, h => ⟨cur, h, rfl⟩
  | v :: vs, o, w, cur, h => by
    have h1 : (w.setCell ⟨b, o, none⟩ v).heap[b]? = some (.cells (cur.setIfInBounds o v) t f) := by
      simp [World.setCell, Array.getElem?_modify, h]
    obtain ⟨cur', h2, h3⟩ := setCells_row b vs (o + 1) _ _ h1
    exact ⟨cur', h2, by rw [h3]; simp⟩
theorem OwnAt.of_cells {α : Type} {base E k : Nat} {enc : α → List Value} (hk : ∀ x, (enc x).length = k) {w : World} {g cap : Nat} {cur : Array Value} {l : List α} (hg : base ≤ g) (hcur : w.heap[g]? = some (.cells cur E (0, 0))) (hn : l.length ≤ cap) (hm : cap ≤ maxLen) (hs : cur.size = cap * k)
    (hc : ∀ (j : Nat) (x : α), l[j]? = some x → ∀ (i : Nat) (y : Value), (enc x)[i]? = some y → w.cell? ⟨g, j * k + i, none⟩ = some y) : OwnAt base E k enc w (.slice (some ⟨g, 0, none⟩) l.length cap) l := by
  refine ⟨flat_length hk l, .inr ⟨g, cap, cur, rfl, hg, hcur, hn, hm, hs, ?_⟩⟩
  apply List.ext_getElem?
  intro p
  rw [List.getElem?_take]
  by_cases hp : p < l.length * k
  · rw [if_pos hp]
    have hk0 : 0 < k := Nat.pos_of_ne_zero fun e => by subst e; simp at hp
    have hj : p / k < l.length := Nat.div_lt_of_lt_mul (by rw [Nat.mul_comm]; exact hp)
    have h1 := flat_get hk l (p / k) (p % k) l[p / k] (by simp [hj]) (Nat.mod_lt _ hk0)
    have hpk : p / k * k + p % k = p := by rw [Nat.mul_comm]; exact Nat.div_add_mod p k
    rw [hpk] at h1
    rw [h1]
    have hlt : p % k < (enc l[p / k]).length := by rw [hk]; exact Nat.mod_lt _ hk0
    have h2 := hc (p / k) l[p / k] (by simp [hj]) (p % k) _ (List.getElem?_eq_getElem hlt)
    rw [hpk, World.cell?, hcur] at h2
    simp only [Option.isSome_none, Bool.false_eq_true, if_false] at h2
    rw [Array.getElem?_toList, h2, List.getElem?_eq_getElem hlt]
  · rw [if_neg hp]
    rw [List.getElem?_eq_none (by rw [flat_length hk]; omega)]
end Go.Proofs.YtaeebgljcdfolaaGreatDoor
/- Walks: the document's answer's small functions (quireref6.Right, quireref8.none, named, quireref2.ints, order, Cmp). -/
namespace Go.Proofs.YtaeebgljcdfolaaGreatDoor
open Go.RowKit

set_option maxHeartbeats 400000 in
theorem right6_any (x : QId) (w : World) :
    Calls Tryz.prog 21 #[.agg #[.int .u64 x.c, .int .u64 x.k]] w fun e w' => e = .returned (.bool x.rightB) ∧ Below w.heap.size w w' := by
  go_enter Tryz.func21, Tryz.ntmps21
  go_wp2
  all_goals go_ret
  all_goals exact ⟨ret_bool (by simp [QId.rightB, numB, *] <;> omega), by (repeat (first | exact Below.refl _ _ | assumption | refine Below.alloc ?_ (by simp <;> omega) _ | refine Below.drew ?_ | refine below_drewN ?_ _ | refine Below.setCell ?_ (by simp <;> omega) _ | refine belowTrans ?_ (by assumption)))⟩

set_option maxHeartbeats 400000 in
theorem none8_zero (w : World) :
    Calls Tryz.prog 23 #[.agg #[.int .u64 0, .int .u64 0]] w fun e w' => e = .returned (.bool true) ∧ Below w.heap.size w w' := by
  go_enter Tryz.func23, Tryz.ntmps23
  go_wp2
  all_goals go_ret
  all_goals exact ⟨rfl, by (repeat (first | exact Below.refl _ _ | assumption | refine Below.alloc ?_ (by simp <;> omega) _ | refine Below.drew ?_ | refine below_drewN ?_ _ | refine Below.setCell ?_ (by simp <;> omega) _ | refine belowTrans ?_ (by assumption)))⟩

set_option maxHeartbeats 400000 in
theorem named8_zero (w : World) :
    Calls Tryz.prog 22 #[.agg #[.int .u64 0, .int .u64 0]] w fun e w' => e = .returned (.bool true) ∧ Below w.heap.size w w' := by
  go_enter Tryz.func22, Tryz.ntmps22
  go_wp2_with (go_at_call 23; refine (none8_zero _).mono ?_; rintro e w' ⟨rfl, hb⟩)
  all_goals go_ret
  all_goals exact ⟨rfl, by (repeat (first | exact Below.refl _ _ | assumption | refine Below.alloc ?_ (by simp <;> omega) _ | refine Below.drew ?_ | refine below_drewN ?_ _ | refine Below.setCell ?_ (by simp <;> omega) _ | refine belowTrans ?_ (by assumption)))⟩

set_option maxHeartbeats 400000 in
theorem ints_same (a : Int) (w : World) :
    Calls Tryz.prog 103 #[.int .i64 a, .int .i64 a] w fun e w' => e = .returned (.int .i64 0) ∧ w = w' := by
  have h : ¬ a < a := by omega
  go_enter Tryz.func103, Tryz.ntmps103
  go_wp2
  all_goals go_ret
  all_goals exact ⟨rfl, rfl⟩

set_option maxHeartbeats 400000 in
theorem order_nan (f : Nat) (hf : nanB f = true) (w : World) :
    Calls Tryz.prog 104 #[.float .f64 f] w fun e w' => e = .returned (.int .i64 9223372036854775807) ∧ w = w' := by
  unfold nanB at hf
  go_enter Tryz.func104, Tryz.ntmps104
  go_wp2
  all_goals go_ret
  all_goals exact ⟨rfl, rfl⟩

theorem run_bits (f : Nat) (w : World) : (callFunc 53 #[Value.float .f64 f]).run Tryz.prog w = .ok (.value (.int .u64 f)) w := by kernel_rfl

set_option maxHeartbeats 400000 in
theorem order_num (f : Nat) (hf : nanB f = false) : ∃ n : Int, ∀ w,
    Calls Tryz.prog 104 #[.float .f64 f] w fun e w' => e = .returned (.int .i64 n) ∧ w = w' := by
  unfold nanB at hf
  have hb := run_bits f
  refine ⟨if wrap64 (f : Int) < 0 then wrap64 (-1 - bits BinOp.and IntKind.i64 (wrap64 (f : Int)) 9223372036854775807) else wrap64 (f : Int), fun w => ?_⟩
  go_enter Tryz.func104, Tryz.ntmps104
  go_wp2
  all_goals go_ret
  all_goals exact ⟨ret_int (by simp [*]), rfl⟩

theorem bytesLess_self : ∀ l : List UInt8, Op.bytesLess l l = false
  | [] => rfl
  | a :: l => by simp [Op.bytesLess, bytesLess_self l]
theorem belowOf {e : Ending} {v : Value} {w w' : World} (h : e = .returned v ∧ w = w') : e = .returned v ∧ Below w.heap.size w w' := ⟨h.1, h.2 ▸ Below.refl _ _⟩

set_option maxRecDepth 100000 in
set_option maxHeartbeats 400000 in
theorem cmp_clean (v : QVal) (w : World) :
    Calls Tryz.prog 68 #[.agg #[.int .i64 v.clean.kind, .int .i64 v.clean.n, .float .f64 v.clean.f, .string v.clean.s], .agg #[.int .i64 v.kind, .int .i64 v.n, .float .f64 v.f, .string v.s]] w fun e w' => e = .returned (.int .i64 0) ∧ Below w.heap.size w w' := by
  obtain ⟨n, hn⟩ : ∃ n : Int, ∀ f, f = v.f ∨ f = v.clean.f → ∀ w, Calls Tryz.prog 104 #[.float .f64 f] w fun e w' => e = .returned (.int .i64 n) ∧ w = w' := by
    cases h : nanB v.f
    · obtain ⟨n, hn⟩ := order_num v.f h
      refine ⟨n, fun f hf w => ?_⟩
      have : v.clean = v := by simp [QVal.clean, h]
      rw [this] at hf
      rcases hf with rfl | rfl <;> exact hn w
    · refine ⟨_, fun f hf w => order_nan f ?_ w⟩
      rcases hf with rfl | rfl
      · exact h
      · simp [QVal.clean, h, nan_nan]
  have h1 := fun w => hn v.f (.inl rfl) w
  have h2 := fun w => hn v.clean.f (.inr rfl) w
  have e1 : v.clean.kind = v.kind := by unfold QVal.clean; split <;> rfl
  have e2 : v.clean.n = v.n := by unfold QVal.clean; split <;> rfl
  have e3 : v.clean.s = v.s := by unfold QVal.clean; split <;> rfl
  rw [e1, e2, e3]
  generalize v.clean.f = g at h2 ⊢
  clear hn e1 e2 e3
  have hB : Below w.heap.size w ((w.alloc (.cells #[.int .i64 v.kind, .int .i64 v.n, .float .f64 g, .string v.s] 31)).alloc (.cells #[.int .i64 v.kind, .int .i64 v.n, .float .f64 v.f, .string v.s] 31)) := by (repeat (first | exact Below.refl _ _ | assumption | refine Below.alloc ?_ (by simp <;> omega) _ | refine Below.drew ?_ | refine below_drewN ?_ _ | refine Below.setCell ?_ (by simp <;> omega) _ | refine belowTrans ?_ (by assumption)))
  go_enter Tryz.func68, Tryz.ntmps68
  go_wp2_with (go_at_call 103; refine (ints_same _ _).mono ?_; rintro e w' ⟨rfl, rfl⟩)
  obtain ⟨W, hW⟩ : ∃ W, ((w.alloc (.cells #[.int .i64 v.kind, .int .i64 v.n, .float .f64 g, .string v.s] 31)).alloc (.cells #[.int .i64 v.kind, .int .i64 v.n, .float .f64 v.f, .string v.s] 31)) = W := ⟨_, rfl⟩
  have b0 : W.heap[w.heap.size]? = some (.cells #[.int .i64 v.kind, .int .i64 v.n, .float .f64 g, .string v.s] 31 (0, 0)) := by subst hW; (simp only [alloc_heap_if, World.size_alloc]; repeat (first | rw [if_pos rfl] | rw [if_pos trivial] | rw [if_pos (by omega)] | rw [if_neg (by omega)]))
  have b1 : W.heap[w.heap.size + 1]? = some (.cells #[.int .i64 v.kind, .int .i64 v.n, .float .f64 v.f, .string v.s] 31 (0, 0)) := by subst hW; (simp only [alloc_heap_if, World.size_alloc]; repeat (first | rw [if_pos rfl] | rw [if_pos trivial] | rw [if_pos (by omega)] | rw [if_neg (by omega)]))
  have hs : W.heap.size = w.heap.size + 2 := by subst hW; simp
  rw [hW] at hB ⊢
  clear hW
  have f0 : ∀ s : BStep W, s.val.cell? ⟨w.heap.size, 2, none⟩ = some (.float .f64 g) := BStep.cell (by show w.heap.size < _; omega) (by simp [World.cell?, b0])
  have f1 : ∀ s : BStep W, s.val.cell? ⟨w.heap.size + 1, 2, none⟩ = some (.float .f64 v.f) := BStep.cell (by show w.heap.size + 1 < _; omega) (by simp [World.cell?, b1])
  have k1 : ∀ x : Nat, (x = v.f ∨ x = g) → ∀ s : BStep W, Calls Tryz.prog 104 #[.float .f64 x] s.val fun e w' => e = .returned (.int .i64 n) ∧ Below s.val.heap.size s.val w' := by
    rintro x (rfl | rfl) s
    · exact (h1 _).mono fun _ _ => belowOf
    · exact (h2 _).mono fun _ _ => belowOf
  have k3 : ∀ s : BStep W, Calls Tryz.prog 103 #[.int .i64 n, .int .i64 n] s.val fun e w' => e = .returned (.int .i64 0) ∧ Below s.val.heap.size s.val w' := fun s => (ints_same _ _).mono fun _ _ => belowOf
  clear h1 h2
  refine wp_region_b (by kernel_rfl) (by kernel_rfl) ?_
  repeat (first | go_big_quiet_skip | (go_big_quiet_want; go_big_quiet_op; first | go_big_quiet_on | go_big_quiet_call ((first | (go_at_call 104; exact callsB (k1 _ (by first | exact .inl rfl | exact .inr rfl) _)) | (go_at_call 103; exact callsB (k3 _))))))
  refine wpQuiet_nil ?_
  intro W' hC'
  have hBW' := BStep.of hC'
  have g0 : W'.cell? ⟨w.heap.size, 3, none⟩ = some (.string v.s) := (hBW'.cell (p := ⟨w.heap.size, 3, none⟩) (by show w.heap.size < _; omega)).trans (by simp [World.cell?, b0])
  have g1 : W'.cell? ⟨w.heap.size + 1, 3, none⟩ = some (.string v.s) := (hBW'.cell (p := ⟨w.heap.size + 1, 3, none⟩) (by show w.heap.size + 1 < _; omega)).trans (by simp [World.cell?, b1])
  have hl := bytesLess_self v.s.toList
  go_wp2
  all_goals go_ret
  all_goals exact ⟨rfl, belowTrans hB hBW'⟩
end Go.Proofs.YtaeebgljcdfolaaGreatDoor
/- Walks: the document's answer's small functions for texts (quireref2.Check of null; quireref6.Less; quireref8.zero, Len, names, Check, Same). -/
namespace Go.Proofs.YtaeebgljcdfolaaGreatDoor
open Go.RowKit Go.Lib

set_option maxHeartbeats 400000 in
theorem less6_any (x y : QId) (w : World) :
    Calls Tryz.prog 50 #[.agg #[.int .u64 x.c, .int .u64 x.k], .agg #[.int .u64 y.c, .int .u64 y.k]] w fun e w' => e = .returned (.bool (x.lessB y)) ∧ Below w.heap.size w w' := by
  go_enter Tryz.func50, Tryz.ntmps50
  go_wp2
  all_goals go_ret
  all_goals exact ⟨ret_bool (by simp [QId.lessB, *]), by (repeat (first | exact Below.refl _ _ | assumption | refine Below.alloc ?_ (by simp <;> omega) _ | refine Below.drew ?_ | refine below_drewN ?_ _ | refine Below.setCell ?_ (by simp <;> omega) _ | refine belowTrans ?_ (by assumption)))⟩
set_option maxRecDepth 100000 in
set_option maxHeartbeats 1000000 in
theorem check2_null (w : World) : Calls Tryz.prog 24 #[.agg #[.int .i64 0, .int .i64 0, .float .f64 0, .string ⟨#[]⟩]] w fun e w' => e = .returned (.int .i64 0) ∧ Below w.heap.size w w' := by
  have hbits := run_bits 0
  go_enter Tryz.func24, Tryz.ntmps24
  go_wp2
  all_goals go_ret
  all_goals exact ⟨rfl, by (repeat (first | exact Below.refl _ _ | assumption | refine Below.alloc ?_ (by simp <;> omega) _ | refine Below.drew ?_ | refine below_drewN ?_ _ | refine Below.setCell ?_ (by simp <;> omega) _ | refine belowTrans ?_ (by assumption)))⟩
set_option maxRecDepth 100000 in
set_option maxHeartbeats 1000000 in
theorem zero8_null (w : World) : Calls Tryz.prog 27 #[.agg #[.int .i64 0, .int .i64 0, .float .f64 0, .string ⟨#[]⟩]] w fun e w' => e = .returned (.bool true) ∧ Below w.heap.size w w' := by
  have hch := check2_null
  go_enter Tryz.func27, Tryz.ntmps27
  go_wp2_with (go_at_call 24; refine (hch _).mono ?_; rintro e w1 ⟨rfl, hb1⟩)
  all_goals go_ret
  all_goals exact ⟨rfl, belowTrans (by (repeat (first | exact Below.refl _ _ | assumption | refine Below.alloc ?_ (by simp <;> omega) _ | refine Below.drew ?_ | refine below_drewN ?_ _ | refine Below.setCell ?_ (by simp <;> omega) _ | refine belowTrans ?_ (by assumption)))) hb1⟩
set_option maxRecDepth 100000 in
set_option maxHeartbeats 1000000 in
theorem len8_t (i l r : QId) (t : ByteArray) (w : World) (hs : t.size ≤ 1000000000000) :
    Calls Tryz.prog 8 #[opV (tOp i l r t)] w fun e w' => e = .returned (.int .i64 ((runesB t).length : Int)) ∧ Below w.heap.size w w' := by
  have hl := fun w => len3_any t hs w
  generalize ((runesB t).length : Int) = N at hl ⊢
  change Calls Tryz.prog 8 #[.agg #[.int .u64 i.c, .int .u64 i.k, .int .i64 1, .int .u64 0, .int .u64 l.c, .int .u64 l.k, .int .u64 r.c, .int .u64 r.k, .string t, .int .i64 0, .int .i64 0, .float .f64 0, .string ⟨#[]⟩, .string ⟨#[]⟩, .int .u64 0, .int .u64 0, .int .u64 0, .int .u64 0, .bool false, .int .u64 0, .int .u64 0, .bool false]] w _
  go_enter Tryz.func8, Tryz.ntmps8
  go_upto_region 1 with fail
  obtain ⟨W, hW⟩ : ∃ W, w.alloc (.cells (encOp (tOp i l r t)).toArray 35) = W := ⟨_, rfl⟩
  have hB : Below w.heap.size w W := by rw [← hW]; exact (Below.refl _ _).alloc (Nat.le_refl _) _
  have hbx : OpBox W w.heap.size (tOp i l r t) := by rw [← hW]; exact OpBox.new _ _
  change Code.wp _ _ _ _ (w.alloc (.cells (encOp (tOp i l r t)).toArray 35))
  rw [hW]
  clear hW
  have q2 : W.cell? ⟨w.heap.size, 2, none⟩ = some (.int .i64 1) := hbx.cells 2 _ rfl
  have q8 : W.cell? ⟨w.heap.size, 8, none⟩ = some (.string t) := hbx.cells 8 _ rfl
  go_wp2_with (go_at_call 25; refine (hl _).mono ?_; rintro e w1 ⟨rfl, hb1⟩)
  go_ret
  exact ⟨rfl, belowTrans hB hb1⟩
def Names5 (w : World) (e : Ending) (w' : World) : Prop := ∃ b, e = .returned (.slice (some ⟨b, 0, none⟩) 5 5) ∧ Below w.heap.size w w' ∧ (∃ t, w'.heap[b]? = some (.cells #[.int .u64 0, .int .u64 0, .int .u64 0, .int .u64 0, .int .u64 0, .int .u64 0, .int .u64 0, .int .u64 0, .int .u64 0, .int .u64 0] t (0, 0)))
set_option maxRecDepth 100000 in
set_option maxHeartbeats 1000000 in
theorem names8_t (c : Int) (t : ByteArray) (w : World) : Calls Tryz.prog 29 #[opV (kOp c t)] w (Names5 w) := by
  change Calls Tryz.prog 29 #[.agg #[.int .u64 (⟨c, 1⟩ : QId).c, .int .u64 (⟨c, 1⟩ : QId).k, .int .i64 1, .int .u64 0, .int .u64 idZero.c, .int .u64 idZero.k, .int .u64 idZero.c, .int .u64 idZero.k, .string t, .int .i64 0, .int .i64 0, .float .f64 0, .string ⟨#[]⟩, .string ⟨#[]⟩, .int .u64 0, .int .u64 0, .int .u64 0, .int .u64 0, .bool false, .int .u64 0, .int .u64 0, .bool false]] w _
  go_enter Tryz.func29, Tryz.ntmps29
  go_wp2
  go_ret
  refine ⟨w.heap.size + 1, rfl, by (repeat (first | exact Below.refl _ _ | assumption | refine Below.alloc ?_ (by simp <;> omega) _ | refine Below.drew ?_ | refine below_drewN ?_ _ | refine Below.setCell ?_ (by simp <;> omega) _ | refine belowTrans ?_ (by assumption))), 28, ?_⟩
  rw [alloc_heap_if, if_pos (by simp)]
  rfl
set_option maxRecDepth 100000 in
set_option maxHeartbeats 1000000 in
theorem same8_t (i l r : QId) (t : ByteArray) (w : World) : Calls Tryz.prog 43 #[opV (tOp i l r t), opV (tOp i l r t)] w fun e w' => e = .returned (.bool true) ∧ Below w.heap.size w w' := by
  have hcmp := fun w => cmp_clean valZero w
  rw [show valZero.clean = valZero from rfl] at hcmp
  simp only [show valZero.kind = 0 from rfl, show valZero.n = 0 from rfl, show valZero.f = 0 from rfl, show valZero.s = (⟨#[]⟩ : ByteArray) from rfl] at hcmp
  change Calls Tryz.prog 43 #[.agg #[.int .u64 i.c, .int .u64 i.k, .int .i64 1, .int .u64 0, .int .u64 l.c, .int .u64 l.k, .int .u64 r.c, .int .u64 r.k, .string t, .int .i64 0, .int .i64 0, .float .f64 0, .string ⟨#[]⟩, .string ⟨#[]⟩, .int .u64 0, .int .u64 0, .int .u64 0, .int .u64 0, .bool false, .int .u64 0, .int .u64 0, .bool false], .agg #[.int .u64 i.c, .int .u64 i.k, .int .i64 1, .int .u64 0, .int .u64 l.c, .int .u64 l.k, .int .u64 r.c, .int .u64 r.k, .string t, .int .i64 0, .int .i64 0, .float .f64 0, .string ⟨#[]⟩, .string ⟨#[]⟩, .int .u64 0, .int .u64 0, .int .u64 0, .int .u64 0, .bool false, .int .u64 0, .int .u64 0, .bool false]] w _
  go_enter Tryz.func43, Tryz.ntmps43
  go_wp2_with fail
  refine (hcmp _).mono ?_
  rintro e w1 ⟨rfl, hb⟩
  obtain ⟨hc, hf⟩ := bcell hb
  go_wp2_with fail
  go_ret
  exact ⟨rfl, belowTrans (by (repeat (first | exact Below.refl _ _ | assumption | refine Below.alloc ?_ (by simp <;> omega) _ | refine Below.drew ?_ | refine below_drewN ?_ _ | refine Below.setCell ?_ (by simp <;> omega) _ | refine belowTrans ?_ (by assumption)))) hb⟩
end Go.Proofs.YtaeebgljcdfolaaGreatDoor
