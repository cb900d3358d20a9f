/- Walks: maps.New, Hide, Is. -/
import Derived.Test.YteadongdlacgmaaMapsAt
import Derived.Test.YteadongdlacgmaaClean
namespace Go.Proofs.Yteadongdlacgmaa
open Go.RowKit

def QMaps.empty : QMaps := ⟨[], []⟩

theorem MapK.empty {κ : Type} {enc : κ → Value} {w : World} {r : Nat} (h : w.heap[r]? = some (.map #[] 0)) : MapK enc w r [] := ⟨#[], 0, h, rfl, by simp, by simp, by simp⟩

set_option maxHeartbeats 400000 in
theorem mapsNew_any (w : World) :
    Calls Try.prog 8 #[] w fun e w' => e = .returned (.pointer (some ⟨w.heap.size + 2, 0, none⟩)) ∧ MapsIn w' (fun b => w.heap.size ≤ b) (w.heap.size + 2) QMaps.empty ∧ Below w.heap.size w w' := by
  have hmm := @run_makeMap Try.prog
  go_enter Try.func8, Try.ntmps8
  go_wp2
  go_ret
  refine ⟨rfl, ⟨⟨w.heap.size, w.heap.size + 1, .slice none 0 0, [], fun _ _ => .slice none 0 0⟩, ?_, ?_⟩, by (repeat (first | exact Below.refl _ _ | assumption | refine Below.alloc ?_ (by simp <;> omega) _ | refine Below.drew ?_ | refine below_drewN ?_ _ | refine Below.setCell ?_ (by simp <;> omega) _ | refine belowTrans ?_ (by assumption)))⟩
  · refine { st := ?_, hid := ⟨[], OwnAt.nil, fun i => rfl⟩, all := MapK.empty ?_, inn := MapK.empty ?_, par := rfl, inner := by simp, rows := ?_, sep := by simp, rsep := ?_ }
    · rw [alloc_heap_if, if_pos (by simp)]
    · rw [alloc_heap_if, if_neg (by simp; omega), alloc_heap_if, if_neg (by simp), alloc_heap_if, if_pos rfl]
    · rw [alloc_heap_if, if_neg (by simp), alloc_heap_if, if_pos (by simp)]
    · intro p k h; exact absurd rfl h
    · intro p k _ _ h; exact absurd rfl h
  · rintro b (rfl | rfl | rfl | hb | hb | ⟨p, k, hne, hb⟩)
    · simp
    · simp
    · simp
    · simp at hb
    · cases hb
    · exact absurd rfl hne

theorem ownsRow_shape {w : World} {base e size n : Nat} {v : Value} {xs : List Value} (h : w.ownsRow base e size v n xs) : ∃ p m cap, v = .slice p m cap := by
  rcases h.2 with ⟨hv, _⟩ | ⟨g, cap, cur, hv, _⟩
  · exact ⟨_, _, _, hv⟩
  · exact ⟨_, _, _, hv⟩
theorem MapK.ne {κ : Type} {enc : κ → Value} {w : World} {r b : Nat} {l : List (κ × Value)} {c : Array Value} {t : TypeId} {f : Nat × Nat} (h : MapK enc w r l) (hb : w.heap[b]? = some (.cells c t f)) : r ≠ b := by
  obtain ⟨es, clock, h1, _⟩ := h
  rintro rfl
  rw [h1] at hb; cases hb
theorem ownsRow_ne {w : World} {base e size n b : Nat} {v : Value} {xs : List Value} {c : Array Value} {t : TypeId} {f : Nat × Nat} (h : w.ownsRow base e size v n xs) (hb : w.heap[b]? = some (.cells c t f)) (ht : t ≠ e) : v.ownBlock ≠ some b := by
  intro e1
  rcases h.2 with ⟨hv, _⟩ | ⟨g, cap, cur, hv, hg, hcur, _⟩
  · rw [hv] at e1; cases e1
  · rw [hv] at e1; cases e1
    rw [hcur] at hb; cases hb; exact ht rfl

/-- another list of hidden ones is laid into the object. -/
theorem MapsAt.hide {w : World} {bm : Nat} {L : MLay} {M : QMaps} (h : MapsAt w bm L M) (v : Value) (H l : List QRng) (hv : OwnAt 0 54 3 encRng w v H) (hH : ∀ i, hasRngs H i = hasRngs l i) :
    MapsAt (w.setCell ⟨bm, 2, none⟩ v) bm { L with hv := v } { M with hidden := l } where
  st := by simp [World.setCell, Array.getElem?_modify, h.st]
  hid := ⟨H, ownsRow_blk hv (fun b e => Below.heap_setCell _ _ _ _ (fun e2 => ownsRow_ne hv h.st (by decide) (by rw [e]; exact congrArg some e2))), hH⟩
  all := h.all.blk (Below.heap_setCell _ _ _ _ (h.all.ne h.st))
  inn := h.inn.blk (Below.heap_setCell _ _ _ _ (h.inn.ne h.st))
  par := h.par
  inner p hp := (h.inner p hp).blk (Below.heap_setCell _ _ _ _ ((h.inner p hp).ne h.st))
  rows p k hne := ownsRow_blk (h.rows p k hne) (fun b e => Below.heap_setCell _ _ _ _ (fun e2 => ownsRow_ne (h.rows p k hne) h.st (by decide) (by rw [e]; exact congrArg some e2)))
  sep := h.sep
  rsep := h.rsep

set_option maxHeartbeats 400000 in
theorem hide_any (F : Nat → Prop) (bm : Nat) (M : QMaps) (sv : Value) (l : List QRng) (w : World) (hm : MapsIn w F bm M) (hl : SliceAt 3 encRng w sv l) (hlen : l.length * 24 ≤ 140737488355328) (hsv : sv.oneCell' = true) :
    Calls Try.prog 9 #[.pointer (some ⟨bm, 0, none⟩), sv] w fun e w' => e = .returned (.tuple #[]) ∧ MapsIn w' (fun b => F b ∨ w.heap.size ≤ b) bm { M with hidden := l } ∧ Mods F w w' := by
  obtain ⟨L, hL, hF⟩ := hm
  have hc := clean_any sv l w hl hlen hsv
  go_enter Try.func9, Try.ntmps9
  go_wp2_with (go_at_call 20; refine hc.mono ?_; rintro e w1 ⟨hv, rfl, d, hperm, hpw, hown, hb⟩; have hL1 := hL.below hb; obtain ⟨p, m, cap, rfl⟩ := ownsRow_shape hown; have c2 : w1.cell? ⟨bm, 2, none⟩ = some L.hv := by { simp [World.cell?, hL1.st] }; have f2 : w1.frozen? ⟨bm, 2, none⟩ = false := by { simp [World.frozen?, hL1.st] })
  go_end0
  refine ⟨rfl, ⟨_, hL1.hide _ _ l (ownsRow_base hown (Nat.zero_le _)) (fun i => join_has hperm hpw i), ?_⟩, ?_⟩
  · rintro b (rfl | rfl | rfl | hb' | hb' | ⟨p, k, hne, hb'⟩)
    · exact .inl (hF _ (.inl rfl))
    · exact .inl (hF _ (.inr (.inl rfl)))
    · exact .inl (hF _ (.inr (.inr (.inl rfl))))
    · exact .inl (hF _ (.inr (.inr (.inr (.inl hb')))))
    · right
      rcases hown.2 with ⟨hv, _⟩ | ⟨g, cap, cur, hv, hg, hcur, _⟩
      · cases hv; cases hb'
      · cases hv; cases hb'; exact hg
    · exact .inl (hF _ (.inr (.inr (.inr (.inr (.inr ⟨p, k, hne, hb'⟩))))))
  · refine (Mods.of_below hb).trans ⟨rfl, rfl, rfl, by simp, fun k hk hs => Below.heap_setCell _ _ _ _ (fun e => hs ?_)⟩
    rw [e]; exact hF _ (.inl rfl)

theorem look_find {α : Type} (enc : α → Value) (key : α → QId) (l : List α) (x : QId) : look (l.map fun o => (key o, enc o)) x = (l.find? fun o => decide (key o = x)).map enc := by
  unfold look
  rw [List.find?_map]
  have e : ((fun p : QId × Value => decide (p.1 = x)) ∘ fun o => (key o, enc o)) = fun o => decide (key o = x) := rfl
  rw [e]
  cases List.find? (fun o => decide (key o = x)) l <;> rfl

/-- what m.all[id] reads. -/
theorem look_all {w : World} {bm : Nat} {L : MLay} {M : QMaps} (h : MapsAt w bm L M) (i : QId) (c : Bool) :
    (Instr.lookup 65 (.map (some L.all)) (idV i) c).run Try.prog w = .ok (if c then .tuple #[opV ((M.at_ i).getD opZero), .bool (M.has i)] else opV ((M.at_ i).getD opZero)) w := by
  have := run_look (T := 65) (E := 41) idKey (by kernel_rfl) (z := opV opZero) (fun w => by kernel_rfl) h.all i c
  rw [this, look_find opV QOp.id]
  unfold QMaps.has QMaps.at_
  cases List.find? (fun o : QOp => decide (o.id = i)) M.ops <;> rfl

theorem field_opV (o : QOp) (w : World) : (Instr.field 41 (.agg #[.int .u64 o.id.c, .int .u64 o.id.k, .int .i64 o.kind, .int .u64 o.stamp, .int .u64 o.left.c, .int .u64 o.left.k, .int .u64 o.right.c, .int .u64 o.right.k, .string o.text, .int .i64 o.v.kind, .int .i64 o.v.n, .float .f64 o.v.f, .string o.v.s, .string o.key, .int .u64 o.parent.c, .int .u64 o.parent.k, .int .u64 o.frm.c, .int .u64 o.frm.k, .bool o.frmA, .int .u64 o.til.c, .int .u64 o.til.k, .bool o.tilA]) 6).run Try.prog w = .ok (.agg #[.int .i64 o.v.kind, .int .i64 o.v.n, .float .f64 o.v.f, .string o.v.s]) w := by kernel_rfl
theorem field_opKind (o : QOp) (w : World) : (Instr.field 41 (.agg #[.int .u64 o.id.c, .int .u64 o.id.k, .int .i64 o.kind, .int .u64 o.stamp, .int .u64 o.left.c, .int .u64 o.left.k, .int .u64 o.right.c, .int .u64 o.right.k, .string o.text, .int .i64 o.v.kind, .int .i64 o.v.n, .float .f64 o.v.f, .string o.v.s, .string o.key, .int .u64 o.parent.c, .int .u64 o.parent.k, .int .u64 o.frm.c, .int .u64 o.frm.k, .bool o.frmA, .int .u64 o.til.c, .int .u64 o.til.k, .bool o.tilA]) 1).run Try.prog w = .ok (.int .i64 o.kind) w := by kernel_rfl
theorem field_valKind (v : QVal) (w : World) : (Instr.field 37 (.agg #[.int .i64 v.kind, .int .i64 v.n, .float .f64 v.f, .string v.s]) 0).run Try.prog w = .ok (.int .i64 v.kind) w := by kernel_rfl

set_option maxHeartbeats 400000 in
theorem mapsIs_any (F : Nat → Prop) (bm : Nat) (M : QMaps) (i : QId) (w : World) (hm : MapsIn w F bm M) :
    Calls Try.prog 11 #[.pointer (some ⟨bm, 0, none⟩), .agg #[.int .u64 i.c, .int .u64 i.k]] w fun e w' => e = .returned (.bool (M.isMap i)) ∧ Below w.heap.size w w' := by
  obtain ⟨L, hL, hF⟩ := hm
  have hB : Below w.heap.size w (w.alloc (.cells #[.int .u64 i.c, .int .u64 i.k] 34)) := by (repeat (first | exact Below.refl _ _ | assumption | refine Below.alloc ?_ (by simp <;> omega) _ | refine Below.drew ?_ | refine below_drewN ?_ _ | refine Below.setCell ?_ (by simp <;> omega) _ | refine belowTrans ?_ (by assumption)))
  have hL1 := hL.below hB
  have c0 : (w.alloc (.cells #[.int .u64 i.c, .int .u64 i.k] 34)).cell? ⟨bm, 0, none⟩ = some (.map (some L.all)) := by simp [World.cell?, hL1.st]
  have hlk : ∀ n, (Instr.lookup 65 (.map (some L.all)) (.agg #[.int .u64 i.c, .int .u64 i.k]) false).run Try.prog ((w.alloc (.cells #[.int .u64 i.c, .int .u64 i.k] 34)).drewN n) = .ok (.agg #[.int .u64 ((M.at_ i).getD opZero).id.c, .int .u64 ((M.at_ i).getD opZero).id.k, .int .i64 ((M.at_ i).getD opZero).kind, .int .u64 ((M.at_ i).getD opZero).stamp, .int .u64 ((M.at_ i).getD opZero).left.c, .int .u64 ((M.at_ i).getD opZero).left.k, .int .u64 ((M.at_ i).getD opZero).right.c, .int .u64 ((M.at_ i).getD opZero).right.k, .string ((M.at_ i).getD opZero).text, .int .i64 ((M.at_ i).getD opZero).v.kind, .int .i64 ((M.at_ i).getD opZero).v.n, .float .f64 ((M.at_ i).getD opZero).v.f, .string ((M.at_ i).getD opZero).v.s, .string ((M.at_ i).getD opZero).key, .int .u64 ((M.at_ i).getD opZero).parent.c, .int .u64 ((M.at_ i).getD opZero).parent.k, .int .u64 ((M.at_ i).getD opZero).frm.c, .int .u64 ((M.at_ i).getD opZero).frm.k, .bool ((M.at_ i).getD opZero).frmA, .int .u64 ((M.at_ i).getD opZero).til.c, .int .u64 ((M.at_ i).getD opZero).til.k, .bool ((M.at_ i).getD opZero).tilA]) ((w.alloc (.cells #[.int .u64 i.c, .int .u64 i.k] 34)).drewN n) :=
    fun n => look_all (w := (w.alloc (.cells #[.int .u64 i.c, .int .u64 i.k] 34)).drewN n) (hL1.below (below_drewN (Below.refl _ _) n)) i false
  have hres : M.isMap i = (decide (i = idZero) || (decide (((M.at_ i).getD opZero).v.kind = 5) && decide (((M.at_ i).getD opZero).kind = 4))) := by
    unfold QMaps.isMap
    cases M.at_ i <;> simp [opZero, valZero]
  rw [hres]
  clear hres hL hL1 hF
  generalize (M.at_ i).getD opZero = o at hlk ⊢
  have f6 := field_opV o
  have f1 := field_opKind o
  have f0 := field_valKind o.v
  by_cases h0 : i = idZero
  · subst h0
    simp only [idZero] at hlk c0 hB ⊢
    go_enter Try.func11, Try.ntmps11
    go_wp2
    go_quiet (fail)
    go_wp2
    go_ret
    exact ⟨ret_bool (by simp), by (repeat (first | exact Below.refl _ _ | assumption | refine Below.alloc ?_ (by simp <;> omega) _ | refine Below.drew ?_ | refine below_drewN ?_ _ | refine Below.setCell ?_ (by simp <;> omega) _ | refine belowTrans ?_ (by assumption)))⟩
  · have hz : decide (i = idZero) = false := by simp [h0]
    rw [hz, Bool.false_or]
    obtain ⟨ic, ik⟩ := i
    have hcase : (ic ≠ 0) ∨ (ic = 0 ∧ ik ≠ 0) := by
      by_cases h1 : ic = 0
      · refine .inr ⟨h1, fun h2 => h0 ?_⟩
        rw [h1, h2]; rfl
      · exact .inl h1
    clear hz h0
    rcases hcase with h1 | ⟨rfl, h2⟩
    · have e1 : (ic == 0) = false := by simpa using h1
      cases t1 : (o.v.kind == 5)
      · go_enter Try.func11, Try.ntmps11
        go_wp2
        go_quiet (fail)
        go_wp2
        go_ret
        exact ⟨ret_bool (by simp at t1; first | (simp [t1]; done) | (simp [t1]; rfl)), by (repeat (first | exact Below.refl _ _ | assumption | refine Below.alloc ?_ (by simp <;> omega) _ | refine Below.drew ?_ | refine below_drewN ?_ _ | refine Below.setCell ?_ (by simp <;> omega) _ | refine belowTrans ?_ (by assumption)))⟩
      · go_enter Try.func11, Try.ntmps11
        go_wp2
        go_quiet (fail)
        go_wp2
        go_ret
        exact ⟨ret_bool (by simp at t1; first | (simp [t1]; done) | (simp [t1]; rfl)), by (repeat (first | exact Below.refl _ _ | assumption | refine Below.alloc ?_ (by simp <;> omega) _ | refine Below.drew ?_ | refine below_drewN ?_ _ | refine Below.setCell ?_ (by simp <;> omega) _ | refine belowTrans ?_ (by assumption)))⟩
    · have e1 : (ik == 0) = false := by simpa using h2
      cases t1 : (o.v.kind == 5)
      · go_enter Try.func11, Try.ntmps11
        go_wp2
        go_quiet (fail)
        go_wp2
        go_ret
        exact ⟨ret_bool (by simp at t1; first | (simp [t1]; done) | (simp [t1]; rfl)), by (repeat (first | exact Below.refl _ _ | assumption | refine Below.alloc ?_ (by simp <;> omega) _ | refine Below.drew ?_ | refine below_drewN ?_ _ | refine Below.setCell ?_ (by simp <;> omega) _ | refine belowTrans ?_ (by assumption)))⟩
      · go_enter Try.func11, Try.ntmps11
        go_wp2
        go_quiet (fail)
        go_wp2
        go_ret
        exact ⟨ret_bool (by simp at t1; first | (simp [t1]; done) | (simp [t1]; rfl)), by (repeat (first | exact Below.refl _ _ | assumption | refine Below.alloc ?_ (by simp <;> omega) _ | refine Below.drew ?_ | refine below_drewN ?_ _ | refine Below.setCell ?_ (by simp <;> omega) _ | refine belowTrans ?_ (by assumption)))⟩
end Go.Proofs.Yteadongdlacgmaa
