/- Walks: maps.New, Hide, Is. -/
import Derived.Test.YthhbiliimdpgmaaGreatDoorM15
import Derived.Test.YthhbiliimdpgmaaGreatDoorM04
namespace Go.Proofs.YthhbiliimdpgmaaGreatDoor
open Go.RowKit

def QMaps.empty : QMaps := ⟨[], []⟩

theorem MapK.empty {κ : Type} {enc : κ → Value} {w : World} {r : Nat} (h : w.heap[r]? = some (.map #[] 0)) : MapK enc w r [] := ⟨#[], 0, h, rfl, by simp, by simp, by simp⟩

set_option maxHeartbeats 400000 in
theorem mapsNew_any (w : World) :
    Calls Tryz.prog 15 #[] w fun e w' => e = .returned (.pointer (some ⟨w.heap.size + 2, 0, none⟩)) ∧ MapsIn w' (fun b => w.heap.size ≤ b) (w.heap.size + 2) QMaps.empty ∧ Below w.heap.size w w' := by
  have hmm := @run_makeMap Tryz.prog
  go_enter Tryz.func15, Tryz.ntmps15
  go_wp2
  go_ret
  refine ⟨rfl, ⟨⟨w.heap.size, w.heap.size + 1, .slice none 0 0, [], fun _ _ => .slice none 0 0⟩, ?_, ?_⟩, by (repeat (first | exact Below.refl _ _ | assumption | refine Below.alloc ?_ (by simp <;> omega) _ | refine Below.drew ?_ | refine below_drewN ?_ _ | refine Below.setCell ?_ (by simp <;> omega) _ | refine belowTrans ?_ (by assumption)))⟩
  · refine { st := ?_, hid := ⟨[], OwnAt.nil, fun i => rfl⟩, all := MapK.empty ?_, inn := MapK.empty ?_, par := rfl, inner := by simp, rows := ?_, sep := by simp, rsep := ?_ }
    · rw [alloc_heap_if, if_pos (by simp)]
    · rw [alloc_heap_if, if_neg (by simp; omega), alloc_heap_if, if_neg (by simp), alloc_heap_if, if_pos rfl]
    · rw [alloc_heap_if, if_neg (by simp), alloc_heap_if, if_pos (by simp)]
    · intro p k h; exact absurd rfl h
    · intro p k _ _ h; exact absurd rfl h
  · rintro b (rfl | rfl | rfl | hb | hb | ⟨p, k, hne, hb⟩)
    · simp
    · simp
    · simp
    · simp at hb
    · cases hb
    · exact absurd rfl hne

theorem ownsRow_shape {w : World} {base e size n : Nat} {v : Value} {xs : List Value} (h : w.ownsRow base e size v n xs) : ∃ p m cap, v = .slice p m cap := by
  rcases h.2 with ⟨hv, _⟩ | ⟨g, cap, cur, hv, _⟩
  · exact ⟨_, _, _, hv⟩
  · exact ⟨_, _, _, hv⟩
theorem MapK.ne {κ : Type} {enc : κ → Value} {w : World} {r b : Nat} {l : List (κ × Value)} {c : Array Value} {t : TypeId} {f : Nat × Nat} (h : MapK enc w r l) (hb : w.heap[b]? = some (.cells c t f)) : r ≠ b := by
  obtain ⟨es, clock, h1, _⟩ := h
  rintro rfl
  rw [h1] at hb; cases hb
theorem ownsRow_ne {w : World} {base e size n b : Nat} {v : Value} {xs : List Value} {c : Array Value} {t : TypeId} {f : Nat × Nat} (h : w.ownsRow base e size v n xs) (hb : w.heap[b]? = some (.cells c t f)) (ht : t ≠ e) : v.ownBlock ≠ some b := by
  intro e1
  rcases h.2 with ⟨hv, _⟩ | ⟨g, cap, cur, hv, hg, hcur, _⟩
  · rw [hv] at e1; cases e1
  · rw [hv] at e1; cases e1
    rw [hcur] at hb; cases hb; exact ht rfl

/-- another list of hidden ones is laid into the object. -/
theorem MapsAt.hide {w : World} {bm : Nat} {L : MLay} {M : QMaps} (h : MapsAt w bm L M) (v : Value) (H l : List QRng) (hv : OwnAt 0 95 3 encRng w v H) (hH : ∀ i, hasRngs H i = hasRngs l i) :
    MapsAt (w.setCell ⟨bm, 2, none⟩ v) bm { L with hv := v } { M with hidden := l } where
  st := by simp [World.setCell, Array.getElem?_modify, h.st]
  hid := ⟨H, ownsRow_blk hv (fun b e => Below.heap_setCell _ _ _ _ (fun e2 => ownsRow_ne hv h.st (by decide) (by rw [e]; exact congrArg some e2))), hH⟩
  all := h.all.blk (Below.heap_setCell _ _ _ _ (h.all.ne h.st))
  inn := h.inn.blk (Below.heap_setCell _ _ _ _ (h.inn.ne h.st))
  par := h.par
  inner p hp := (h.inner p hp).blk (Below.heap_setCell _ _ _ _ ((h.inner p hp).ne h.st))
  rows p k hne := ownsRow_blk (h.rows p k hne) (fun b e => Below.heap_setCell _ _ _ _ (fun e2 => ownsRow_ne (h.rows p k hne) h.st (by decide) (by rw [e]; exact congrArg some e2)))
  sep := h.sep
  rsep := h.rsep

set_option maxHeartbeats 400000 in
theorem hide_any (F : Nat → Prop) (bm : Nat) (M : QMaps) (sv : Value) (l : List QRng) (w : World) (hm : MapsIn w F bm M) (hl : SliceAt 3 encRng w sv l) (hlen : l.length * 24 ≤ 140737488355328) (hsv : sv.oneCell' = true) :
    Calls Tryz.prog 24 #[.pointer (some ⟨bm, 0, none⟩), sv] w fun e w' => e = .returned (.tuple #[]) ∧ MapsIn w' (fun b => F b ∨ w.heap.size ≤ b) bm { M with hidden := l } ∧ Mods F w w' := by
  obtain ⟨L, hL, hF⟩ := hm
  have hc := clean_any sv l w hl hlen hsv
  go_enter Tryz.func24, Tryz.ntmps24
  go_wp2_with (go_at_call 39; refine hc.mono ?_; rintro e w1 ⟨hv, rfl, d, hperm, hpw, hown, hb⟩; have hL1 := hL.below hb; obtain ⟨p, m, cap, rfl⟩ := ownsRow_shape hown; have c2 : w1.cell? ⟨bm, 2, none⟩ = some L.hv := by { simp [World.cell?, hL1.st] }; have f2 : w1.frozen? ⟨bm, 2, none⟩ = false := by { simp [World.frozen?, hL1.st] })
  go_end0
  refine ⟨rfl, ⟨_, hL1.hide _ _ l (ownsRow_base hown (Nat.zero_le _)) (fun i => join_has hperm hpw i), ?_⟩, ?_⟩
  · rintro b (rfl | rfl | rfl | hb' | hb' | ⟨p, k, hne, hb'⟩)
    · exact .inl (hF _ (.inl rfl))
    · exact .inl (hF _ (.inr (.inl rfl)))
    · exact .inl (hF _ (.inr (.inr (.inl rfl))))
    · exact .inl (hF _ (.inr (.inr (.inr (.inl hb')))))
    · right
      rcases hown.2 with ⟨hv, _⟩ | ⟨g, cap, cur, hv, hg, hcur, _⟩
      · cases hv; cases hb'
      · cases hv; cases hb'; exact hg
    · exact .inl (hF _ (.inr (.inr (.inr (.inr (.inr ⟨p, k, hne, hb'⟩))))))
  · refine (Mods.of_below hb).trans ⟨rfl, rfl, rfl, by simp, fun k hk hs => Below.heap_setCell _ _ _ _ (fun e => hs ?_)⟩
    rw [e]; exact hF _ (.inl rfl)

theorem look_find {α : Type} (enc : α → Value) (key : α → QId) (l : List α) (x : QId) : look (l.map fun o => (key o, enc o)) x = (l.find? fun o => decide (key o = x)).map enc := by
  unfold look
  rw [List.find?_map]
  have e : ((fun p : QId × Value => decide (p.1 = x)) ∘ fun o => (key o, enc o)) = fun o => decide (key o = x) := rfl
  rw [e]
  cases List.find? (fun o => decide (key o = x)) l <;> rfl

/-- what m.all[id] reads. -/
theorem look_all {w : World} {bm : Nat} {L : MLay} {M : QMaps} (h : MapsAt w bm L M) (i : QId) (c : Bool) :
    (Instr.lookup 59 (.map (some L.all)) (idV i) c).run Tryz.prog w = .ok (if c then .tuple #[opV ((M.at_ i).getD opZero), .bool (M.has i)] else opV ((M.at_ i).getD opZero)) w := by
  have := run_look (T := 59) (E := 35) idKey (by kernel_rfl) (z := opV opZero) (fun w => by kernel_rfl) h.all i c
  rw [this, look_find opV QOp.id]
  unfold QMaps.has QMaps.at_
  cases List.find? (fun o : QOp => decide (o.id = i)) M.ops <;> rfl

theorem field_opV (o : QOp) (w : World) : (Instr.field 35 (.agg #[.int .u64 o.id.c, .int .u64 o.id.k, .int .i64 o.kind, .int .u64 o.stamp, .int .u64 o.left.c, .int .u64 o.left.k, .int .u64 o.right.c, .int .u64 o.right.k, .string o.text, .int .i64 o.v.kind, .int .i64 o.v.n, .float .f64 o.v.f, .string o.v.s, .string o.key, .int .u64 o.parent.c, .int .u64 o.parent.k, .int .u64 o.frm.c, .int .u64 o.frm.k, .bool o.frmA, .int .u64 o.til.c, .int .u64 o.til.k, .bool o.tilA]) 6).run Tryz.prog w = .ok (.agg #[.int .i64 o.v.kind, .int .i64 o.v.n, .float .f64 o.v.f, .string o.v.s]) w := by kernel_rfl
theorem field_opKind (o : QOp) (w : World) : (Instr.field 35 (.agg #[.int .u64 o.id.c, .int .u64 o.id.k, .int .i64 o.kind, .int .u64 o.stamp, .int .u64 o.left.c, .int .u64 o.left.k, .int .u64 o.right.c, .int .u64 o.right.k, .string o.text, .int .i64 o.v.kind, .int .i64 o.v.n, .float .f64 o.v.f, .string o.v.s, .string o.key, .int .u64 o.parent.c, .int .u64 o.parent.k, .int .u64 o.frm.c, .int .u64 o.frm.k, .bool o.frmA, .int .u64 o.til.c, .int .u64 o.til.k, .bool o.tilA]) 1).run Tryz.prog w = .ok (.int .i64 o.kind) w := by kernel_rfl
theorem field_valKind (v : QVal) (w : World) : (Instr.field 31 (.agg #[.int .i64 v.kind, .int .i64 v.n, .float .f64 v.f, .string v.s]) 0).run Tryz.prog w = .ok (.int .i64 v.kind) w := by kernel_rfl

set_option maxHeartbeats 400000 in
theorem mapsIs_any (F : Nat → Prop) (bm : Nat) (M : QMaps) (i : QId) (w : World) (hm : MapsIn w F bm M) :
    Calls Tryz.prog 152 #[.pointer (some ⟨bm, 0, none⟩), .agg #[.int .u64 i.c, .int .u64 i.k]] w fun e w' => e = .returned (.bool (M.isMap i)) ∧ Below w.heap.size w w' := by
  obtain ⟨L, hL, hF⟩ := hm
  have hB : Below w.heap.size w (w.alloc (.cells #[.int .u64 i.c, .int .u64 i.k] 28)) := by (repeat (first | exact Below.refl _ _ | assumption | refine Below.alloc ?_ (by simp <;> omega) _ | refine Below.drew ?_ | refine below_drewN ?_ _ | refine Below.setCell ?_ (by simp <;> omega) _ | refine belowTrans ?_ (by assumption)))
  have hL1 := hL.below hB
  have c0 : (w.alloc (.cells #[.int .u64 i.c, .int .u64 i.k] 28)).cell? ⟨bm, 0, none⟩ = some (.map (some L.all)) := by simp [World.cell?, hL1.st]
  have hlk : ∀ n, (Instr.lookup 59 (.map (some L.all)) (.agg #[.int .u64 i.c, .int .u64 i.k]) false).run Tryz.prog ((w.alloc (.cells #[.int .u64 i.c, .int .u64 i.k] 28)).drewN n) = .ok (.agg #[.int .u64 ((M.at_ i).getD opZero).id.c, .int .u64 ((M.at_ i).getD opZero).id.k, .int .i64 ((M.at_ i).getD opZero).kind, .int .u64 ((M.at_ i).getD opZero).stamp, .int .u64 ((M.at_ i).getD opZero).left.c, .int .u64 ((M.at_ i).getD opZero).left.k, .int .u64 ((M.at_ i).getD opZero).right.c, .int .u64 ((M.at_ i).getD opZero).right.k, .string ((M.at_ i).getD opZero).text, .int .i64 ((M.at_ i).getD opZero).v.kind, .int .i64 ((M.at_ i).getD opZero).v.n, .float .f64 ((M.at_ i).getD opZero).v.f, .string ((M.at_ i).getD opZero).v.s, .string ((M.at_ i).getD opZero).key, .int .u64 ((M.at_ i).getD opZero).parent.c, .int .u64 ((M.at_ i).getD opZero).parent.k, .int .u64 ((M.at_ i).getD opZero).frm.c, .int .u64 ((M.at_ i).getD opZero).frm.k, .bool ((M.at_ i).getD opZero).frmA, .int .u64 ((M.at_ i).getD opZero).til.c, .int .u64 ((M.at_ i).getD opZero).til.k, .bool ((M.at_ i).getD opZero).tilA]) ((w.alloc (.cells #[.int .u64 i.c, .int .u64 i.k] 28)).drewN n) :=
    fun n => look_all (w := (w.alloc (.cells #[.int .u64 i.c, .int .u64 i.k] 28)).drewN n) (hL1.below (below_drewN (Below.refl _ _) n)) i false
  have hres : M.isMap i = (decide (i = idZero) || (decide (((M.at_ i).getD opZero).v.kind = 5) && decide (((M.at_ i).getD opZero).kind = 4))) := by
    unfold QMaps.isMap
    cases M.at_ i <;> simp [opZero, valZero]
  rw [hres]
  clear hres hL hL1 hF
  generalize (M.at_ i).getD opZero = o at hlk ⊢
  have f6 := field_opV o
  have f1 := field_opKind o
  have f0 := field_valKind o.v
  by_cases h0 : i = idZero
  · subst h0
    simp only [idZero] at hlk c0 hB ⊢
    go_enter Tryz.func152, Tryz.ntmps152
    go_wp2
    go_quiet (fail)
    go_wp2
    go_ret
    exact ⟨ret_bool (by simp), by (repeat (first | exact Below.refl _ _ | assumption | refine Below.alloc ?_ (by simp <;> omega) _ | refine Below.drew ?_ | refine below_drewN ?_ _ | refine Below.setCell ?_ (by simp <;> omega) _ | refine belowTrans ?_ (by assumption)))⟩
  · have hz : decide (i = idZero) = false := by simp [h0]
    rw [hz, Bool.false_or]
    obtain ⟨ic, ik⟩ := i
    have hcase : (ic ≠ 0) ∨ (ic = 0 ∧ ik ≠ 0) := by
      by_cases h1 : ic = 0
      · refine .inr ⟨h1, fun h2 => h0 ?_⟩
        rw [h1, h2]; rfl
      · exact .inl h1
    clear hz h0
    rcases hcase with h1 | ⟨rfl, h2⟩
    · have e1 : (ic == 0) = false := by simpa using h1
      cases t1 : (o.v.kind == 5)
      · go_enter Tryz.func152, Tryz.ntmps152
        go_wp2
        go_quiet (fail)
        go_wp2
        go_ret
        exact ⟨ret_bool (by simp at t1; first | (simp [t1]; done) | (simp [t1]; rfl)), by (repeat (first | exact Below.refl _ _ | assumption | refine Below.alloc ?_ (by simp <;> omega) _ | refine Below.drew ?_ | refine below_drewN ?_ _ | refine Below.setCell ?_ (by simp <;> omega) _ | refine belowTrans ?_ (by assumption)))⟩
      · go_enter Tryz.func152, Tryz.ntmps152
        go_wp2
        go_quiet (fail)
        go_wp2
        go_ret
        exact ⟨ret_bool (by simp at t1; first | (simp [t1]; done) | (simp [t1]; rfl)), by (repeat (first | exact Below.refl _ _ | assumption | refine Below.alloc ?_ (by simp <;> omega) _ | refine Below.drew ?_ | refine below_drewN ?_ _ | refine Below.setCell ?_ (by simp <;> omega) _ | refine belowTrans ?_ (by assumption)))⟩
    · have e1 : (ik == 0) = false := by simpa using h2
      cases t1 : (o.v.kind == 5)
      · go_enter Tryz.func152, Tryz.ntmps152
        go_wp2
        go_quiet (fail)
        go_wp2
        go_ret
        exact ⟨ret_bool (by simp at t1; first | (simp [t1]; done) | (simp [t1]; rfl)), by (repeat (first | exact Below.refl _ _ | assumption | refine Below.alloc ?_ (by simp <;> omega) _ | refine Below.drew ?_ | refine below_drewN ?_ _ | refine Below.setCell ?_ (by simp <;> omega) _ | refine belowTrans ?_ (by assumption)))⟩
      · go_enter Tryz.func152, Tryz.ntmps152
        go_wp2
        go_quiet (fail)
        go_wp2
        go_ret
        exact ⟨ret_bool (by simp at t1; first | (simp [t1]; done) | (simp [t1]; rfl)), by (repeat (first | exact Below.refl _ _ | assumption | refine Below.alloc ?_ (by simp <;> omega) _ | refine Below.drew ?_ | refine below_drewN ?_ _ | refine Below.setCell ?_ (by simp <;> omega) _ | refine belowTrans ?_ (by assumption)))⟩
end Go.Proofs.YthhbiliimdpgmaaGreatDoor
/- A new document in memory; doc.New. -/
namespace Go.Proofs.YthhbiliimdpgmaaGreatDoor
open Go.RowKit Go.Lib

def noS : Value := .slice none 0 0
def sLay0 (n : Nat) : SLay := ⟨n, fun _ => noS, noS, noS⟩
def mLay0 (n : Nat) : MLay := ⟨n + 8, n + 9, noS, [], fun _ _ => noS⟩
/-- a document at n + 11, its parts in the blocks from n on, below n + 12: what is known, what waits, the held ranges, the void ones, the stamp. -/
structure DocC (n : Nat) (w : World) (kl : List (Int × Value)) (wl : List (QId × Value)) (hv vv : Value) (s : Int) : Prop where
  kn : MapK u64V w (n + 2) kl
  wt : MapK idV w (n + 3) wl
  dc : w.heap[n + 11]? = some (.cells #[.pointer (some ⟨n + 1, 0, none⟩), .map (some (n + 2)), noS, noS, .map (some (n + 3)), hv, .pointer (some ⟨n + 6, 0, none⟩), .map (some (n + 7)), noS, .pointer (some ⟨n + 10, 0, none⟩), vv, .int .u64 s] 67 (0, 0))
theorem DocC.keep {n : Nat} {w w' : World} {kl : List (Int × Value)} {wl : List (QId × Value)} {hv vv : Value} {s : Int} (h : DocC n w kl wl hv vv s) (hb : ∀ b, b = n + 2 ∨ b = n + 3 ∨ b = n + 11 → w'.heap[b]? = w.heap[b]?) : DocC n w' kl wl hv vv s where
  kn := h.kn.blk (hb _ (by omega))
  wt := h.wt.blk (hb _ (by omega))
  dc := (hb _ (by omega)).trans h.dc
theorem DocC.cell {n : Nat} {w : World} {kl : List (Int × Value)} {wl : List (QId × Value)} {hv vv : Value} {s : Int} (h : DocC n w kl wl hv vv s) (k : Nat) (v : Value)
    (hk : (#[Value.pointer (some ⟨n + 1, 0, none⟩), .map (some (n + 2)), noS, noS, .map (some (n + 3)), hv, .pointer (some ⟨n + 6, 0, none⟩), .map (some (n + 7)), noS, .pointer (some ⟨n + 10, 0, none⟩), vv, .int .u64 s])[k]? = some v) : w.cell? ⟨n + 11, k, none⟩ = some v := by
  simp only [World.cell?, h.dc]
  simpa using hk
theorem DocC.lt {n : Nat} {w : World} {kl : List (Int × Value)} {wl : List (QId × Value)} {hv vv : Value} {s : Int} (h : DocC n w kl wl hv vv s) : n + 11 < w.heap.size := (Array.getElem?_eq_some_iff.1 h.dc).1
theorem DocC.frz {n : Nat} {w : World} {kl : List (Int × Value)} {wl : List (QId × Value)} {hv vv : Value} {s : Int} (h : DocC n w kl wl hv vv s) (k : Nat) : w.frozen? ⟨n + 11, k, none⟩ = false := by
  simp only [World.frozen?, h.dc]
  simp
def StoreZ (n : Nat) (w : World) : Prop := StoreAt w (n + 1) (sLay0 n) [] [] []
theorem StoreZ.keep {n : Nat} {w w' : World} (h : StoreZ n w) (hb : ∀ b, b = n ∨ b = n + 1 → w'.heap[b]? = w.heap[b]?) : StoreZ n w' :=
  StoreAt.keep h fun b hf => by
    rcases hf with e | e | ⟨p, hp, _⟩ | e | e
    · exact hb _ (by omega)
    · have e' : b = n := e
      exact hb _ (by omega)
    · cases hp
    · cases e
    · cases e
/-- a sequence without units at n + 6. -/
structure SeqZ (n : Nat) (w : World) : Prop where
  all : MapK idV w (n + 4) []
  at_ : MapK idV w (n + 5) []
  sq : w.heap[n + 6]? = some (.cells #[.map (some (n + 4)), noS, noS, .map (some (n + 5)), .bool true] 87 (0, 0))
theorem SeqZ.keep {n : Nat} {w w' : World} (h : SeqZ n w) (hb : ∀ b, b = n + 4 ∨ b = n + 5 ∨ b = n + 6 → w'.heap[b]? = w.heap[b]?) : SeqZ n w' where
  all := h.all.blk (hb _ (by omega))
  at_ := h.at_.blk (hb _ (by omega))
  sq := (hb _ (by omega)).trans h.sq
def MapsZ (n : Nat) (w : World) : Prop := MapsAt w (n + 10) (mLay0 n) QMaps.empty
theorem MapsZ.keep {n : Nat} {w w' : World} (h : MapsZ n w) (hb : ∀ b, b = n + 8 ∨ b = n + 9 ∨ b = n + 10 → w'.heap[b]? = w.heap[b]?) : MapsZ n w' :=
  MapsAt.keep h fun b hf => by
    rcases hf with e | e | e | hp | e | ⟨p, k, hne, _⟩
    · exact hb _ (by omega)
    · have e' : b = n + 8 := e
      exact hb _ (by omega)
    · have e' : b = n + 9 := e
      exact hb _ (by omega)
    · cases hp
    · cases e
    · exact absurd rfl hne
/-- a new document. -/
structure DocZ (n : Nat) (w : World) : Prop where
  c : DocC n w [] [] noS noS 0
  ss : StoreZ n w
  sq : SeqZ n w
  un : MapK idV w (n + 7) []
  ms : MapsZ n w
theorem DocZ.keep {n : Nat} {w w' : World} (h : DocZ n w) (hb : ∀ b, n ≤ b → b < n + 12 → w'.heap[b]? = w.heap[b]?) : DocZ n w' where
  c := h.c.keep fun b g => hb b (by omega) (by omega)
  ss := h.ss.keep fun b g => hb b (by omega) (by omega)
  sq := h.sq.keep fun b g => hb b (by omega) (by omega)
  un := h.un.blk (hb _ (by omega) (by omega))
  ms := h.ms.keep fun b g => hb b (by omega) (by omega)
theorem docNew_any (w : World) :
    Calls Tryz.prog 6 #[] w fun e w' => e = .returned (.pointer (some ⟨w.heap.size + 11, 0, none⟩)) ∧ DocZ w.heap.size w' ∧ w'.heap.size = w.heap.size + 12 ∧ Below w.heap.size w w' := by
  have hmm := @run_makeMap Tryz.prog
  go_enter Tryz.func6, Tryz.ntmps6
  go_wp2
  go_ret
  refine ⟨rfl, ?_, by simp, by (repeat (first | exact Below.refl _ _ | assumption | refine Below.alloc ?_ (by simp <;> omega) _ | refine Below.drew ?_ | refine below_drewN ?_ _ | refine Below.setCell ?_ (by simp <;> omega) _ | refine belowTrans ?_ (by assumption)))⟩
  exact {
    c := { kn := MapK.empty (by (simp only [alloc_heap_if, World.size_alloc]; repeat (first | rw [if_pos rfl] | rw [if_pos trivial] | rw [if_pos (by omega)] | rw [if_neg (by omega)]))), wt := MapK.empty (by (simp only [alloc_heap_if, World.size_alloc]; repeat (first | rw [if_pos rfl] | rw [if_pos trivial] | rw [if_pos (by omega)] | rw [if_neg (by omega)]))), dc := by (simp only [alloc_heap_if, World.size_alloc]; repeat (first | rw [if_pos rfl] | rw [if_pos trivial] | rw [if_pos (by omega)] | rw [if_neg (by omega)])) <;> rfl }
    ss := { st := by (simp only [alloc_heap_if, World.size_alloc]; repeat (first | rw [if_pos rfl] | rw [if_pos trivial] | rw [if_pos (by omega)] | rw [if_neg (by omega)])) <;> rfl, map := MapK.empty (by show (World.heap _)[w.heap.size]? = _; (simp only [alloc_heap_if, World.size_alloc]; repeat (first | rw [if_pos rfl] | rw [if_pos trivial] | rw [if_pos (by omega)] | rw [if_neg (by omega)])) <;> rfl), keys := by simp, rows := by simp, waits := OwnAt.nil, held := OwnAt.nil, rsep := by simp, wsep := by simp }
    sq := { all := MapK.empty (by (simp only [alloc_heap_if, World.size_alloc]; repeat (first | rw [if_pos rfl] | rw [if_pos trivial] | rw [if_pos (by omega)] | rw [if_neg (by omega)]))), at_ := MapK.empty (by (simp only [alloc_heap_if, World.size_alloc]; repeat (first | rw [if_pos rfl] | rw [if_pos trivial] | rw [if_pos (by omega)] | rw [if_neg (by omega)]))), sq := by (simp only [alloc_heap_if, World.size_alloc]; repeat (first | rw [if_pos rfl] | rw [if_pos trivial] | rw [if_pos (by omega)] | rw [if_neg (by omega)])) <;> rfl }
    un := MapK.empty (by (simp only [alloc_heap_if, World.size_alloc]; repeat (first | rw [if_pos rfl] | rw [if_pos trivial] | rw [if_pos (by omega)] | rw [if_neg (by omega)])))
    ms := { st := by (simp only [alloc_heap_if, World.size_alloc]; repeat (first | rw [if_pos rfl] | rw [if_pos trivial] | rw [if_pos (by omega)] | rw [if_neg (by omega)])) <;> rfl, hid := ⟨[], OwnAt.nil, fun i => rfl⟩, all := MapK.empty (by show (World.heap _)[w.heap.size + 8]? = _; (simp only [alloc_heap_if, World.size_alloc]; repeat (first | rw [if_pos rfl] | rw [if_pos trivial] | rw [if_pos (by omega)] | rw [if_neg (by omega)])) <;> rfl), inn := MapK.empty (by show (World.heap _)[w.heap.size + 9]? = _; (simp only [alloc_heap_if, World.size_alloc]; repeat (first | rw [if_pos rfl] | rw [if_pos trivial] | rw [if_pos (by omega)] | rw [if_neg (by omega)])) <;> rfl), par := rfl, inner := by simp [mLay0], rows := fun p k h => absurd rfl h, sep := by simp [mLay0], rsep := fun p k _ _ h => absurd rfl h } }
end Go.Proofs.YthhbiliimdpgmaaGreatDoor
