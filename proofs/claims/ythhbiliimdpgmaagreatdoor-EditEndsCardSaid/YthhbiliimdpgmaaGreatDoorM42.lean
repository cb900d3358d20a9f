/- Walks: Units of a document without deletes: the units of its sequence, in order. -/
import Derived.Test.YthhbiliimdpgmaaGreatDoorM27
import Derived.Test.YthhbiliimdpgmaaGreatDoorM23
import Derived.Test.YthhbiliimdpgmaaGreatDoorM40
import Derived.RangeFuncCalls
import Derived.Test.YthhbiliimdpgmaaGreatDoorM39
import Derived.Test.YthhbiliimdpgmaaGreatDoorM18
namespace Go.Proofs.YthhbiliimdpgmaaGreatDoor
open Go.RowKit Go.Shelf Go.Lib
attribute [local go_sem] Oper.semAt_some

def bookObj (o : Obj) : Prop := (∃ r, o = .loop r) ∨ (∃ d, o = .deferred d)
structure SeenA (n Bp : Nat) (sv : Value) (bs : List Nat) (us : List QUnit) (W : World) : Prop where
  d : ∃ kl wl hv vv st, DocC n W kl wl hv vv st
  a : AllA n sv bs us W
  p : W.cell? ⟨Bp, 0, none⟩ = some (.pointer (some ⟨n + 11, 0, none⟩))
set_option maxRecDepth 100000 in
set_option maxHeartbeats 4000000 in
theorem seen1_any (n Bp m L : Nat) (hm : 8 ≤ m) (sv : Value) (bs : List Nat) (us : List QUnit) (G : Nat → Prop) (Bk : World → Prop) (I : List (Nat × QUnit) → World → Prop) (W : World) (hBp : Bp < W.heap.size)
    (hA : ∀ pre W', I pre W' → SeenA n Bp sv bs us W')
    (hIb : ∀ pre W1 W2, I pre W1 → Below W1.heap.size W1 W2 → I pre W2) (hBb : ∀ W1 W2, Bk W1 → Below W1.heap.size W1 W2 → Bk W2)
    (hIp : ∀ pre W1 l o o', W.heap.size ≤ l → I pre W1 → W1.heap[l]? = some o → bookObj o → I pre (W1.putObj l o')) (hBkp : ∀ W1 l o o', W.heap.size ≤ l → Bk W1 → W1.heap[l]? = some o → bookObj o → Bk (W1.putObj l o'))
    (hG : ∀ k, G k → k < W.heap.size ∨ W.heap.size + 4 ≤ k)
    (hY : ∀ pre x W1, I pre W1 → Bk W1 → pre.length < us.length → W.heap.size + 4 ≤ W1.heap.size → YieldAt Fence.wide (m - 1) Tryz.prog L (encIU x) W1 fun e W' => e = .returned (.bool true) ∧ I (pre ++ [x]) W' ∧ Bk W' ∧ Mods G W1 W')
    (h0 : I [] W) (hb0 : Bk W) :
    CallsIn Fence.wide m Tryz.prog 132 #[.func (.yield L) #[] #[], .pointer (some ⟨Bp, 0, none⟩)] W fun e W' => (∃ v, e = .returned v) ∧ ∃ xs, xs = ixs us us.length ∧ I xs W' ∧ Bk W' := by
  obtain ⟨⟨kl, wl, hv, vv, st, hd⟩, _, hp⟩ := hA _ _ h0
  have c6 := hd.cell 6 _ rfl
  have hdl := hd.lt
  have hal := fun W => (callsIn_wide (n := m - 1)).2 (seqAll_any (.pointer (some ⟨n + 6, 0, none⟩)) W rfl)
  have hfn : Fence.wide.fn 133 := trivial
  have hm1 : 1 ≤ m := by omega
  refine callsIn_of_wp_marks Tryz.func132 rfl trivial ?_ rfl
  simp only [Tryz.ntmps132, List.size_toArray, List.length_cons, List.length_nil, Nat.reduceAdd, Nat.reduceSub, Array.replicate_succ, Array.replicate_zero, List.push_toArray, List.append_toArray, List.nil_append, List.cons_append]
  gi_wp2_with (gi_at_call 133; refine (hal _).mono ?_; rintro e w' ⟨rfl, rfl⟩)
  have hb3 : Below W.heap.size W ((W.alloc (.cells #[.func (.yield L) #[] #[]] 195)).alloc (.cells #[.pointer (some ⟨n + 6, 0, none⟩)] 60)) := by (repeat (first | exact Below.refl _ _ | assumption | refine Below.alloc ?_ (by simp <;> omega) _ | refine Below.drew ?_ | refine below_drewN ?_ _ | refine Below.setCell ?_ (by simp <;> omega) _ | refine belowTrans ?_ (by assumption)))
  have hy3 : ((W.alloc (.cells #[.func (.yield L) #[] #[]] 195)).alloc (.cells #[.pointer (some ⟨n + 6, 0, none⟩)] 60)).heap[W.heap.size]? = some (.cells #[.func (.yield L) #[] #[]] 195 (0, 0)) := by rw [alloc_heap_if, if_neg (by simp), alloc_heap_if, if_pos rfl]
  have hp3 : ((W.alloc (.cells #[.func (.yield L) #[] #[]] 195)).alloc (.cells #[.pointer (some ⟨n + 6, 0, none⟩)] 60)).heap[W.heap.size + 1]? = some (.cells #[.pointer (some ⟨n + 6, 0, none⟩)] 60 (0, 0)) := by rw [alloc_heap_if, if_pos (by simp)]
  have hz3 : ((W.alloc (.cells #[.func (.yield L) #[] #[]] 195)).alloc (.cells #[.pointer (some ⟨n + 6, 0, none⟩)] 60)).heap.size = W.heap.size + 2 := by simp
  have hI3 := hIb _ _ _ h0 hb3
  have hB3 := hBb _ _ hb0 hb3
  generalize (W.alloc (.cells #[.func (.yield L) #[] #[]] 195)).alloc (.cells #[.pointer (some ⟨n + 6, 0, none⟩)] 60) = W3 at hb3 hy3 hp3 hz3 hI3 hB3 ⊢
  have HZ := Lib.hid hz3
  clear hal c6 hp
  refine wpIn_range_all (α := Nat × QUnit) (gf := 171) (lb := #[.pointer (some ⟨W.heap.size + 1, 0, none⟩)]) (encs := encIU) (S := fun xs => xs = ixs us us.length) (N := us.length) rfl (by omega) rfl trivial (enters_of Tryz.func171 (by kernel_rfl) rfl) (fun _ => rfl)
    (fun pre W' => I pre W' ∧ Bk W' ∧ W'.heap[W.heap.size]? = some (.cells #[.func (.yield L) #[] #[]] 195 (0, 0)) ∧ W'.heap[W.heap.size + 1]? = some (.cells #[.pointer (some ⟨n + 6, 0, none⟩)] 60 (0, 0))) G ?hIp ?h0 ?hround ?hseq ?hdone
  case hIp =>
    rintro pre W' r r' ⟨h1, h2, h3, h4⟩ hr
    exact ⟨hIp _ _ _ _ _ (by omega) h1 hr (.inl ⟨_, rfl⟩), hBkp _ _ _ _ (by omega) h2 hr (.inl ⟨_, rfl⟩), (World.putObj_heap_other (by omega)).trans h3, (World.putObj_heap_other (by omega)).trans h4⟩
  case h0 =>
    intro r
    have h5 : Below W3.heap.size W3 ((W3.alloc (.deferred (some []))).alloc (.loop r)) := by (repeat (first | exact Below.refl _ _ | assumption | refine Below.alloc ?_ (by simp <;> omega) _ | refine Below.drew ?_ | refine below_drewN ?_ _ | refine Below.setCell ?_ (by simp <;> omega) _ | refine belowTrans ?_ (by assumption)))
    exact ⟨hIb _ _ _ hI3 h5, hBb _ _ hB3 h5, (h5.block _ (by omega)).trans hy3, (h5.block _ (by omega)).trans hp3⟩
  case hseq =>
    rintro rec hy W' ⟨h1, h2, h3, h4⟩ hb
    refine (all1_any n (W.heap.size + 1) (m - 1) (W3.heap.size + 1) (by omega) sv bs us (Book W3.heap.size rec) (fun pre W' => I pre W' ∧ Bk W' ∧ W'.heap[W.heap.size]? = some (.cells #[.func (.yield L) #[] #[]] 195 (0, 0)) ∧ W'.heap[W.heap.size + 1]? = some (.cells #[.pointer (some ⟨n + 6, 0, none⟩)] 60 (0, 0))) ?_ ?_ W' ⟨h1, h2, h3, h4⟩ hb)
    · rintro pre W1 ⟨h1, h2, h3, h4⟩
      exact ⟨(hA _ _ h1).a, by simp [World.cell?, h4, ptrV]⟩
    · rintro pre x W1 h1 hbk hl
      exact (yieldDepth (hy pre x W1 h1 hbk hl)).mono fun e W' ⟨e1, e2, e3, _⟩ => ⟨e1, e2, e3⟩
  case hdone =>
    rintro xs W' rfl ⟨h1, h2, h3, h4⟩ hdf
    refine ⟨by simp, .inl ⟨_, _, rfl, run_takeDeferred hdf, ⟨_, results_none rfl _ _ _, ⟨_, rfl⟩, _, rfl, hIp _ _ _ _ _ (by omega) h1 hdf (.inr ⟨_, rfl⟩), hBkp _ _ _ _ (by omega) h2 hdf (.inr ⟨_, rfl⟩)⟩⟩⟩
  case hround =>
    rintro pre ⟨i, u⟩ W1 r ⟨h1, h2, h3, h4⟩ hbk hl
    unfold encIU unitV encUnit
    gi_wp2
    have hBl := (Array.getElem?_eq_some_iff.1 hbk.1).1
    have hs5 := HZ.out
    have hb1 : Below W1.heap.size W1 (W1.alloc (.cells #[.int .u64 u.id.c, .int .u64 u.id.k, .int .u64 u.left.c, .int .u64 u.left.k, .int .u64 u.right.c, .int .u64 u.right.k] 157)) := (Below.refl _ _).alloc (Nat.le_refl _) _
    have hu : (W1.alloc (.cells #[.int .u64 u.id.c, .int .u64 u.id.k, .int .u64 u.left.c, .int .u64 u.left.k, .int .u64 u.right.c, .int .u64 u.right.k] 157)).heap[W1.heap.size]? = some (.cells #[.int .u64 u.id.c, .int .u64 u.id.k, .int .u64 u.left.c, .int .u64 u.left.k, .int .u64 u.right.c, .int .u64 u.right.k] 157 (0, 0)) := World.alloc_heap_new _ _
    have hz4 : (W1.alloc (.cells #[.int .u64 u.id.c, .int .u64 u.id.k, .int .u64 u.left.c, .int .u64 u.left.k, .int .u64 u.right.c, .int .u64 u.right.k] 157)).heap.size = W1.heap.size + 1 := by simp
    generalize W1.alloc (.cells #[.int .u64 u.id.c, .int .u64 u.id.k, .int .u64 u.left.c, .int .u64 u.left.k, .int .u64 u.right.c, .int .u64 u.right.k] 157) = W4 at hb1 hu hz4 ⊢
    have hk4 : Book W3.heap.size r W4 := hbk.keep fun k hk => hb1.block k (by omega)
    refine ⟨hk4, Mods.of_below hb1, fun r' => ?_⟩
    have hI5 := hIp _ _ _ _ (.loop r') (show W.heap.size ≤ W3.heap.size + 1 by omega) (hIb _ _ _ h1 hb1) hk4.1 (.inl ⟨_, rfl⟩)
    have hB5 := hBkp _ _ _ (.loop r') (show W.heap.size ≤ W3.heap.size + 1 by omega) (hBb _ _ h2 hb1) hk4.1 (.inl ⟨_, rfl⟩)
    have hk5 : Book W3.heap.size r' (W4.putObj (W3.heap.size + 1) (.loop r')) := hk4.put r'
    have hu5 := (World.putObj_heap_other (w := W4) (r := W3.heap.size + 1) (o := .loop r') (show W1.heap.size ≠ W3.heap.size + 1 by omega)).trans hu
    have hy5 := (World.putObj_heap_other (w := W4) (r := W3.heap.size + 1) (o := .loop r') (show W.heap.size ≠ W3.heap.size + 1 by omega)).trans ((hb1.block _ (by omega)).trans h3)
    have hp5 := (World.putObj_heap_other (w := W4) (r := W3.heap.size + 1) (o := .loop r') (show W.heap.size + 1 ≠ W3.heap.size + 1 by omega)).trans ((hb1.block _ (by omega)).trans h4)
    have hz5 : (W4.putObj (W3.heap.size + 1) (.loop r')).heap.size = W1.heap.size + 1 := by simpa [World.putObj] using hz4
    have hX : W.heap.size + 2 < W1.heap.size := by omega
    clear hb1 hu hz4 hk4 hbk h1 h2 h3 h4 hI3 hB3 hb3 hy3 hp3
    generalize W4.putObj (W3.heap.size + 1) (.loop r') = W5 at hI5 hB5 hk5 hu5 hy5 hp5 hz5 ⊢
    generalize W1.heap.size = X at hu5 hz5 hX hBl ⊢
    have hsa := hA _ _ hI5
    obtain ⟨kl5, wl5, hv5, vv5, st5, hd5⟩ := hsa.d
    have b0 := hsa.p
    have u0 : W5.cell? ⟨X, 0, none⟩ = some (.int .u64 u.id.c) := by simp [World.cell?, hu5]
    have u1 : W5.cell? ⟨X, 1, none⟩ = some (.int .u64 u.id.k) := by simp [World.cell?, hu5]
    have hgn := (callsIn_wide (n := m - 1 - 1 - 1)).2 (gone_none n u.id kl5 wl5 hv5 vv5 st5 W5 hd5)
    have hm2 : 1 ≤ m - 1 - 1 := by omega
    have hfn2 : Fence.wide.fn 134 := trivial
    have HZ3 := Lib.hid hz3
    have HIb := Lib.hid hIb
    have HBb := Lib.hid hBb
    have HY := Lib.hid hY
    have HZ5 := Lib.hid hz5
    have HG := Lib.hid hG
    clear hz3 hs5 hsa hd5 hA h0 hb0 hIb hBb hIp hBkp hY hG hz5
    gi_wp2_with (gi_at_call 134; refine (CallsIn.inRound _ hgn).mono ?_; rintro e W6 ⟨rfl, hb6⟩; have hz5 := HZ5.out; have hI6 := HIb.out _ _ _ hI5 hb6; have hB6 := HBb.out _ _ hB5 hb6; have hu6 := (hb6.block X (by omega)).trans hu5; have hy6 := (hb6.block W.heap.size (by omega)).trans hy5; clear hz5; have y0 : W6.cell? ⟨W.heap.size, 0, none⟩ = some (.func (.yield L) #[] #[]) := (by simp [World.cell?, hy6]); have u0 : W6.cell? ⟨X, 0, none⟩ = some (.int .u64 u.id.c) := (by simp [World.cell?, hu6]); have u1 : W6.cell? ⟨X, 1, none⟩ = some (.int .u64 u.id.k) := (by simp [World.cell?, hu6]); have u2 : W6.cell? ⟨X, 2, none⟩ = some (.int .u64 u.left.c) := (by simp [World.cell?, hu6]); have u3 : W6.cell? ⟨X, 3, none⟩ = some (.int .u64 u.left.k) := (by simp [World.cell?, hu6]); have u4 : W6.cell? ⟨X, 4, none⟩ = some (.int .u64 u.right.c) := (by simp [World.cell?, hu6]); have u5 : W6.cell? ⟨X, 5, none⟩ = some (.int .u64 u.right.k) := (by simp [World.cell?, hu6]); obtain ⟨fn, tmps, assign, body, hy, hR⟩ := yieldInRound (n' := m - 1 - 1 - 1) (l' := W3.heap.size + 1) (HY.out _ (i, u) W6 hI6 hB6 hl (by have := hb6.size; have := HZ5.out; omega)); unfold encIU unitV encUnit at hy; dsimp only at hy)
    refine hR.mono ?_
    rintro e W7 ⟨rfl, hI7, hB7, hm7⟩
    have hz5 := HZ5.out
    have hz3 := HZ3.out
    have hs6 := hb6.size
    have hbk7 : ∀ b, W.heap.size ≤ b → b < W.heap.size + 4 → W7.heap[b]? = W5.heap[b]? := fun b h1 h2 => (hm7.block b (by omega) (fun g => by have := HG.out b g; omega)).trans (hb6.block b (by omega))
    have hk7 := hk5.keep (W' := W7) fun k hk => hbk7 k (by omega) (by omega)
    have hy7 := (hbk7 W.heap.size (by omega) (by omega)).trans hy5
    have hp7 := (hbk7 (W.heap.size + 1) (by omega) (by omega)).trans hp5
    have hm8 : Mods (RG G W3.heap.size) W5 W7 := (Mods.of_below hb6).trans (hm7.mono fun k g => .inl g)
    clear hR hy hb6 hI5 hB5 hk5 hu5 hy5 hp5 hu6 hy6 y0 u0 u1 u2 u3 u4 u5 hI6 hB6 hz5 hz3 hs6 hbk7 hm7
    gi_wp2
    exact ⟨hI7, hB7⟩
/-- what Units' rounds keep. -/
structure UnitsI (n Z : Nat) (W0 : World) (pre : List (Nat × QUnit)) (W : World) : Prop where
  b : Below Z W0 W
  p : W.heap[Z + 1]? = some (.cells #[.pointer (some ⟨n + 11, 0, none⟩)] 24 (0, 0))
  o : ∃ v, W.heap[Z]? = some (.cells #[v] 108 (0, 0)) ∧ OwnAt (Z + 8) 28 2 encIdv W v (pre.map (·.2.id))
theorem UnitsI.below {n Z : Nat} {W0 W W' : World} {pre : List (Nat × QUnit)} (h : UnitsI n Z W0 pre W) (hb : Below W.heap.size W W') : UnitsI n Z W0 pre W' := by
  obtain ⟨v, h1, h2⟩ := h.o
  have hl := (Array.getElem?_eq_some_iff.1 h1).1
  have hl2 := (Array.getElem?_eq_some_iff.1 h.p).1
  exact ⟨h.b.trans (hb.mono (by omega)), (hb.block _ hl2).trans h.p, v, (hb.block _ hl).trans h1, ownsRow_blk h2 fun k e => hb.block k (ownsRow_lt h2 k e)⟩
theorem UnitsI.put {n Z : Nat} {W0 W : World} {pre : List (Nat × QUnit)} (h : UnitsI n Z W0 pre W) {l : Nat} {o : Obj} (hz : Z + 2 ≤ l) (ho : W.heap[l]? = some o) (hb : bookObj o) (o' : Obj) : UnitsI n Z W0 pre (W.putObj l o') := by
  obtain ⟨v, h1, h2⟩ := h.o
  have hl := (Array.getElem?_eq_some_iff.1 h1).1
  refine ⟨⟨h.b.os, h.b.tape, h.b.output, by simpa [World.putObj] using h.b.size, fun k hk => (World.putObj_heap_other (by omega)).trans (h.b.block k hk)⟩, (World.putObj_heap_other (by omega)).trans h.p, v, (World.putObj_heap_other (by omega)).trans h1, ownsRow_blk h2 fun k e => World.putObj_heap_other (fun e2 => ?_)⟩
  subst e2
  rcases h2.2 with ⟨e3, _⟩ | ⟨g, cap, cur, e3, _, hc, _⟩
  · rw [e3] at e; cases e
  · rw [e3] at e
    cases e
    rw [ho] at hc
    rcases hb with ⟨r, rfl⟩ | ⟨d, rfl⟩ <;> cases hc
def UnitsR (us : List QUnit) (W : World) (v : Value) (W' : World) : Prop := OwnAt W.heap.size 28 2 encIdv W' v (us.map (·.id)) ∧ Below W.heap.size W W'
set_option maxRecDepth 100000 in
set_option maxHeartbeats 4000000 in
theorem units_any (n : Nat) (kl : List (Int × Value)) (wl : List (QId × Value)) (hv vv : Value) (st : Int) (sv : Value) (bs : List Nat) (us : List QUnit) (W : World) (hd : DocC n W kl wl hv vv st) (ha : AllA n sv bs us W) (hn : us.length ≤ 100000) :
    Calls Tryz.prog 41 #[.pointer (some ⟨n + 11, 0, none⟩)] W (RetW (UnitsR us W)) := by
  have hdl := hd.lt
  have hsn := fun W => (callsIn_wide (n := 11)).2 (docSeen_any (.pointer (some ⟨n + 11, 0, none⟩)) W rfl)
  have hfn : Fence.wide.fn 88 := trivial
  refine (callsIn_wide (n := 12)).1 (callsIn_of_wp_marks Tryz.func41 rfl trivial ?_ rfl)
  simp only [Tryz.ntmps41, List.size_toArray, List.length_cons, List.length_nil, Nat.reduceAdd, Nat.reduceSub, Array.replicate_succ, Array.replicate_zero, List.push_toArray, List.append_toArray, List.nil_append, List.cons_append]
  gi_wp2_with (gi_at_call 88; refine (hsn _).mono ?_; rintro e w' ⟨rfl, rfl⟩)
  have hz3 : ((W.alloc (.cells #[.slice none 0 0] 108)).alloc (.cells #[.pointer (some ⟨n + 11, 0, none⟩)] 24)).heap.size = W.heap.size + 2 := by simp
  have hI3 : UnitsI n W.heap.size W [] ((W.alloc (.cells #[.slice none 0 0] 108)).alloc (.cells #[.pointer (some ⟨n + 11, 0, none⟩)] 24)) :=
    ⟨by (repeat (first | exact Below.refl _ _ | assumption | refine Below.alloc ?_ (by simp <;> omega) _ | refine Below.drew ?_ | refine below_drewN ?_ _ | refine Below.setCell ?_ (by simp <;> omega) _ | refine belowTrans ?_ (by assumption))), by rw [alloc_heap_if, if_pos (by simp)], _, by rw [alloc_heap_if, if_neg (by simp), alloc_heap_if, if_pos rfl], OwnAt.nil⟩
  generalize (W.alloc (.cells #[.slice none 0 0] 108)).alloc (.cells #[.pointer (some ⟨n + 11, 0, none⟩)] 24) = W3 at hz3 hI3 ⊢
  have HZ := Lib.hid hz3
  have hce : ∀ {W1 W2 : World} {Z : Nat}, Below Z W1 W2 → n + 11 < Z → ∀ a v, W1.cell? a = some v → a.block < Z → W2.cell? a = some v := fun hb _ a v hc hl => (hb.cell hl).trans hc
  have hkeep : ∀ pre W', UnitsI n W.heap.size W pre W' → SeenA n (W.heap.size + 1) sv bs us W' := fun pre W' h => ⟨⟨kl, wl, hv, vv, st, hd.keep fun b g => h.b.block b (by omega)⟩, ⟨(h.b.cell (p := ⟨n + 6, 1, none⟩) (by show n + 6 < _; omega)).trans ha.c, ha.row.below h.b, ha.len, fun k b u h1 h2 i y hy => by
    have h3 := ha.nodes k b u h1 h2 i y hy
    have hlt : b < W.heap.size := by
      unfold World.cell? at h3
      cases ho : W.heap[b]? with
      | none => simp [ho] at h3
      | some o => exact (Array.getElem?_eq_some_iff.1 ho).1
    exact (h.b.cell (p := ⟨b, i, none⟩) hlt).trans h3⟩, by simp [World.cell?, h.p]⟩
  refine wpIn_range_allC (α := Nat × QUnit) (gf := 132) (lb := #[.pointer (some ⟨W.heap.size + 1, 0, none⟩)]) (encs := encIU) (S := fun xs => xs = ixs us us.length) (N := us.length) rfl (by omega) rfl trivial (enters_of Tryz.func132 (by kernel_rfl) rfl) (fun _ => rfl)
    (UnitsI n W.heap.size W) (fun k => k = W.heap.size ∨ W.heap.size + 8 ≤ k) (fun W' => W.heap.size + 8 ≤ W'.heap.size) ?hIp ?h0 ?hround ?hseq ?hdone
  case hIp =>
    intro pre W' r r' h hr
    exact h.put (by omega) hr (.inl ⟨_, rfl⟩) _
  case h0 =>
    intro r
    exact hI3.below (by (repeat (first | exact Below.refl _ _ | assumption | refine Below.alloc ?_ (by simp <;> omega) _ | refine Below.drew ?_ | refine below_drewN ?_ _ | refine Below.setCell ?_ (by simp <;> omega) _ | refine belowTrans ?_ (by assumption))))
  case hseq =>
    rintro rec hy W' h hb hsz
    have hBl := (Array.getElem?_eq_some_iff.1 hb.1).1
    have hs5 := HZ.out
    refine seen1_any n (W.heap.size + 1) 11 (W3.heap.size + 1) (by omega) sv bs us (RG (fun k => k = W.heap.size ∨ W.heap.size + 8 ≤ k) W3.heap.size) (Book W3.heap.size rec) (UnitsI n W.heap.size W) W' (by omega) hkeep (fun pre W1 W2 h hb => h.below hb) (fun W1 W2 h hb => h.keep fun k hk => hb.block k (by have := (Array.getElem?_eq_some_iff.1 h.1).1; omega)) ?_ ?_ ?_ ?_ h hb
    · intro pre W1 l o o' hl h ho hbo
      exact h.put (by omega) ho hbo o'
    · intro W1 l o o' hl h ho hbo
      exact h.keep fun k hk => World.putObj_heap_other (by omega)
    · rintro k (h | h)
      · omega
      · omega
    · intro pre x W1 h hbk hl hC
      exact yieldDepth (hy pre x W1 h hbk hl (by omega))
  case hdone =>
    rintro xs W' rfl h hdf
    have hs5 := HZ.out
    obtain ⟨v, ho, hrow⟩ := h.o
    have hlx : ((ixs us us.length).map (·.2.id)) = us.map (·.id) := by
      apply List.ext_getElem?
      intro i
      simp only [ixs, List.map_map, List.getElem?_map]
      by_cases hi : i < us.length
      · simp [hi, List.getD]
      · simp [hi]
    rw [hlx] at hrow
    obtain ⟨p, c, rfl⟩ := ownsRow_len hrow
    have o0 : W'.cell? ⟨W.heap.size, 0, none⟩ = some (.slice p (us.map (·.id)).length c) := by simp [World.cell?, ho]
    have HR := Lib.hid hrow
    obtain ⟨m, hm⟩ : ∃ m, (us.map (·.id)).length = m := ⟨_, rfl⟩
    have HM := Lib.hid hm
    rw [hm] at o0 ho
    have HO := Lib.hid ho
    have HH := Lib.hid h
    have h5 := (Array.getElem?_eq_some_iff.1 hdf).1
    have HDF := Lib.hid hdf
    clear hrow hm ho h hlx hs5 hz3 hdf
    gi_wp2
    have hdf := HDF.out
    have hz3 := HZ.out
    refine ⟨by simp, .inl ⟨_, _, rfl, run_takeDeferred hdf, ⟨_, results_tmp rfl _ _ _, ⟨_, rfl, ?_⟩⟩⟩⟩
    have hI := HH.out.put (show W.heap.size + 2 ≤ W3.heap.size by omega) hdf (.inr ⟨_, rfl⟩) (.deferred none)
    refine ⟨?_, hI.b⟩
    have h1 := HR.out
    refine ownsRow_base (ownsRow_blk (w := W') (by rw [← HM.out]; exact h1) fun k e => World.putObj_heap_other (by have := (World.ownsRow.lt h1 k (by rw [HM.out]; exact e)).1; omega)) (by omega)
  case hround =>
    rintro pre ⟨i, u⟩ W1 r h hbk hl hC
    unfold encIU unitV encUnit
    gi_wp2
    have hBl := (Array.getElem?_eq_some_iff.1 hbk.1).1
    have hs5 := HZ.out
    have hb1 : Below W1.heap.size W1 (W1.alloc (.cells #[.int .u64 u.id.c, .int .u64 u.id.k, .int .u64 u.left.c, .int .u64 u.left.k, .int .u64 u.right.c, .int .u64 u.right.k] 157)) := (Below.refl _ _).alloc (Nat.le_refl _) _
    have hu : (W1.alloc (.cells #[.int .u64 u.id.c, .int .u64 u.id.k, .int .u64 u.left.c, .int .u64 u.left.k, .int .u64 u.right.c, .int .u64 u.right.k] 157)).heap[W1.heap.size]? = some (.cells #[.int .u64 u.id.c, .int .u64 u.id.k, .int .u64 u.left.c, .int .u64 u.left.k, .int .u64 u.right.c, .int .u64 u.right.k] 157 (0, 0)) := World.alloc_heap_new _ _
    have hz4 : (W1.alloc (.cells #[.int .u64 u.id.c, .int .u64 u.id.k, .int .u64 u.left.c, .int .u64 u.left.k, .int .u64 u.right.c, .int .u64 u.right.k] 157)).heap.size = W1.heap.size + 1 := by simp
    generalize W1.alloc (.cells #[.int .u64 u.id.c, .int .u64 u.id.k, .int .u64 u.left.c, .int .u64 u.left.k, .int .u64 u.right.c, .int .u64 u.right.k] 157) = W4 at hb1 hu hz4 ⊢
    have hk4 : Book W3.heap.size r W4 := hbk.keep fun k hk => hb1.block k (by omega)
    refine ⟨hk4, Mods.of_below hb1, fun r' => ?_⟩
    have hI5 := (h.below hb1).put (show W.heap.size + 2 ≤ W3.heap.size + 1 by omega) hk4.1 (.inl ⟨_, rfl⟩) (.loop r')
    have hk5 : Book W3.heap.size r' (W4.putObj (W3.heap.size + 1) (.loop r')) := hk4.put r'
    have hu5 := (World.putObj_heap_other (w := W4) (r := W3.heap.size + 1) (o := .loop r') (show W1.heap.size ≠ W3.heap.size + 1 by omega)).trans hu
    have hz5 : (W4.putObj (W3.heap.size + 1) (.loop r')).heap.size = W1.heap.size + 1 := by simpa [World.putObj] using hz4
    clear hb1 hu hz4 hk4 hbk h hI3
    generalize W4.putObj (W3.heap.size + 1) (.loop r') = W5 at hI5 hk5 hu5 hz5 ⊢
    generalize W1.heap.size = X at hu5 hz5 hBl hC ⊢
    obtain ⟨v, ho, hrow⟩ := hI5.o
    have hlp : (pre.map (·.2.id)).length = pre.length := by simp
    have hrow2 : W5.ownsRow (W.heap.size + 8) 28 2 v pre.length ((pre.map (·.2.id)).flatMap encIdv) := by rw [← hlp]; exact hrow
    obtain ⟨p, c, rfl⟩ : ∃ p c, v = .slice p pre.length c := ownsRow_len hrow2
    have o0 : W5.cell? ⟨W.heap.size, 0, none⟩ = some (.slice p pre.length c) := by simp [World.cell?, ho]
    have u0 : W5.cell? ⟨X, 0, none⟩ = some (.int .u64 u.id.c) := by simp [World.cell?, hu5]
    have u1 : W5.cell? ⟨X, 1, none⟩ = some (.int .u64 u.id.k) := by simp [World.cell?, hu5]
    obtain ⟨i0, hi, hz0, hz1, hz2⟩ := info_parts infoId
    have HI5 := Lib.hid hI5
    have HO := Lib.hid ho
    have HZ5 := Lib.hid hz5
    have HLP := Lib.hid hlp
    have HROW := Lib.hid hrow
    have hol : W.heap.size < W5.heap.size := (Array.getElem?_eq_some_iff.1 ho).1
    obtain ⟨m, hm⟩ : ∃ m, pre.length = m := ⟨_, rfl⟩
    rw [hm] at hrow2 o0 hl
    have HM := Lib.hid hm
    clear hI5 ho hz5 hlp hrow hs5 hz3 hd ha hkeep hu5 hm hce hsn
    gi_wp2_with (gi_at_builtin; refine wpListIn_append_own _ rfl _ _ 108 rfl (W.heap.size + 8) 28 i0 (.agg #[.int .u64 idZero.c, .int .u64 idZero.k]) 2 16 Tryz.underlying108 hi hz0 hz1 hz2 rfl (by decide) _ m _ rfl (hrow2.alloc _) ⟨W5.heap.size, 0, none⟩ 1 1 (encIdv u.id) rfl rfl ?c1 ?c2 ?c3 ?c4 ?c5 ?_)
    case c1 =>
      intro j y hy
      rw [Addr.add_lit, World.cell?, World.alloc_heap_new]
      simpa [encIdv] using hy
    case c2 => intro y hy; simp [encIdv] at hy; rcases hy with rfl | rfl <;> rfl
    case c3 => unfold maxLen; omega
    case c4 => omega
    case c5 => have := HZ5.out; simp; omega
    intro v' w6 hown hgrow _
    have hw6 : ∀ k, k < W5.heap.size → (Value.slice p m c).ownBlock ≠ some k → w6.heap[k]? = W5.heap[k]? := fun k hk hs => (hgrow.block k (by simp; omega) (fun e => hs e.symm)).trans (Below.heap_alloc _ _ _ hk)
    have hrb := fun k e => World.ownsRow.lt hrow2 k e
    have ho6 : w6.heap[W.heap.size]? = some (.cells #[.slice p m c] 108 (0, 0)) := (hw6 _ hol (fun e => by have := (hrb _ e).1; omega)).trans (by rw [HO.out, HM.out])
    have c6 : w6.cell? ⟨W.heap.size, 0, none⟩ = some (.slice p m c) := by simp [World.cell?, ho6]
    have f6 : w6.frozen? ⟨W.heap.size, 0, none⟩ = false := by simp [World.frozen?, ho6]
    obtain ⟨p6, c6', rfl⟩ : ∃ p c, v' = .slice p (m + 1) c := ownsRow_len hown
    have HOWN := Lib.hid hown
    clear hown
    gi_wp2
    have hz3 := HZ.out
    have hz5 := HZ5.out
    have hI5 := HI5.out
    have hw7 : ∀ k, k < W5.heap.size → k ≠ W.heap.size → (Value.slice p m c).ownBlock ≠ some k → (w6.setCell ⟨W.heap.size, 0, none⟩ (.slice p6 (m + 1) c6')).heap[k]? = W5.heap[k]? := fun k hk hne hs => (Below.heap_setCell _ _ _ _ (by show ¬ k = W.heap.size; exact hne)).trans (hw6 k hk hs)
    have hM7 : Mods (fun k => k = W.heap.size ∨ W.heap.size + 8 ≤ k) W5 (w6.setCell ⟨W.heap.size, 0, none⟩ (.slice p6 (m + 1) c6')) := by
      have h1 := ((Mods.refl (fun k => k = W.heap.size ∨ W.heap.size + 8 ≤ k) W5).alloc (.cells #[.int .u64 u.id.c, .int .u64 u.id.k] 28)).grown hgrow (fun k e => .inl (.inr (hrb k e).1))
      exact h1.setC (.inl (.inl rfl)) _
    refine ⟨hk5.keep fun k hk => hw7 k (by omega) (by omega) (fun e => by have := (hrb _ e).1; omega), hM7.mono fun k g => .inl g, ?_⟩
    have hp5 := (Array.getElem?_eq_some_iff.1 hI5.p).1
    refine ⟨⟨hM7.os.trans hI5.b.os, hM7.tape.trans hI5.b.tape, hM7.output.trans hI5.b.output, Nat.le_trans hI5.b.size hM7.size, fun k hk => (hM7.block k (by have := hI5.b.size; omega) (by omega)).trans (hI5.b.block k hk)⟩, (hw7 _ hp5 (by omega) (fun e => by have := (hrb _ e).1; omega)).trans hI5.p, .slice p6 (m + 1) c6', ?_, ?_⟩
    · simp [World.setCell, Array.getElem?_modify, ho6]
    · unfold OwnAt
      rw [List.map_append, List.length_append, List.flatMap_append, HLP.out, HM.out]
      refine ownsRow_blk (w := w6) ?_ fun k e => Below.heap_setCell _ _ _ _ (by show ¬ k = W.heap.size; have := (World.ownsRow.lt HOWN.out k e).1; omega)
      simpa using HOWN.out
end Go.Proofs.YthhbiliimdpgmaaGreatDoor
/- Walk: Apply of one operation to a new document; what 'does' does is a premise. -/
namespace Go.Proofs.YthhbiliimdpgmaaGreatDoor
open Go.RowKit Go.Lib

def ApplyR (n N : Nat) (o : QOp) (D : Nat → Prop) (QW : Nat → World → Prop) (w : World) (e : Ending) (w' : World) : Prop :=
  e = .returned (.tuple #[.bool true, .int .i64 0]) ∧ ∃ hv, DocC n w' [(o.id.c, .int .u64 N)] [] hv noS o.stamp ∧ SliceAt 3 encRng w' hv [] ∧ (∃ s, w.heap.size ≤ s ∧ QW s w') ∧ Mods (WG n D) w w'
set_option maxRecDepth 100000 in
set_option maxHeartbeats 4000000 in
theorem apply_one (n N rb cap : Nat) (o : QOp) (D : Nat → Prop) (P : World → Prop) (QW : Nat → World → Prop) (w : World) (hd : DocC n w [] [] noS noS 0) (hs : StoreZ n w) (ho : HoldO o N) (hf : o.free) (hT : Tabs w) (hF : TabFree fun b => n ≤ b)
    (hrb : OpCells w rb 0 o) (hlt : rb < w.heap.size) (hrn : n + 11 < rb) (hck : ∀ w, Tabs w → Calls Tryz.prog 30 #[opV o] w fun e w' => e = .returned (.int .i64 0) ∧ Below w.heap.size w w') (hst : 0 ≤ o.stamp) (hD : ∀ k, D k → n ≤ k ∧ k ≤ n + 11) (hP0 : P w)
    (hP : ∀ w w', Mods (fun b => b = n ∨ b = n + 1 ∨ b = n + 2 ∨ b = n + 3 ∨ b = n + 11) w w' → n + 11 < w.heap.size → P w → P w')
    (hQ : ∀ s w w', Mods (fun b => n + 11 < b ∧ b < s) w w' → n + 11 < w.heap.size → QW s w → QW s w')
    (hdoes : ∀ w hv, DocC n w [(o.id.c, .int .u64 N)] [] hv noS o.stamp → P w → Tabs w → Calls Tryz.prog 72 #[.pointer (some ⟨n + 11, 0, none⟩), opV o] w fun e w' => e = .returned (.bool true) ∧ DocC n w' [(o.id.c, .int .u64 N)] [] hv noS o.stamp ∧ QW w.heap.size w' ∧ Mods D w w') :
    Calls Tryz.prog 7 #[.pointer (some ⟨n + 11, 0, none⟩), .agg #[.slice (some ⟨rb, 0, none⟩) 1 cap, .slice none 0 0]] w (ApplyR n N o D QW w) := by
  have hmf : ∀ (fn : Fn) (first cap : Array Value) (w : World), (Instr.makeFunc fn first cap).run Tryz.prog w = .ok (.func fn first cap) w := fun _ _ _ _ => rfl
  have HO := Lib.hid ho
  have hdl := hd.lt
  have hB : Below w.heap.size w (w.alloc (.cells #[.slice (some ⟨rb, 0, none⟩) 1 cap, .slice none 0 0] 42)) := by (repeat (first | exact Below.refl _ _ | assumption | refine Below.alloc ?_ (by simp <;> omega) _ | refine Below.drew ?_ | refine below_drewN ?_ _ | refine Below.setCell ?_ (by simp <;> omega) _ | refine belowTrans ?_ (by assumption)))
  have u0 : (w.alloc (.cells #[.slice (some ⟨rb, 0, none⟩) 1 cap, .slice none 0 0] 42)).cell? ⟨w.heap.size, 0, none⟩ = some (.slice (some ⟨rb, 0, none⟩) 1 cap) := by go_simp
  have u1 : (w.alloc (.cells #[.slice (some ⟨rb, 0, none⟩) 1 cap, .slice none 0 0] 42)).cell? ⟨w.heap.size, 1, none⟩ = some (.slice none 0 0) := by go_simp
  have ul : w.heap.size < (w.alloc (.cells #[.slice (some ⟨rb, 0, none⟩) 1 cap, .slice none 0 0] 42)).heap.size := by simp
  have htry := try_ok o rb cap w.heap.size _ (hrb.blo hB hlt) (Nat.lt_of_lt_of_le hlt hB.size) ul (hT.below hB) hck u0 u1
  go_enter Tryz.func7, Tryz.ntmps7
  go_upto_region 1 with fail
  generalize w.alloc (.cells #[.slice (some ⟨rb, 0, none⟩) 1 cap, .slice none 0 0] 42) = W at hB u0 u1 ul htry ⊢
  go_upto_region 5 with (go_at_call 16; refine htry.mono ?_; rintro e w1 ⟨rfl, hb1⟩)
  have hB1 := belowTrans hB hb1
  have v0 := (hb1.cell (p := ⟨w.heap.size, 0, none⟩) ul).trans u0
  have v1 := (hb1.cell (p := ⟨w.heap.size, 1, none⟩) ul).trans u1
  have hvl : w.heap.size < w1.heap.size := Nat.lt_of_lt_of_le ul hb1.size
  clear htry u0 u1 ul hB hb1
  clear W
  go_wp2_with fail
  go_loopw [7, 19] (fun c z wx => (c = .bool false ∧ z = .int .i64 0 ∧ wx = w1) ∨ (c = .bool true ∧ z = .int .i64 1 ∧ w.heap.size < wx.heap.size ∧ wx.cell? ⟨w.heap.size, 1, none⟩ = some (.slice none 0 0) ∧ ∃ hv base, DocC n wx [] [(o.id, opV o)] hv noS 0 ∧ OwnAt base 95 3 encRng wx hv [o.rng] ∧ n + 11 < base ∧ Mods (fun b => b = n + 3 ∨ b = n + 11) w wx)) (fun _ z _ => 1 - (intOf z).toNat)
  case atStart => exact .inl ⟨rfl, rfl, rfl⟩
  case round =>
    rcases hrel with ⟨rfl, rfl, rfl⟩ | ⟨rfl, rfl, hsz, hv1, hv, base, hdx, hox, hbx, hMx⟩
    · have hrb1 := hrb.blo hB1 hlt
      have hl := load_op hrb1
      have hbc : Below wr.heap.size wr (putOp (wr.alloc (.cells (encOp opZero).toArray 35)) wr.heap.size o) := below_putOp ((Below.refl _ _).alloc (Nat.le_refl _) _) (Nat.le_refl _) _
      have hbx : OpBox (putOp (wr.alloc (.cells (encOp opZero).toArray 35)) wr.heap.size o) wr.heap.size o := (OpBox.new wr opZero).put o
      clear hrb1
      go_upto_region 8 with (first | (refine wpList_load_eq (T := 35) (v := opV o) rfl rfl rfl hl ?_) | (refine wpList_store_eq (T := 35) (v := opV o) rfl rfl rfl rfl (OpBox.store (OpBox.new wr opZero) o) ?_))
      try go_frame
      have hB2 := belowTrans hB1 hbc
      have v2 := (hbc.cell (p := ⟨w.heap.size, 1, none⟩) hvl).trans v1
      generalize putOp (wr.alloc (.cells (encOp opZero).toArray 35)) wr.heap.size o = W2 at hbc hbx hB2 v2 ⊢
      generalize wr.heap.size = X at hbx ⊢
      have hh := hold_new n N o W2 (hd.keep fun b g => hB2.block b (by omega)) HO.out (hT.below hB2)
      clear hl v0
      go_wp2_with (first | (refine wpList_load_eq (T := 35) (v := opV o) rfl rfl rfl hbx.load ?_) | (go_at_call 19; refine hh.mono ?_; rintro e w5 ⟨hv5, rfl, hd5, ho5, hm5⟩))
      have hz5 := hm5.size
      have hz2 := hB2.size
      have hx2 := hbx.lt
      have hw2 : w.heap.size < W2.heap.size := Nat.lt_of_lt_of_le hvl hbc.size
      have cm := hm5.block w.heap.size hw2 (by omega)
      exact ⟨.inr ⟨rfl, rfl, by omega, (World.cell?_of_block (w := W2) cm).trans v2, hv5, _, hd5, ho5, by omega, (Mods.of_below hB2).trans hm5⟩, by simp [intOf]⟩
    · have hF2 : TabFree fun b => b = n + 3 ∨ b = n + 11 := ⟨fun g => hF.1 (by omega), fun g => hF.2 (by omega)⟩
      have hzx := hMx.size
      rw [HO.out.rng] at hox
      have hwk := work_one n N base o hv D P QW wr hdx hox (hs.keep fun b g => hMx.block b (by omega) (by omega)) HO.out hf (hT.mods hMx hF2) hF hbx hck hst hD (hP w wr (hMx.mono fun b g => by omega) hdl hP0) hP hQ hdoes
      clear v0 v1 hvl
      go_wp2_with (go_at_call 20; refine hwk.mono ?_; rintro e w7 ⟨rfl, hv7, hd7, hh7, ⟨s7, q7, q7'⟩, hm7⟩; have cm := hm7.block w.heap.size hsz (fun g => by have := wg_le hD g; omega); have v7 := (World.cell?_of_block (w := wr) cm).trans hv1)
      go_ret2
      exact ⟨rfl, hv7, hd7, hh7, ⟨s7, by omega, q7'⟩, (hMx.mono fun b g => by unfold WG; omega).trans hm7⟩
end Go.Proofs.YthhbiliimdpgmaaGreatDoor
