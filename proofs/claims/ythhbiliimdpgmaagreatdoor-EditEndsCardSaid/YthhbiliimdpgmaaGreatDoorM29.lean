/- Walk: ids.Turns' inner function at one open turn. -/
import Derived.Test.YthhbiliimdpgmaaGreatDoorM28
import Derived.Test.YthhbiliimdpgmaaGreatDoorM10
import Derived.Test.YthhbiliimdpgmaaGreatDoorM23
import Derived.Test.YthhbiliimdpgmaaGreatDoorM16
import Derived.Shelf.SlicesE.Clone
import Derived.Test.YthhbiliimdpgmaaGreatDoorM02
namespace Go.Proofs.YthhbiliimdpgmaaGreatDoor
open Go.RowKit Go.Shelf Go.Sort Go.Lib

/-- what the closure leaves of one turn. -/
def UntilT (t : QTurn) (bO bA bR g cap : Nat) (w w' : World) : Prop :=
  w'.cell? ⟨bO, 0, none⟩ = some (.slice (some ⟨g, 0, none⟩) 0 cap) ∧ (∃ v, OwnAt w.heap.size 54 4 encTurn w' v [t] ∧ w'.cell? ⟨bR, 0, none⟩ = some v) ∧ Mods (fun k => k = bO ∨ k = bA ∨ k = bR ∨ k = g) w w'
set_option maxRecDepth 100000 in
set_option maxHeartbeats 4000000 in
theorem until_one (t : QTurn) (bO bA bR g cap : Nat) (cur : Array Value) (w : World) (ht : t.rightB = true)
    (hO : Boxed w bO 40 (.slice (some ⟨g, 0, none⟩) 1 cap)) (hA : Boxed w bA 26 (.int .u64 t.a)) (hR : Boxed w bR 40 (.slice none 0 0))
    (hg : w.heap[g]? = some (.cells cur 54 (0, 0))) (hcap : 4 ≤ cur.size) (hc1 : 1 ≤ cap) (hc : ∀ j v, (encTurn t)[j]? = some v → w.cell? ⟨g, j, none⟩ = some v)
    (n1 : bO ≠ bA) (n2 : bO ≠ bR) (n3 : bA ≠ bR) (n4 : bO ≠ g) (n5 : bA ≠ g) (n6 : bR ≠ g) :
    Calls Tryz.prog 79 #[.int .u64 t.c, .int .u64 9007199254740992, .pointer (some ⟨bO, 0, none⟩), .pointer (some ⟨bA, 0, none⟩), .pointer (some ⟨bR, 0, none⟩)] w fun e w' => e = .returned (.tuple #[]) ∧ UntilT t bO bA bR g cap w w' := by
  have hlO := hO.lt
  have hlA := hA.lt
  have hlR := hR.lt
  have hlg : g < w.heap.size := (Array.getElem?_eq_some_iff.1 hg).1
  have hj := fun W => joined_nil t W
  have hct : t.a < t.b ∧ t.b ≤ 9007199254740992 ∧ 1 ≤ t.n := by
    simp [QTurn.rightB, QRng.rightB, numB] at ht; omega
  go_enter Tryz.func79, Tryz.ntmps79
  go_wp2
  go_loopw [] (fun wr => w = wr ∨ UntilT t bO bA bR g cap w wr) (fun wr => match wr.cell? ⟨bO, 0, none⟩ with | some (.slice _ k _) => k | _ => 0)
  case atStart => exact .inl rfl
  case round =>
    rcases hrel with rfl | hrel
    · have cO := hO.cell
      have cA := hA.cell
      have c0 : w.cell? ⟨g, 0, none⟩ = some (.int .u64 t.c) := hc 0 _ rfl
      have c1 : w.cell? ⟨g, 1, none⟩ = some (.int .u64 t.a) := hc 1 _ rfl
      have c2 : w.cell? ⟨g, 2, none⟩ = some (.int .u64 t.b) := hc 2 _ rfl
      have c3 : w.cell? ⟨g, 3, none⟩ = some (.int .u64 t.n) := hc 3 _ rfl
      have d1 : decide (t.a < 9007199254740992) = true := by simp; omega
      have d2 : ((t.c : Int) == t.c) = true := by simp
      have ht' := Lib.hid ht
      have HC := Lib.hid hc
      clear ht hc
      go_wp2
      go_loopw [7, 8, 30] (fun en mx i wx => (en = .int .u64 9007199254740992 ∧ mx = .int .u64 0 ∧ i = .int .i64 0 ∧ w = wx) ∨ (en = .int .u64 t.b ∧ mx = .int .u64 t.n ∧ i = .int .i64 1 ∧ Below w.heap.size w wx)) (fun _ _ i _ => 1 - (intOf i).toNat)
      case atStart => exact .inl ⟨rfl, rfl, rfl, rfl⟩
      case round =>
        rcases hrel with ⟨rfl, rfl, rfl, rfl⟩ | ⟨rfl, rfl, rfl, hb⟩
        · have e1 : min (9007199254740992 : Int) t.b = t.b := by omega
          have e2 : max (0 : Int) t.n = t.n := by omega
          go_wp2
          go_quiet (fail)
          go_wp2
          exact ⟨.inr ⟨rfl, rfl, rfl, below_drewN ((Below.refl _ _).alloc (Nat.le_refl _) _) nq⟩, by decide⟩
        · have hcc : ∀ j v, (encTurn t)[j]? = some v → j < 4 := fun j v h => (List.getElem?_eq_some_iff.1 h).1
          have hO1 : Boxed wr bO 40 (.slice (some ⟨g, 0, none⟩) 1 cap) := (hb.block bO hlO).trans hO
          have hA1 : Boxed wr bA 26 (.int .u64 t.a) := (hb.block bA hlA).trans hA
          have hR1 : Boxed wr bR 40 (.slice none 0 0) := (hb.block bR hlR).trans hR
          have hg1 := (hb.block g hlg).trans hg
          have cO1 := hO1.cell
          have cA1 := hA1.cell
          have cR1 := hR1.cell
          have hz := hb.size
          go_upto_region 8 with (go_at_call 80; refine (hj _).mono ?_; rintro e w2 ⟨v, rfl, ho2, hb2⟩; obtain ⟨g', cap', rfl⟩ := ownsRow_succ ho2; have hR2 : Boxed w2 bR 40 (.slice none 0 0) := (hb2.block bR (by omega)).trans hR1; have cR2 := hR2.cell; have fR2 := hR2.frozen)
          have hB2 : Below w.heap.size w w2 := belowTrans hb hb2
          have hO2 : Boxed w2 bO 40 (.slice (some ⟨g, 0, none⟩) 1 cap) := (hb2.block bO (by omega)).trans hO1
          have hA2 : Boxed w2 bA 26 (.int .u64 t.a) := (hb2.block bA (by omega)).trans hA1
          have hg2 := (hb2.block g (by omega)).trans hg1
          have hgg : w.heap.size ≤ g' := by
            obtain ⟨_, ⟨h0, _⟩ | ⟨g2, _, _, h1, h2, _⟩⟩ := ho2
            · cases h0
            · cases h1; omega
          have hr3 := hR2.set (.slice (some ⟨g', 0, none⟩) 1 cap')
          have ho3 := hO2.other n2 (.slice (some ⟨g', 0, none⟩) 1 cap')
          have ha3 := hA2.other n3 (.slice (some ⟨g', 0, none⟩) 1 cap')
          have hM3 : Mods (fun k => k = bO ∨ k = bA ∨ k = bR ∨ k = g) w (w2.setCell ⟨bR, 0, none⟩ (.slice (some ⟨g', 0, none⟩) 1 cap')) := (Mods.of_below hB2).setC (p := ⟨bR, 0, none⟩) (.inl (.inr (.inr (.inl rfl)))) _
          have hg3 := (Below.heap_setCell w2 ⟨bR, 0, none⟩ (.slice (some ⟨g', 0, none⟩) 1 cap') g (by show ¬ g = bR; omega)).trans hg2
          have hw3 := ownsRow_blk (w' := w2.setCell ⟨bR, 0, none⟩ (.slice (some ⟨g', 0, none⟩) 1 cap')) ho2 (fun b e => by cases e; exact Below.heap_setCell _ _ _ _ (by show ¬ g' = bR; omega))
          generalize w2.setCell ⟨bR, 0, none⟩ (.slice (some ⟨g', 0, none⟩) 1 cap') = W3 at hr3 ho3 ha3 hM3 hg3 hw3 ⊢
          clear hj hb2 hR2 cR2 fR2 cO1 cA1 cR1 hO1 hA1 hR1 hg1
          have ca3 := ha3.cell
          have fa3 := ha3.frozen
          go_upto_region 9 with fail
          have hr4 := hr3.other n3.symm (.int .u64 t.b)
          have ho4 := ho3.other n1 (.int .u64 t.b)
          have ha4 := ha3.set (.int .u64 t.b)
          have hM4 : Mods (fun k => k = bO ∨ k = bA ∨ k = bR ∨ k = g) w (W3.setCell ⟨bA, 0, none⟩ (.int .u64 t.b)) := hM3.setC (p := ⟨bA, 0, none⟩) (.inl (.inr (.inl rfl))) _
          have hg4 := (Below.heap_setCell W3 ⟨bA, 0, none⟩ (.int .u64 t.b) g (by show ¬ g = bA; omega)).trans hg3
          have hw4 := ownsRow_blk (w' := W3.setCell ⟨bA, 0, none⟩ (.int .u64 t.b)) hw3 (fun b e => by cases e; exact Below.heap_setCell _ _ _ _ (by show ¬ g' = bA; omega))
          generalize W3.setCell ⟨bA, 0, none⟩ (.int .u64 t.b) = W4 at hr4 ho4 ha4 hM4 hg4 hw4 ⊢
          clear ca3 fa3
          have co4 := ho4.cell
          have hdel := deleteT t bA t.b g cap cur W4 ha4.lt ha4.cell (Int.le_refl _) hg4 hcap hc1 (fun j v h => by
            have := HC.out j v h
            simpa [World.cell?, hg4, hg] using this)
          go_wp2_with (go_at_call 81; refine hdel.mono ?_; rintro e w5 ⟨rfl, hm5⟩; have ho5 : Boxed w5 bO 40 (.slice (some ⟨g, 0, none⟩) 1 cap) := (hm5.block bO ho4.lt n4).trans ho4; have co5 := ho5.cell; have fo5 := ho5.frozen)
          have hM5 := hM4.trans (hm5.mono fun k h => (.inr (.inr (.inr h)) : k = bO ∨ k = bA ∨ k = bR ∨ k = g))
          have hM6 := hM5.setC (p := ⟨bO, 0, none⟩) (.inl (.inl rfl)) (.slice (some ⟨g, 0, none⟩) 0 cap)
          have hw5 := ownsRow_blk (w' := w5) hw4 (fun b e => by cases e; exact hm5.block g' (ownsRow_lt hw4 g' rfl) (by omega))
          have hw6 := ownsRow_blk (w' := w5.setCell ⟨bO, 0, none⟩ (.slice (some ⟨g, 0, none⟩) 0 cap)) hw5 (fun b e => by cases e; exact Below.heap_setCell _ _ _ _ (by show ¬ g' = bO; omega))
          have hr5 : Boxed w5 bR 40 (.slice (some ⟨g', 0, none⟩) 1 cap') := (hm5.block bR hr4.lt n6).trans hr4
          have hr6 := hr5.other n2.symm (.slice (some ⟨g, 0, none⟩) 0 cap)
          have hc6 := (ho5.set (.slice (some ⟨g, 0, none⟩) 0 cap)).cell
          refine ⟨.inr ⟨hc6, ⟨_, ownsRow_base hw6 hz, hr6.cell⟩, hM6⟩, ?_⟩
          rw [hc6, cO]
          show 0 < 1
          omega
    · have cO := hrel.1
      have HR := Lib.hid hrel
      clear hrel hc hj hg ht
      go_wp2
      go_end0
      exact ⟨rfl, HR.out⟩
end Go.Proofs.YthhbiliimdpgmaaGreatDoor
/- Walk: ids.Turns of one turn. -/
namespace Go.Proofs.YthhbiliimdpgmaaGreatDoor
open Go.RowKit Go.Shelf Go.Lib

attribute [local go_sem] Oper.semAt_some

/-- between two rounds: what came lies in the boxed row. -/
def RowT (B n₀ S : Nat) (w : World) (pre : List QTurn) (W : World) : Prop :=
  (∃ v, Boxed W B 40 v ∧ OwnAt n₀ 54 4 encTurn W v pre) ∧ Below n₀ w W ∧ S ≤ W.heap.size ∧ Boxed W (B + 2) 137 (.func (.func 74) #[] #[])

/-- one turn is open. -/
def OpenT (t : QTurn) (bO bA bR : Nat) (W2 wr : World) : Prop :=
  ∃ g cap cur, Boxed wr bO 40 (.slice (some ⟨g, 0, none⟩) 1 cap) ∧ Boxed wr bA 26 (.int .u64 t.a) ∧ Boxed wr bR 40 (.slice none 0 0) ∧ wr.heap[g]? = some (.cells cur 54 (0, 0)) ∧
    4 ≤ cur.size ∧ 1 ≤ cap ∧ (∀ j v, (encTurn t)[j]? = some v → wr.cell? ⟨g, j, none⟩ = some v) ∧ bA < g ∧ Below W2.heap.size W2 wr
set_option maxRecDepth 100000 in
set_option maxHeartbeats 4000000 in
theorem turns_one (sv : Value) (t : QTurn) (w : World) (ht : t.rightB = true) (hl : SliceAt 4 encTurn w sv [t]) (hsv : sv.oneCell' = true) :
    Calls Tryz.prog 37 #[sv] w (RetW fun v w' => OwnAt w.heap.size 54 4 encTurn w' v [t] ∧ Below w.heap.size w w') := by
  have HT := Lib.hid ht
  clear ht
  refine (callsIn_wide (n := 8)).1 ?_
  have hf1 : Fence.wide.fn 73 := trivial
  have hf2 : Fence.wide.fn 75 := trivial
  have h1 : 1 ≤ 8 := by omega
  refine callsIn_of_wp_marks Tryz.func37 rfl trivial ?_ rfl
  simp only [Tryz.ntmps37, List.size_toArray, List.length_cons, List.length_nil, Nat.reduceAdd, Nat.reduceSub, Array.replicate_succ, Array.replicate_zero, List.push_toArray, List.append_toArray, List.nil_append, List.cons_append]
  refine wpIn_wide.2 ?_
  go_wp2_with (go_at_call 73; refine (callsIn_wide.1 (rightsT_in 7 _ _ _ hsv rfl)).mono ?_; rintro e w' ⟨rfl, rfl⟩)
  have hB0 : Below w.heap.size w (((w.alloc (.cells #[.slice none 0 0] 40)).alloc (.cells #[sv] 40)).alloc (.cells #[.func (.func 74) #[] #[]] 137)) := by (repeat (first | exact Below.refl _ _ | assumption | refine Below.alloc ?_ (by simp <;> omega) _ | refine Below.drew ?_ | refine below_drewN ?_ _ | refine Below.setCell ?_ (by simp <;> omega) _ | refine belowTrans ?_ (by assumption)))
  have hsz : (((w.alloc (.cells #[.slice none 0 0] 40)).alloc (.cells #[sv] 40)).alloc (.cells #[.func (.func 74) #[] #[]] 137)).heap.size = w.heap.size + 3 := by simp
  have bA := ((Boxed.new w 40 (.slice none 0 0)).alloc (.cells #[sv] 40)).alloc (.cells #[.func (.func 74) #[] #[]] 137)
  have bS := (Boxed.new (w.alloc (.cells #[.slice none 0 0] 40)) 40 sv).alloc (.cells #[.func (.func 74) #[] #[]] 137)
  have bF := Boxed.new ((w.alloc (.cells #[.slice none 0 0] 40)).alloc (.cells #[sv] 40)) 137 (.func (.func 74) #[] #[])
  simp only [World.size_alloc] at bS bF
  obtain ⟨W0, hW0⟩ : ∃ W0, (((w.alloc (.cells #[.slice none 0 0] 40)).alloc (.cells #[sv] 40)).alloc (.cells #[.func (.func 74) #[] #[]] 137)) = W0 := ⟨_, rfl⟩
  rw [hW0] at hB0 hsz bA bS bF ⊢
  clear hW0
  have hw0 : w.heap.size ≤ W0.heap.size := by omega
  have hlow : ∀ b off n c, sv = .slice (some ⟨b, off, none⟩) n c → b < w.heap.size := by
    rintro b off n c rfl
    rcases hl with ⟨e, _⟩ | ⟨b', off', cap', e, _, hb', _⟩
    · cases e
    · cases e; exact hb'
  obtain ⟨i0, hi, hz0, hz1, hz2⟩ := info_parts infoTurn
  refine (wpIn_wide (n := 8)).1 ?_
  refine wpIn_rangeFunc_ownH rfl h1 (gf := 125) (lb := #[.pointer (some ⟨w.heap.size + 1, 0, none⟩), .pointer (some ⟨w.heap.size + 2, 0, none⟩)]) rfl trivial (enters_of Tryz.func125 (by kernel_rfl) rfl)
    (rightsT_stops 7 (by omega) (w.heap.size + 1) (w.heap.size + 2) w.heap.size sv [t] W0 (by omega) (by omega) (by omega) bS.cell bF.cell (hl.below hB0) hlow) KeepR.trans ?hKb (Below.refl _ _) (fun _ => rfl)
    (fun pre W => RowT w.heap.size w.heap.size W0.heap.size w pre W) (fun _ _ _ => False) ?hI ?hIx ?h0 (fun x a' W => ∃ Bx, W0.heap.size ≤ Bx ∧ W.heap[Bx]? = some (.cells (encTurn x).toArray 54 (0, 0)) ∧ a' = { tmps := #[sv, undef, .slice none 0 0, .pointer (some ⟨w.heap.size, 0, none⟩), .pointer (some ⟨Bx, 0, none⟩), undef, undef, undef, undef, undef, undef, undef, sv, .func (.func 125) #[] #[.pointer (some ⟨w.heap.size + 1, 0, none⟩), .pointer (some ⟨w.heap.size + 1 + 1, 0, none⟩)], .agg #[.int .u64 x.c, .int .u64 x.a, .int .u64 x.b, .int .u64 x.n], undef, undef, undef, undef, undef, undef, undef, undef, undef, undef, undef, undef, undef, undef, undef, undef, undef, undef, undef, undef, undef, undef, undef, undef, undef, undef, undef, undef, undef, undef, undef, undef, undef, undef, undef, undef, undef, undef, undef, undef, undef, undef, undef, undef, undef, undef, undef, undef, undef], defers := [] }) ?hAx ?assign ?body ?done ?stop
  case hKb =>
    intro W l o o' hl' _ _ _
    exact ⟨belowK_b (by omega) W l o o' hl' ‹_› ‹_› ‹_›, World.putObj_heap_other (by omega)⟩
  case hI =>
    exact OwnFrom.and (fun pre W W' row ⟨v, hv, hrow⟩ hg hr => ⟨v, boxed_keepNC hv hg (fun r e => (hr r e).2), ownsRow_keepNC hrow hg (fun r e => (hr r e).2)⟩) (OwnFrom.and (ownFrom_below (by omega) (by omega)) (OwnFrom.and (fun pre W W' row hs hg hr => Nat.le_trans hs hg.size) (fun pre W W' row hs hg hr => boxed_keepNC hs hg (fun r e => (hr r e).2))))
  case hIx => exact fun c s W W' row h _ _ => h
  case h0 => exact ⟨⟨_, bA, OwnAt.nil⟩, hB0, Nat.le_refl _, bF⟩
  case hAx =>
    intro x a' s W W' row ⟨Bx, hBx, bX, ha⟩ hg hr
    exact ⟨Bx, hBx, (hg.block Bx (Array.getElem?_eq_some_iff.1 bX).1 (fun e => by obtain ⟨_, o, ho, hc⟩ := hr Bx e.symm; rw [bX] at ho; cases ho; cases hc)).trans bX, ha⟩
  case assign => 
    intro L pre x W K hi hK
    gi_wp2
    have hk1 : KeepR w.heap.size (w.heap.size + 2) W (W.alloc (.cells #[.int .u64 x.c, .int .u64 x.a, .int .u64 x.b, .int .u64 x.n] 54)) := KeepR.of_below hi.2.1.size (by have := hi.2.2.1; omega) ((Below.refl _ _).alloc (Nat.le_refl _) _)
    refine hK _ _ ((KeepsOthers.alloc _ _).from _) hk1 ?_ ⟨W.heap.size, ?_, ?_, rfl⟩
    · obtain ⟨⟨v, hv, hrow⟩, hB, hS, hbF⟩ := hi
      exact ⟨⟨v, hv.alloc _, hrow.alloc _⟩, hB.alloc hB.size _, by simp; omega, hbF.alloc _⟩
    · exact hi.2.2.1
    · exact World.alloc_heap_new W _
  case body =>
    rintro L pre x a' W hL ⟨r, hr⟩ ⟨⟨v, hv, hrow⟩, hB, hS, hbF⟩ ⟨Bx, hBx, bX, rfl⟩ hlt
    have cX0 : W.cell? ⟨Bx, 0, none⟩ = some (.int .u64 x.c) := by simp [World.cell?, bX, encTurn]
    have cX1 : W.cell? ⟨Bx, 1, none⟩ = some (.int .u64 x.a) := by simp [World.cell?, bX, encTurn]
    have cX2 : W.cell? ⟨Bx, 2, none⟩ = some (.int .u64 x.b) := by simp [World.cell?, bX, encTurn]
    have cX3 : W.cell? ⟨Bx, 3, none⟩ = some (.int .u64 x.n) := by simp [World.cell?, bX, encTurn]
    have cv := hv.cell
    have fv := hv.frozen
    have hn1 : pre.length + 1 ≤ 1 := hlt
    have hw1 : w.heap.size ≤ W.heap.size := hB.size
    gi_wp2_with (gi_at_builtin; refine wpListIn_append_own _ rfl _ _ 40 rfl w.heap.size 54 i0 (.agg #[.int .u64 0, .int .u64 0, .int .u64 0, .int .u64 0]) 4 32 Tryz.underlying40 hi hz0 hz1 hz2 rfl (by decide) _ _ _ rfl (hrow.alloc _) ⟨W.heap.size, 0, none⟩ 1 1 (encTurn x) rfl rfl ?c1 ?c2 ?c3 ?c4 ?c5 ?_)
    case c1 =>
      intro j u hu
      have hj : j < 4 := (List.getElem?_eq_some_iff.1 hu).1
      rw [Addr.add_lit, World.cell?, World.alloc_heap_new]
      simpa [encTurn] using hu
    case c2 => intro u hu; simp [encTurn] at hu; rcases hu with rfl | rfl | rfl | rfl <;> rfl
    case c3 => unfold maxLen; omega
    case c4 => omega
    case c5 => simp; omega
    intro v' w1 hown' hgrow _
    obtain ⟨g', cap', rfl⟩ := ownsRow_succ hown'
    obtain ⟨hv1, hv2, hr2, hk2, hb2⟩ := hv.appended (by decide) hrow hw1 (Nat.le_refl _) hown' hgrow
    have hbF1 : Boxed w1 (w.heap.size + 2) 137 (.func (.func 74) #[] #[]) := (hbF.alloc _).kept hgrow (hbF.not_row (by decide) hrow)
    have hc1 := hv1.cell
    have hf1 := hv1.frozen
    gi_wp2
    have hbF2 : Boxed (w1.setCell ⟨w.heap.size, 0, none⟩ (.slice (some ⟨g', 0, none⟩) (pre.length + 1) cap')) (w.heap.size + 2) 137 (.func (.func 74) #[] #[]) := (Below.heap_setCell _ _ _ _ (by simp)).trans hbF1
    refine ⟨hk2.from _, ⟨hb2, hbF2.trans hbF.symm⟩, ⟨_, hv2, ?_⟩, hB.trans hb2, ?_, hbF2⟩
    · unfold OwnAt
      rw [List.length_append, List.flatMap_append]
      simpa using hr2
    · have h1 := hgrow.size
      simp at h1 ⊢
      omega
  case done =>
    rintro D xs W hD hxs ⟨⟨v, hv, hrow⟩, hB, hS, hbF⟩ hK
    obtain rfl : xs = [t] := by rw [hxs]; simp [HT.out]
    clear hxs
    have cv := hv.cell
    have hsort := sortT_one w.heap.size v t W hrow
    go_upto_region 6 with (go_at_call 75; refine hsort.mono ?_; rintro e W2 ⟨rfl, hd, hgrow⟩)
    have hv2 : Boxed W2 w.heap.size 40 v := hv.kept hgrow (hv.not_row (by decide) hrow)
    have hK2 : W2.heap[D]? = some (.deferred (some [])) := by
      rw [hgrow.block D (Array.getElem?_eq_some_iff.1 hK).1 ?_]; exact hK
      intro e
      rcases hrow.2 with ⟨rfl, _⟩ | ⟨g, cap, cur, rfl, _, hb, _⟩
      · cases e
      · cases e; rw [hb] at hK; cases hK
    have hB2 : Below w.heap.size w W2 := hB.grown hgrow hB.size (fun j e => by
      rcases hrow.2 with ⟨rfl, _⟩ | ⟨g, cap, cur, rfl, hb, _⟩
      · cases e
      · cases e; exact hb)
    obtain ⟨p, cap0, rfl, hdl2, hcells⟩ := (OwnAt.slice (k := 4) (enc := encTurn) (fun _ => rfl) hd).shape
    obtain ⟨b, off, rfl, hbs, hc⟩ := hcells 0 t rfl
    clear hsort hrow hv hK hgrow hd hlow hl bA bS bF hbF cv hB hf1 hf2 hsv hsz hB0 hcells
    have bR : Boxed (((W2.alloc (.cells #[.slice none 0 0] 40)).alloc (.cells #[.slice none 0 0] 40)).alloc (.cells #[.int .u64 0] 26)) W2.heap.size 40 (.slice none 0 0) := ((Boxed.new W2 40 (.slice none 0 0)).alloc _).alloc _
    have bO : Boxed (((W2.alloc (.cells #[.slice none 0 0] 40)).alloc (.cells #[.slice none 0 0] 40)).alloc (.cells #[.int .u64 0] 26)) (W2.heap.size + 1) 40 (.slice none 0 0) := by
      have := (Boxed.new (W2.alloc (.cells #[.slice none 0 0] 40)) 40 (.slice none 0 0)).alloc (.cells #[.int .u64 0] 26)
      simpa using this
    have bA : Boxed (((W2.alloc (.cells #[.slice none 0 0] 40)).alloc (.cells #[.slice none 0 0] 40)).alloc (.cells #[.int .u64 0] 26)) (W2.heap.size + 1 + 1) 26 (.int .u64 0) := by
      have := Boxed.new ((W2.alloc (.cells #[.slice none 0 0] 40)).alloc (.cells #[.slice none 0 0] 40)) 26 (.int .u64 0)
      simpa using this
    have hB3 : Below W2.heap.size W2 (((W2.alloc (.cells #[.slice none 0 0] 40)).alloc (.cells #[.slice none 0 0] 40)).alloc (.cells #[.int .u64 0] 26)) := (((Below.refl _ _).alloc (Nat.le_refl _) _).alloc (by simp) _).alloc (by simp; omega) _
    have hs3 : (((W2.alloc (.cells #[.slice none 0 0] 40)).alloc (.cells #[.slice none 0 0] 40)).alloc (.cells #[.int .u64 0] 26)).heap.size = W2.heap.size + 3 := by simp
    go_upto_region 9 with fail
    generalize (((W2.alloc (.cells #[.slice none 0 0] 40)).alloc (.cells #[.slice none 0 0] 40)).alloc (.cells #[.int .u64 0] 26)) = W3 at bR bO bA hB3 hs3 ⊢
    have hv3 : Boxed W3 w.heap.size 40 _ := (hB3.block _ hv2.lt).trans hv2
    have cv3 := hv3.cell
    have hC := Lib.hid hc
    clear hc
    go_wp2
    go_loopw [24] (fun i wr => (i = .int .i64 0 ∧ W3 = wr) ∨ (i = .int .i64 1 ∧ OpenT t (W2.heap.size + 1) (W2.heap.size + 1 + 1) W2.heap.size W2 wr)) (fun i _ => 1 - (intOf i).toNat)
    case atStart => exact .inl ⟨rfl, rfl⟩
    case round =>
      rcases hrel with ⟨rfl, rfl⟩ | ⟨rfl, hrel⟩
      · have c0 : W3.cell? ⟨b, off + 0 * 4 + 0, none⟩ = some (.int .u64 t.c) := (hB3.cell (p := ⟨b, off + 0 * 4 + 0, none⟩) hbs).trans (hC.out 0 _ rfl)
        have c1 : W3.cell? ⟨b, off + 0 * 4 + 1, none⟩ = some (.int .u64 t.a) := (hB3.cell (p := ⟨b, off + 0 * 4 + 1, none⟩) hbs).trans (hC.out 1 _ rfl)
        have c2 : W3.cell? ⟨b, off + 0 * 4 + 2, none⟩ = some (.int .u64 t.b) := (hB3.cell (p := ⟨b, off + 0 * 4 + 2, none⟩) hbs).trans (hC.out 2 _ rfl)
        have c3 : W3.cell? ⟨b, off + 0 * 4 + 3, none⟩ = some (.int .u64 t.n) := (hB3.cell (p := ⟨b, off + 0 * 4 + 3, none⟩) hbs).trans (hC.out 3 _ rfl)
        simp only [Nat.zero_mul, Nat.add_zero] at c0 c1 c2 c3
        have cO := bO.cell
        have cA := bA.cell
        have fA := bA.frozen
        go_upto_region 18 with fail
        have hB4 : Below W2.heap.size W2 ((W3.setCell ⟨W2.heap.size + 1 + 1, 0, none⟩ (.int .u64 t.a)).alloc (.cells #[.int .u64 t.c, .int .u64 t.a, .int .u64 t.b, .int .u64 t.n] 54)) := (hB3.setCell (p := ⟨W2.heap.size + 1 + 1, 0, none⟩) (by show W2.heap.size ≤ W2.heap.size + 1 + 1; omega) _).alloc (by simp; omega) _
        have bO4 : Boxed ((W3.setCell ⟨W2.heap.size + 1 + 1, 0, none⟩ (.int .u64 t.a)).alloc (.cells #[.int .u64 t.c, .int .u64 t.a, .int .u64 t.b, .int .u64 t.n] 54)) (W2.heap.size + 1) 40 (.slice none 0 0) := (bO.other (by omega) _).alloc _
        have bR4 : Boxed ((W3.setCell ⟨W2.heap.size + 1 + 1, 0, none⟩ (.int .u64 t.a)).alloc (.cells #[.int .u64 t.c, .int .u64 t.a, .int .u64 t.b, .int .u64 t.n] 54)) W2.heap.size 40 (.slice none 0 0) := (bR.other (by omega) _).alloc _
        have bA4 : Boxed ((W3.setCell ⟨W2.heap.size + 1 + 1, 0, none⟩ (.int .u64 t.a)).alloc (.cells #[.int .u64 t.c, .int .u64 t.a, .int .u64 t.b, .int .u64 t.n] 54)) (W2.heap.size + 1 + 1) 26 (.int .u64 t.a) := (bA.set _).alloc _
        have hx4 : ((W3.setCell ⟨W2.heap.size + 1 + 1, 0, none⟩ (.int .u64 t.a)).alloc (.cells #[.int .u64 t.c, .int .u64 t.a, .int .u64 t.b, .int .u64 t.n] 54)).heap[W2.heap.size + 3]? = some (.cells #[.int .u64 t.c, .int .u64 t.a, .int .u64 t.b, .int .u64 t.n] 54 (0, 0)) := by
          rw [alloc_heap_if, if_pos (by simp [hs3])]
        have hs4 : ((W3.setCell ⟨W2.heap.size + 1 + 1, 0, none⟩ (.int .u64 t.a)).alloc (.cells #[.int .u64 t.c, .int .u64 t.a, .int .u64 t.b, .int .u64 t.n] 54)).heap.size = W2.heap.size + 4 := by simp [hs3]
        generalize (W3.setCell ⟨W2.heap.size + 1 + 1, 0, none⟩ (.int .u64 t.a)).alloc (.cells #[.int .u64 t.c, .int .u64 t.a, .int .u64 t.b, .int .u64 t.n] 54) = W4 at hB4 bO4 bR4 bA4 hx4 hs4 ⊢
        clear c0 c1 c2 c3 cO cA fA cv3
        have x0 : W4.cell? ⟨W2.heap.size + 3, 0, none⟩ = some (.int .u64 t.c) := by simp [World.cell?, hx4]
        have x1 : W4.cell? ⟨W2.heap.size + 3, 1, none⟩ = some (.int .u64 t.a) := by simp [World.cell?, hx4]
        have x2 : W4.cell? ⟨W2.heap.size + 3, 2, none⟩ = some (.int .u64 t.b) := by simp [World.cell?, hx4]
        have x3 : W4.cell? ⟨W2.heap.size + 3, 3, none⟩ = some (.int .u64 t.n) := by simp [World.cell?, hx4]
        have cO4 := bO4.cell
        have hrow4 : W4.ownsRow (W2.heap.size + 4) 54 4 (.slice none 0 0) 0 [] := ⟨rfl, .inl ⟨rfl, rfl⟩⟩
        go_wp2_with (at_builtin; refine wpList_append_own _ rfl _ _ 40 rfl (W2.heap.size + 4) 54 i0 (.agg #[.int .u64 0, .int .u64 0, .int .u64 0, .int .u64 0]) 4 32 Tryz.underlying40 hi hz0 hz1 hz2 rfl (by decide) _ _ _ rfl (hrow4.alloc _) ⟨W2.heap.size + 4, 0, none⟩ 1 1 (encTurn t) rfl rfl ?d1 ?d2 ?d3 ?d4 ?d5 ?_)
        case d1 => exact turnCells _ _ t hs4.symm
        case d2 => exact encTurn_one t
        case d3 => decide
        case d4 => decide
        case d5 => simp [hs4]
        intro v' w1 hown' hgrow hne
        obtain ⟨g, cap, rfl⟩ := ownsRow_succ hown'
        have bO5 : Boxed w1 (W2.heap.size + 1) 40 (.slice none 0 0) := (bO4.alloc _).kept hgrow (by simp [Value.ownBlock])
        have bR5 : Boxed w1 W2.heap.size 40 (.slice none 0 0) := (bR4.alloc _).kept hgrow (by simp [Value.ownBlock])
        have bA5 : Boxed w1 (W2.heap.size + 1 + 1) 26 (.int .u64 t.a) := (bA4.alloc _).kept hgrow (by simp [Value.ownBlock])
        have hB5 : Below W2.heap.size W2 w1 := (hB4.alloc hB4.size _).grown hgrow (by simp; omega) (fun j e => by cases e)
        have cO5 := bO5.cell
        have fO5 := bO5.frozen
        clear hgrow hrow4 x0 x1 x2 x3 cO4
        go_wp2
        refine ⟨?rel, by simp [intOf]⟩
        case rel =>
          repeat apply Exists.intro
          refine ⟨.inr ⟨rfl, ?_⟩, rfl⟩
          have hsl := OwnAt.slice (α := QTurn) (k := 4) (enc := encTurn) (l := [t]) (fun _ => rfl) hown'
          obtain ⟨_, ⟨h0, _⟩ | ⟨g2, cap2, cur, h1, h2, h3, h4, h5, h6, h7⟩⟩ := hown'
          · cases h0
          cases h1
          obtain ⟨p, cap3, e3, _, hcl⟩ := hsl.shape
          cases e3
          obtain ⟨b3, off3, e4, hb3, hc3⟩ := hcl 0 t rfl
          cases e4
          have hgO : ¬ g = W2.heap.size + 1 := by omega
          refine ⟨g, cap, cur, bO5.set _, bA5.other (by omega) _, bR5.other (by omega) _, (Below.heap_setCell _ _ _ _ (by show ¬ g = W2.heap.size + 1; omega)).trans h3, by omega, by omega, fun j v h => ?_, by omega, hB5.setCell (p := ⟨W2.heap.size + 1, 0, none⟩) (by show W2.heap.size ≤ W2.heap.size + 1; omega) _⟩
          have := hc3 j v h
          rw [World.cell?, Below.heap_setCell _ _ _ _ (by show ¬ g = W2.heap.size + 1; omega)]
          simpa [World.cell?] using this
      · obtain ⟨g, cap, cur, bO6, bA6, bR6, hg6, hcur, hcap, hc6, hgg, hB6⟩ := hrel
        have hunt := until_one t (W2.heap.size + 1) (W2.heap.size + 1 + 1) W2.heap.size g cap cur wr HT.out bO6 bA6 bR6 hg6 hcur hcap hc6 (by omega) (by omega) (by omega) (by omega) (by omega) (by omega)
        have cO := bO6.cell
        have e0 : wr.cell? ⟨g, 0, none⟩ = some (.int .u64 t.c) := hc6 0 _ rfl
        have hK6 : wr.heap[D]? = some (.deferred (some [])) := (hB6.block D (Array.getElem?_eq_some_iff.1 hK2).1).trans hK2
        have hDl := (Array.getElem?_eq_some_iff.1 hK2).1
        have hD6 := (Array.getElem?_eq_some_iff.1 hK6).1
        clear hc6 hg6 cv3
        go_wp2_with (go_at_call 79; refine hunt.mono ?_; rintro e w7 ⟨rfl, h7a, ⟨v7, h7o, h7c⟩, h7m⟩)
        have hK7 : w7.heap[D]? = some (.deferred (some [])) := (h7m.block D hD6 (by omega)).trans hK6
        have hz6 := hB6.size
        have hz2 := hB2.size
        have hB7 : Below w.heap.size w w7 := ⟨h7m.os.trans (hB6.os.trans hB2.os), h7m.tape.trans (hB6.tape.trans hB2.tape), h7m.output.trans (hB6.output.trans hB2.output), by have := h7m.size; omega, fun k hk => ((h7m.block k (by omega) (by omega)).trans (hB6.block k (by omega))).trans (hB2.block k hk)⟩
        refine ⟨by simp, .inl ⟨_, _, rfl, run_takeDeferred hK7, ?_⟩⟩
        refine ⟨_, results_tmp rfl _ _ _, ⟨_, rfl, ?_, ?_⟩⟩
        · have hr : (w7.putObj D (.deferred none)).ownsRow wr.heap.size 54 4 v7 [t].length ([t].flatMap encTurn) := ownsRow_putObj h7o _ hK7 rfl
          exact ownsRow_base hr (by omega)
        · exact hB7.trans (belowK_b (w := w) (Nat.le_refl _) w7 D _ _ (by omega) hK7 rfl rfl)
  case stop => exact fun _ _ _ _ _ _ h _ => h.elim
end Go.Proofs.YthhbiliimdpgmaaGreatDoor
/- Walks: a document's readers: Stamp, Turns. -/
namespace Go.Proofs.YthhbiliimdpgmaaGreatDoor
open Go.RowKit Go.Shelf Go.Lib

theorem stamp_any (n : Nat) (kl : List (Int × Value)) (wl : List (QId × Value)) (hv vv : Value) (st : Int) (w : World) (hd : DocC n w kl wl hv vv st) :
    Calls Tryz.prog 8 #[.pointer (some ⟨n + 11, 0, none⟩)] w fun e w' => e = .returned (.int .u64 st) ∧ Below w.heap.size w w' := by
  have c := hd.cell 11 _ rfl
  have hl := hd.lt
  go_enter Tryz.func8, Tryz.ntmps8
  go_wp2
  go_ret
  exact ⟨rfl, by (repeat (first | exact Below.refl _ _ | assumption | refine Below.alloc ?_ (by simp <;> omega) _ | refine Below.drew ?_ | refine below_drewN ?_ _ | refine Below.setCell ?_ (by simp <;> omega) _ | refine belowTrans ?_ (by assumption)))⟩
theorem turns_none (n : Nat) (kl : List (Int × Value)) (wl : List (QId × Value)) (hv vv : Value) (st : Int) (w : World) (hd : DocC n w kl wl hv vv st) :
    Calls Tryz.prog 48 #[.pointer (some ⟨n + 11, 0, none⟩)] w fun e w' => e = .returned (.slice none 0 0) ∧ w = w' := by
  have c := hd.cell 2 _ rfl
  have hl := hd.lt
  have hcl := fun w => AnyE.slices_Clone_nil Tryz.cloneTurn 0 0 w
  unfold noS at c
  go_enter Tryz.func48, Tryz.ntmps48
  go_wp2_with (go_at_call 97; refine (hcl _).mono ?_; rintro e w1 ⟨rfl, rfl⟩)
  go_ret
  exact ⟨rfl, rfl⟩
end Go.Proofs.YthhbiliimdpgmaaGreatDoor
