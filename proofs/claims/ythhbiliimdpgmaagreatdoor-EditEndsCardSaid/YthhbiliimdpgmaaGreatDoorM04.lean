/- Walk: ids.Clean. -/
import Derived.Test.YthhbiliimdpgmaaGreatDoorM01
import Derived.Test.YthhbiliimdpgmaaGreatDoorM03
import Derived.Test.YthhbiliimdpgmaaGreatDoorM02
import Derived.Maps.AppendAt
import Derived.BigRegionIn
import Derived.Deep.DeepCutAuto
namespace Go.Proofs.YthhbiliimdpgmaaGreatDoor
open Go.RowKit Go.Shelf

attribute [local go_sem] Oper.semAt_some

theorem infoRng : (Tryz.prog.info? 95).map (fun i => (i.zero, i.size, i.bytes)) = some (some (.agg #[.int .u64 0, .int .u64 0, .int .u64 0]), 3, 24) := by kernel_rfl

/-- between two rounds: what came lies in the boxed row. -/
def RowI (B n₀ S : Nat) (w : World) (pre : List QRng) (W : World) : Prop :=
  (∃ v, Boxed W B 65 v ∧ OwnAt n₀ 95 3 encRng W v pre) ∧ Below n₀ w W ∧ S ≤ W.heap.size ∧ Boxed W (B + 2) 150 (.func (.func 85) #[] #[])

theorem boxed_keepNC {W W' : World} {row : Option Nat} {B : Nat} {t : TypeId} {v : Value} (h : Boxed W B t v) (hg : W.grownBy W' row) (hr : ∀ r, row = some r → ∃ o : Obj, W.heap[r]? = some o ∧ o.isCells = false) : Boxed W' B t v :=
  h.kept hg fun e => by
    obtain ⟨o, ho, hc⟩ := hr B e.symm
    rw [show W.heap[B]? = some (.cells #[v] t (0, 0)) from h] at ho
    cases ho; cases hc
theorem ownsRow_keepNC {W W' : World} {row : Option Nat} {base e size n : Nat} {v : Value} {xs : List Value} (h : W.ownsRow base e size v n xs) (hg : W.grownBy W' row) (hr : ∀ r, row = some r → ∃ o : Obj, W.heap[r]? = some o ∧ o.isCells = false) : W'.ownsRow base e size v n xs := by
  refine h.kept hg ?_
  rcases h.2 with ⟨rfl, _⟩ | ⟨g, cap, cur, rfl, _, hb, _⟩
  · exact .inl rfl
  · refine .inr fun e => ?_
    obtain ⟨o, ho, hc⟩ := hr g e.symm
    rw [hb] at ho
    cases ho; cases hc

theorem ownsRow_base {w : World} {base base' : Nat} {e : TypeId} {size : Nat} {v : Value} {n : Nat} {xs : List Value} (h : w.ownsRow base e size v n xs) (hb : base' ≤ base) : w.ownsRow base' e size v n xs := by
  obtain ⟨h1, h2 | ⟨g, cap, cur, hv, hg, rest⟩⟩ := h
  · exact ⟨h1, .inl h2⟩
  · exact ⟨h1, .inr ⟨g, cap, cur, hv, by omega, rest⟩⟩

theorem rngCells (w : World) (B : Nat) (x : QRng) (hB : B = w.heap.size) : ∀ j u, (encRng x)[j]? = some u → (w.alloc (.cells #[.int .u64 x.c, .int .u64 x.a, .int .u64 x.b] 95)).cell? ((⟨B, 0, none⟩ : Addr).add j) = some u := by
  subst hB
  intro j u hu
  rw [Addr.add_lit, World.cell?, World.alloc_heap_new]
  simpa [encRng] using hu

/-- what ids.Clean hands back. -/
def CleanRes (l : List QRng) (w : World) (v : Value) (w' : World) : Prop :=
  ∃ d, d.Perm (l.filter QRng.rightB) ∧ SortedRngs d ∧ OwnAt w.heap.size 95 3 encRng w' v (joinRngs d) ∧ Below w.heap.size w w'

set_option maxRecDepth 100000 in
set_option maxHeartbeats 4000000 in
theorem clean_any (sv : Value) (l : List QRng) (w : World) (hl : SliceAt 3 encRng w sv l) (hlen : l.length * 24 ≤ 140737488355328) (hsv : sv.oneCell' = true) :
    Calls Tryz.prog 39 #[sv] w (RetW (CleanRes l w)) := by
  refine (callsIn_wide (n := 8)).1 ?_
  have hf1 : Fence.wide.fn 84 := trivial
  have hf2 : Fence.wide.fn 86 := trivial
  have h1 : 1 ≤ 8 := by omega
  refine callsIn_of_wp_marks Tryz.func39 rfl trivial ?_ rfl
  simp only [Tryz.ntmps39, List.size_toArray, List.length_cons, List.length_nil, Nat.reduceAdd, Nat.reduceSub, Array.replicate_succ, Array.replicate_zero, List.push_toArray, List.append_toArray, List.nil_append, List.cons_append]
  refine wpIn_wide.2 ?_
  go_wp2
  go_step3
  go_wp2_with (go_at_call 84; refine (callsIn_wide.1 (rights_in 7 _ _ _ hsv rfl)).mono ?_; rintro e w' ⟨rfl, rfl⟩)
  have hB0 : Below w.heap.size w (((w.alloc (.cells #[.slice none 0 0] 65)).alloc (.cells #[sv] 65)).alloc (.cells #[.func (.func 85) #[] #[]] 150)) := by (repeat (first | exact Below.refl _ _ | assumption | refine Below.alloc ?_ (by simp <;> omega) _ | refine Below.drew ?_ | refine below_drewN ?_ _ | refine Below.setCell ?_ (by simp <;> omega) _ | refine belowTrans ?_ (by assumption)))
  have hsz : (((w.alloc (.cells #[.slice none 0 0] 65)).alloc (.cells #[sv] 65)).alloc (.cells #[.func (.func 85) #[] #[]] 150)).heap.size = w.heap.size + 3 := by simp
  have bA := ((Boxed.new w 65 (.slice none 0 0)).alloc (.cells #[sv] 65)).alloc (.cells #[.func (.func 85) #[] #[]] 150)
  have bS := (Boxed.new (w.alloc (.cells #[.slice none 0 0] 65)) 65 sv).alloc (.cells #[.func (.func 85) #[] #[]] 150)
  have bF := Boxed.new ((w.alloc (.cells #[.slice none 0 0] 65)).alloc (.cells #[sv] 65)) 150 (.func (.func 85) #[] #[])
  simp only [World.size_alloc] at bS bF
  obtain ⟨W0, hW0⟩ : ∃ W0, (((w.alloc (.cells #[.slice none 0 0] 65)).alloc (.cells #[sv] 65)).alloc (.cells #[.func (.func 85) #[] #[]] 150)) = W0 := ⟨_, rfl⟩
  rw [hW0] at hB0 hsz bA bS bF ⊢
  clear hW0
  have hw0 : w.heap.size ≤ W0.heap.size := by omega
  have hlow : ∀ b off n c, sv = .slice (some ⟨b, off, none⟩) n c → b < w.heap.size := by
    rintro b off n c rfl
    rcases hl with ⟨e, _⟩ | ⟨b', off', cap', e, _, hb', _⟩
    · cases e
    · cases e; exact hb'
  obtain ⟨i0, hi, hz0, hz1, hz2⟩ := info_parts infoRng
  refine (wpIn_wide (n := 8)).1 ?_
  refine wpIn_rangeFunc_ownH rfl h1 (gf := 130) (lb := #[.pointer (some ⟨w.heap.size + 1, 0, none⟩), .pointer (some ⟨w.heap.size + 2, 0, none⟩)]) rfl trivial (enters_of Tryz.func130 (by kernel_rfl) rfl)
    (rights_stops 7 (by omega) (w.heap.size + 1) (w.heap.size + 2) w.heap.size sv l W0 (by omega) (by omega) (by omega) bS.cell bF.cell (hl.below hB0) hlow) KeepR.trans ?hKb (Below.refl _ _) (fun _ => rfl)
    (fun pre W => RowI w.heap.size w.heap.size W0.heap.size w pre W) (fun _ _ _ => False) ?hI ?hIx ?h0 (fun x a' W => ∃ Bx, W0.heap.size ≤ Bx ∧ W.heap[Bx]? = some (.cells (encRng x).toArray 95 (0, 0)) ∧ a' = { tmps := #[sv, undef, .slice none 0 0, .pointer (some ⟨w.heap.size, 0, none⟩), .pointer (some ⟨Bx, 0, none⟩), undef, undef, undef, undef, sv, .func (.func 130) #[] #[.pointer (some ⟨w.heap.size + 1, 0, none⟩), .pointer (some ⟨w.heap.size + 1 + 1, 0, none⟩)], .agg #[.int .u64 x.c, .int .u64 x.a, .int .u64 x.b], undef, undef, undef, undef, undef, undef, undef, undef, undef, undef, undef, undef, undef, undef, undef, undef, undef, undef, undef, undef, undef, undef, undef, undef, undef, undef, undef, undef, undef, undef, undef, undef, undef, undef, undef, undef, undef, undef, undef, undef, undef, undef, undef, undef, undef, undef, undef, undef, undef, undef, undef, undef, undef, undef, undef], defers := [] }) ?hAx ?assign ?body ?done ?stop
  case hKb =>
    intro W l o o' hl' _ _ _
    exact ⟨belowK_b (by omega) W l o o' hl' ‹_› ‹_› ‹_›, World.putObj_heap_other (by omega)⟩
  case hI =>
    exact OwnFrom.and (fun pre W W' row ⟨v, hv, hrow⟩ hg hr => ⟨v, boxed_keepNC hv hg (fun r e => (hr r e).2), ownsRow_keepNC hrow hg (fun r e => (hr r e).2)⟩) (OwnFrom.and (ownFrom_below (by omega) (by omega)) (OwnFrom.and (fun pre W W' row hs hg hr => Nat.le_trans hs hg.size) (fun pre W W' row hs hg hr => boxed_keepNC hs hg (fun r e => (hr r e).2))))
  case hIx => exact fun c s W W' row h _ _ => h
  case h0 => exact ⟨⟨_, bA, OwnAt.nil⟩, hB0, Nat.le_refl _, bF⟩
  case hAx =>
    intro x a' s W W' row ⟨Bx, hBx, bX, ha⟩ hg hr
    exact ⟨Bx, hBx, (hg.block Bx (Array.getElem?_eq_some_iff.1 bX).1 (fun e => by obtain ⟨_, o, ho, hc⟩ := hr Bx e.symm; rw [bX] at ho; cases ho; cases hc)).trans bX, ha⟩
  case assign => 
    intro L pre x W K hi hK
    gi_wp2
    have hk1 : KeepR w.heap.size (w.heap.size + 2) W (W.alloc (.cells #[.int .u64 x.c, .int .u64 x.a, .int .u64 x.b] 95)) := KeepR.of_below hi.2.1.size (by have := hi.2.2.1; omega) ((Below.refl _ _).alloc (Nat.le_refl _) _)
    refine hK _ _ ((KeepsOthers.alloc _ _).from _) hk1 ?_ ⟨W.heap.size, ?_, ?_, rfl⟩
    · obtain ⟨⟨v, hv, hrow⟩, hB, hS, hbF⟩ := hi
      exact ⟨⟨v, hv.alloc _, hrow.alloc _⟩, hB.alloc hB.size _, by simp; omega, hbF.alloc _⟩
    · exact hi.2.2.1
    · exact World.alloc_heap_new W _
  case body =>
    rintro L pre x a' W hL ⟨r, hr⟩ ⟨⟨v, hv, hrow⟩, hB, hS, hbF⟩ ⟨Bx, hBx, bX, rfl⟩ hlt
    have cX0 : W.cell? ⟨Bx, 0, none⟩ = some (.int .u64 x.c) := by simp [World.cell?, bX, encRng]
    have cX1 : W.cell? ⟨Bx, 1, none⟩ = some (.int .u64 x.a) := by simp [World.cell?, bX, encRng]
    have cX2 : W.cell? ⟨Bx, 2, none⟩ = some (.int .u64 x.b) := by simp [World.cell?, bX, encRng]
    have cv := hv.cell
    have fv := hv.frozen
    have hn1 : pre.length + 1 ≤ l.length := hlt
    have hw1 : w.heap.size ≤ W.heap.size := hB.size
    gi_wp2_with (gi_at_builtin; refine wpListIn_append_own _ rfl _ _ 65 rfl w.heap.size 95 i0 (.agg #[.int .u64 0, .int .u64 0, .int .u64 0]) 3 24 Tryz.underlying65 hi hz0 hz1 hz2 rfl (by decide) _ _ _ rfl (hrow.alloc _) ⟨W.heap.size, 0, none⟩ 1 1 (encRng x) rfl rfl ?c1 ?c2 ?c3 ?c4 ?c5 ?_)
    case c1 =>
      intro j u hu
      have hj : j < 3 := (List.getElem?_eq_some_iff.1 hu).1
      rw [Addr.add_lit, World.cell?, World.alloc_heap_new]
      simpa [encRng] using hu
    case c2 => intro u hu; simp [encRng] at hu; rcases hu with rfl | rfl | rfl <;> rfl
    case c3 => unfold maxLen; omega
    case c4 => omega
    case c5 => simp; omega
    intro v' w1 hown' hgrow _
    obtain ⟨g', cap', rfl⟩ := ownsRow_succ hown'
    obtain ⟨hv1, hv2, hr2, hk2, hb2⟩ := hv.appended (by decide) hrow hw1 (Nat.le_refl _) hown' hgrow
    have hbF1 : Boxed w1 (w.heap.size + 2) 150 (.func (.func 85) #[] #[]) := (hbF.alloc _).kept hgrow (hbF.not_row (by decide) hrow)
    have hc1 := hv1.cell
    have hf1 := hv1.frozen
    gi_wp2
    have hbF2 : Boxed (w1.setCell ⟨w.heap.size, 0, none⟩ (.slice (some ⟨g', 0, none⟩) (pre.length + 1) cap')) (w.heap.size + 2) 150 (.func (.func 85) #[] #[]) := (Below.heap_setCell _ _ _ _ (by simp)).trans hbF1
    refine ⟨hk2.from _, ⟨hb2, hbF2.trans hbF.symm⟩, ⟨_, hv2, ?_⟩, hB.trans hb2, ?_, hbF2⟩
    · unfold OwnAt
      rw [List.length_append, List.flatMap_append]
      simpa using hr2
    · have h1 := hgrow.size
      simp at h1 ⊢
      omega
  case done =>
    rintro D xs W hD rfl ⟨⟨v, hv, hrow⟩, hB, hS, hbF⟩ hK
    have cv := hv.cell
    have hlf : (l.filter QRng.rightB).length ≤ l.length := List.length_filter_le _ _
    have hsort := sortRng_any w.heap.size v _ W hrow (by omega)
    go_wp2_with (go_at_call 86; refine hsort.mono ?_; rintro e W2 ⟨rfl, d, hperm, hpw, hd, hgrow⟩)
    have hv2 : Boxed W2 w.heap.size 65 v := hv.kept hgrow (hv.not_row (by decide) hrow)
    have cv2 := hv2.cell
    have hK2 : W2.heap[D]? = some (.deferred (some [])) := by
      rw [hgrow.block D (Array.getElem?_eq_some_iff.1 hK).1 ?_]; exact hK
      intro e
      rcases hrow.2 with ⟨rfl, _⟩ | ⟨g, cap, cur, rfl, _, hb, _⟩
      · cases e
      · cases e; rw [hb] at hK; cases hK
    have hB2 : Below w.heap.size w W2 := hB.grown hgrow hB.size (fun j e => by
      rcases hrow.2 with ⟨rfl, _⟩ | ⟨g, cap, cur, rfl, hb, _⟩
      · cases e
      · cases e; exact hb)
    have hdl : d.length ≤ l.length := by rw [hperm.length_eq]; exact hlf
    obtain ⟨p, cap, rfl, hdl2, hcells⟩ := (OwnAt.slice (k := 3) (enc := encRng) (fun _ => rfl) hd).shape
    clear hsort hrow hv hK hgrow hd hlow hl bA bS bF hbF cv hB hf1 hf2 hsv hsz hB0 hv2
    go_wp2
    go_step3
    go_wp2
    obtain ⟨S2, hS2⟩ : ∃ S2, S2 = W2.heap.size := ⟨_, rfl⟩
    have HS2 := Lib.hid hS2
    go_loopw [5, 20] (fun o i wr => ∃ k : Nat, k ≤ d.length ∧ i = .int .i64 k ∧ OwnAt S2 95 3 encRng wr o (joinRngs (d.take k)) ∧ (joinRngs (d.take k) = [] → o = .slice none 0 0) ∧ Below S2 W2 wr) (fun _ i _ => d.length - (intOf i).toNat)
    case atStart => exact ⟨0, Nat.zero_le _, rfl, OwnAt.nil, fun _ => rfl, Below.refl _ _⟩
    case round =>
      obtain ⟨k, hk, rfl, ho, hnil, hb⟩ := hrel
      clear hS2
      by_cases hlt : k < d.length
      · have hltz : (k : Int) < (d.length : Int) := by omega
        obtain ⟨b, off, rfl, hbs, hc⟩ := hcells k d[k] (by simp)
        have hbS : b < S2 := by rw [HS2.out]; exact hbs
        have c0 := (hb.cell (p := ⟨b, off + k * 3 + 0, none⟩) hbS).trans (hc 0 _ rfl)
        have c1 := (hb.cell (p := ⟨b, off + k * 3 + 1, none⟩) hbS).trans (hc 1 _ rfl)
        have c2 := (hb.cell (p := ⟨b, off + k * 3 + 2, none⟩) hbS).trans (hc 2 _ rfl)
        have hstep : joinRngs (d.take (k + 1)) = mergeRng (joinRngs (d.take k)) d[k] := by
          unfold joinRngs
          rw [List.take_succ_eq_append_getElem hlt, List.foldl_append]
          rfl
        have HST := Lib.hid hstep
        clear hstep hc hcells
        generalize d[k] = x at c0 c1 c2 HST
        have hjl := joinRngs_length (d.take k)
        rw [List.length_take, Nat.min_eq_left hk] at hjl
        generalize joinRngs (d.take k) = out at ho hnil HST hjl
        simp only [Nat.add_zero] at c0
        rcases List.eq_nil_or_concat out with rfl | ⟨ys, y, rfl⟩
        · obtain rfl := hnil rfl
          clear hnil
          go_wp2
          go_quiet (fail)
          go_wp2_with (at_builtin; refine wpList_append_own _ rfl _ _ 65 rfl S2 95 i0 (.agg #[.int .u64 0, .int .u64 0, .int .u64 0]) 3 24 Tryz.underlying65 hi hz0 hz1 hz2 rfl (by decide) _ _ _ rfl (show World.ownsRow _ S2 95 3 (.slice none 0 0) 0 [] from ⟨rfl, .inl ⟨rfl, rfl⟩⟩) ⟨wr.heap.size + 1, 0, none⟩ 1 1 (encRng x) rfl rfl ?d1 ?d2 ?d3 ?d4 ?d5 ?_)
          case d1 => exact rngCells _ _ x (by simp)
          case d2 => exact encRng_one x
          case d3 => unfold maxLen; omega
          case d4 => omega
          case d5 => have := hb.size; rw [← HS2.out] at this; simp; omega
          intro v' w1 hown' hgrow hne
          go_wp2
          go_roundw
          case rel => exact ⟨k + 1, by omega, by go_num, by rw [HST.out]; exact hown', fun h => by rw [HST.out] at h; simp [mergeRng] at h, (((below_drewN (hb.alloc (by have := hb.size; rw [← HS2.out] at this; omega) _) nq).alloc (by have := hb.size; rw [← HS2.out] at this; simp; omega) _).grown hgrow (by have := hb.size; rw [← HS2.out] at this; simp; omega) (fun j e => by cases e))⟩
          case measure => simp [intOf]; omega
        · have HN : ys.concat y = ys ++ [y] := List.concat_eq_append
          rw [HN] at ho HST
          obtain ⟨ho1, ⟨_, h0⟩ | ⟨g2, cap2, cur, rfl, hg2, hcur, hn2, hm2, hcs, htk⟩⟩ := ho
          · simp at h0
          have ho : OwnAt S2 95 3 encRng wr (.slice (some ⟨g2, 0, none⟩) (ys ++ [y]).length cap2) (ys ++ [y]) := ⟨ho1, .inr ⟨g2, cap2, cur, rfl, hg2, hcur, hn2, hm2, hcs, htk⟩⟩
          obtain ⟨p3, cap3, e3, hle3, hc3⟩ := (OwnAt.slice (k := 3) (enc := encRng) (fun _ => rfl) ho).shape
          cases e3
          obtain ⟨b3, off3, e4, hb3, hc4⟩ := hc3 ys.length y (by simp)
          cases e4
          have y0 := hc4 0 _ rfl
          have y1 := hc4 1 _ rfl
          have y2 := hc4 2 _ rfl
          clear hc4 hc3 ho1 htk hnil HN
          simp only [Nat.zero_add, Nat.add_zero, List.length_append, List.length_cons, List.length_nil] at y0 y1 y2 hn2 hle3
          rw [show (ys ++ [y]).length = ys.length + 1 by simp]
          obtain ⟨m, hm⟩ : ∃ m, m = ys.length := ⟨_, rfl⟩
          have HM := Lib.hid hm
          rw [← hm] at y0 y1 y2 hn2 hle3 ⊢
          clear hm
          have ho' : wr.ownsRow S2 95 3 (.slice (some ⟨g2, 0, none⟩) (m + 1) cap2) (m + 1) ((ys ++ [y]).flatMap encRng) := by
            have h5 := ho
            unfold OwnAt at h5
            rw [show (ys ++ [y]).length = m + 1 by rw [HM.out]; simp] at h5
            exact h5
          by_cases hj : y.c = x.c ∧ x.a ≤ y.b
          · obtain ⟨hj1, hj2⟩ := hj
            have t1 : ((y.c : Int) == x.c) = true := by simpa using hj1
            have t2 : decide (x.a ≤ y.b) = true := by simpa using hj2
            have t0 : decide ((0 : Int) ≤ (m : Int)) = true := by simp
            have t3 : (m : Int) < (m : Int) + 1 := by omega
            clear hj1 hj2
            go_wp2
            go_quiet (fail)
            go_wp2
            have x2 : ((wr.alloc (.cells #[.int .u64 x.c, .int .u64 x.a, .int .u64 x.b] 95)).drewN nq).cell? ⟨wr.heap.size, 2, none⟩ = some (.int .u64 x.b) := by go_simp
            have y2' : ((wr.alloc (.cells #[.int .u64 x.c, .int .u64 x.a, .int .u64 x.b] 95)).drewN nq).cell? ⟨g2, m * 3 + 2, none⟩ = some (.int .u64 y.b) := by go_simp
            have ho3 : OwnAt S2 95 3 encRng ((wr.alloc (.cells #[.int .u64 x.c, .int .u64 x.a, .int .u64 x.b] 95)).drewN nq) (.slice (some ⟨g2, 0, none⟩) (m + 1) cap2) (ys ++ [y]) := by
              have h5 : OwnAt S2 95 3 encRng (wr.alloc (.cells #[.int .u64 x.c, .int .u64 x.a, .int .u64 x.b] 95)) (.slice (some ⟨g2, 0, none⟩) (ys ++ [y]).length cap2) (ys ++ [y]) := World.ownsRow.alloc ho _
              rw [show (ys ++ [y]).length = m + 1 by rw [HM.out]; simp] at h5
              exact h5
            have hb4 : Below S2 W2 ((wr.alloc (.cells #[.int .u64 x.c, .int .u64 x.a, .int .u64 x.b] 95)).drewN nq) := below_drewN (hb.alloc (by have := hb.size; rw [← HS2.out] at this; omega) _) nq
            have ff : ((wr.alloc (.cells #[.int .u64 x.c, .int .u64 x.a, .int .u64 x.b] 95)).drewN nq).frozen? ⟨g2, m * 3 + 2, none⟩ = false := by
              show World.frozen? (wr.alloc _) _ = false
              simp [World.frozen?, (Below.heap_alloc wr _ g2 hb3).trans hcur]
            obtain ⟨W3, hW3⟩ : ∃ W3, ((wr.alloc (.cells #[.int .u64 x.c, .int .u64 x.a, .int .u64 x.b] 95)).drewN nq) = W3 := ⟨_, rfl⟩
            rw [hW3] at x2 y2' ho3 hb4 ff ⊢
            clear hW3 y0 y1 y2 c0 c1 c2 hb ho cv2
            go_still_tail 12, (by kernel_rfl)
            change wpList _ _ _ _ _ W3.drew
            go_wp2
            go_roundw
            case rel =>
              refine ⟨k + 1, by omega, by go_num, ?_, fun h => ?_, ?_⟩
              · have h6 := OwnAt.set (k := 3) (enc := encRng) (i := 2) (z := ⟨y.c, y.a, max y.b x.b⟩) (x := y) (fun _ => rfl) ho3 (j := m) (by rw [HM.out]; simp) (by decide) rfl
                rw [HST.out, mergeRng]
                simp only [List.getLast?_append, List.getLast?_singleton, Option.some_or]
                rw [if_pos ⟨by simpa using t1, by simpa using t2⟩]
                have e := HM.out
                subst e
                show OwnAt S2 95 3 encRng (W3.setCell _ _) _ _
                simpa using h6
              · rw [HST.out, mergeRng] at h
                simp only [List.getLast?_append, List.getLast?_singleton, Option.some_or] at h
                split at h <;> simp at h
              · exact (hb4.setCell (p := ⟨g2, m * 3 + 2, none⟩) hg2 _).drew
            case measure => simp [intOf]; omega
          · have hmerge : mergeRng (ys ++ [y]) x = ys ++ [y] ++ [x] := by
              unfold mergeRng
              simp only [List.getLast?_append, List.getLast?_singleton, Option.some_or]
              rw [if_neg hj]
            rw [hmerge] at HST
            have hb' := hb.size
            rw [← HS2.out] at hb'
            have hmd : m + 1 + 1 ≤ l.length := by rw [HM.out]; simp at hjl; omega
            have t0 : decide ((0 : Int) ≤ (m : Int)) = true := by simp
            have t3 : (m : Int) < (m : Int) + 1 := by omega
            by_cases hj1 : y.c = x.c
            · have t1 : ((y.c : Int) == x.c) = true := by simpa using hj1
              have t2 : decide (x.a ≤ y.b) = false := by
                have : ¬ x.a ≤ y.b := fun h => hj ⟨hj1, h⟩
                simpa using this
              clear hj hj1 hmerge
              go_wp2
              go_quiet (fail)
              go_wp2_with (at_builtin; refine wpList_append_own _ rfl _ _ 65 rfl S2 95 i0 (.agg #[.int .u64 0, .int .u64 0, .int .u64 0]) 3 24 Tryz.underlying65 hi hz0 hz1 hz2 rfl (by decide) _ _ _ rfl ((show World.ownsRow ((wr.alloc _).drewN nq) _ _ _ _ _ _ from ho'.alloc _).alloc _) ⟨wr.heap.size + 1, 0, none⟩ 1 1 (encRng x) rfl rfl ?f1 ?f2 ?f3 ?f4 ?f5 ?_)
              case f1 => exact rngCells _ _ x (by simp)
              case f2 => exact encRng_one x
              case f3 => unfold maxLen; omega
              case f4 => omega
              case f5 => simp; omega
              intro v' w1 hown' hgrow hne
              go_wp2
              go_roundw
              case rel =>
                refine ⟨k + 1, by omega, by go_num, ?_, fun h => ?_, ?_⟩
                · rw [HST.out]
                  unfold OwnAt
                  rw [show (ys ++ [y] ++ [x]).length = m + 1 + 1 by rw [HM.out]; simp]
                  simpa using hown'
                · rw [HST.out] at h; simp at h
                · exact ((below_drewN (hb.alloc hb' _) nq).alloc (by simp; omega) _).grown hgrow (by simp; omega) (fun j e => by cases e; exact hg2)
              case measure => simp [intOf]; omega
            · have t1 : ((y.c : Int) == x.c) = false := by simpa using hj1
              clear hj hj1 hmerge
              go_wp2
              go_quiet (fail)
              go_wp2_with (at_builtin; refine wpList_append_own _ rfl _ _ 65 rfl S2 95 i0 (.agg #[.int .u64 0, .int .u64 0, .int .u64 0]) 3 24 Tryz.underlying65 hi hz0 hz1 hz2 rfl (by decide) _ _ _ rfl ((show World.ownsRow ((wr.alloc _).drewN nq) _ _ _ _ _ _ from ho'.alloc _).alloc _) ⟨wr.heap.size + 1, 0, none⟩ 1 1 (encRng x) rfl rfl ?h1 ?h2 ?h3 ?h4 ?h5 ?_)
              case h1 => exact rngCells _ _ x (by simp)
              case h2 => exact encRng_one x
              case h3 => unfold maxLen; omega
              case h4 => omega
              case h5 => simp; omega
              intro v' w1 hown' hgrow hne
              go_wp2
              go_roundw
              case rel =>
                refine ⟨k + 1, by omega, by go_num, ?_, fun h => ?_, ?_⟩
                · rw [HST.out]
                  unfold OwnAt
                  rw [show (ys ++ [y] ++ [x]).length = m + 1 + 1 by rw [HM.out]; simp]
                  simpa using hown'
                · rw [HST.out] at h; simp at h
                · exact ((below_drewN (hb.alloc hb' _) nq).alloc (by simp; omega) _).grown hgrow (by simp; omega) (fun j e => by cases e; exact hg2)
              case measure => simp [intOf]; omega
      · have hltz : ¬ (k : Int) < (d.length : Int) := by omega
        obtain rfl : k = d.length := by omega
        rw [List.take_length] at ho
        go_wp2
        have hK3 : wr.heap[D]? = some (.deferred (some [])) := (hb.block D (by rw [HS2.out]; exact (Array.getElem?_eq_some_iff.1 hK2).1)).trans hK2
        refine ⟨by simp, .inl ⟨_, _, rfl, run_takeDeferred hK3, ?_⟩⟩
        have hbl : w.heap.size ≤ D := by have := hB2; omega
        refine ⟨_, results_tmp rfl _ _ _, ⟨_, rfl, d, hperm, hpw, ?_, ?_⟩⟩
        · have hr : (wr.putObj D (.deferred none)).ownsRow S2 95 3 u5 (joinRngs d).length ((joinRngs d).flatMap encRng) := ownsRow_putObj ho _ hK3 rfl
          exact ownsRow_base hr (by rw [HS2.out]; exact hB2.size)
        · exact (hB2.trans (hb.mono (by rw [HS2.out]; exact hB2.size))).trans (belowK_b (w := w) (Nat.le_refl _) wr D _ _ hbl hK3 rfl rfl)
  case stop => exact fun _ _ _ _ _ _ h _ => h.elim
end Go.Proofs.YthhbiliimdpgmaaGreatDoor
