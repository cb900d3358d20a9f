/- Walk: utf.Cut. -/
import Derived.Test.YtaeebgljcdfolaaGreatDoorM16
import Derived.Test.YtaeebgljcdfolaaGreatDoorM04
namespace Go.Proofs.YtaeebgljcdfolaaGreatDoor
open Go.RowKit Go.Shelf Go.Lib

attribute [local go_sem] Oper.semAt_some

/-- those of the pairs whose place is among [f, t). -/
def selP (f t : Nat) (l : List (Int × Nat)) : List Int := (l.filter fun x => decide (f ≤ x.2) && decide (x.2 < t)).map (·.1)
theorem selP_snoc (f t : Nat) (l : List (Int × Nat)) (x : Int × Nat) : selP f t (l ++ [x]) = if f ≤ x.2 ∧ x.2 < t then selP f t l ++ [x.1] else selP f t l := by
  unfold selP
  rw [List.filter_append, List.map_append]
  by_cases h : f ≤ x.2 ∧ x.2 < t
  · rw [if_pos h]; simp [h.1, h.2]
  · rw [if_neg h]
    have : (decide (f ≤ x.2) && decide (x.2 < t)) = false := by simpa using h
    simp [this]
theorem selP_le (f t : Nat) (l : List (Int × Nat)) : (selP f t l).length ≤ l.length := by
  unfold selP
  rw [List.length_map]
  exact List.length_filter_le _ _
theorem selP_zip (f t : Nat) : ∀ (rs : List Int) (n : Nat), selP f t (rs.zipIdx n) = (rs.take (t - n)).drop (f - n)
  | [], n => by simp [selP]
  | r :: rs, n => by
    have ih := selP_zip f t rs (n + 1)
    rw [List.zipIdx_cons]
    have e : selP f t ((r, n) :: rs.zipIdx (n + 1)) = if f ≤ n ∧ n < t then r :: selP f t (rs.zipIdx (n + 1)) else selP f t (rs.zipIdx (n + 1)) := by
      have := selP_snoc f t [] (r, n)
      unfold selP at this ⊢
      by_cases h : f ≤ n ∧ n < t
      · rw [if_pos h]; simp [h.1, h.2]
      · rw [if_neg h]
        have h2 : (decide (f ≤ n) && decide (n < t)) = false := by simpa using h
        simp [h2]
    rw [e, ih]
    by_cases ht : n < t
    · obtain ⟨m, hm⟩ : ∃ m, t - n = m + 1 := ⟨t - n - 1, by omega⟩
      rw [hm, show t - (n + 1) = m by omega, List.take_succ_cons]
      by_cases hf : f ≤ n
      · rw [if_pos ⟨hf, ht⟩, show f - n = 0 by omega, show f - (n + 1) = 0 by omega]; rfl
      · rw [if_neg (fun h => hf h.1)]
        obtain ⟨j, hj⟩ : ∃ j, f - n = j + 1 := ⟨f - n - 1, by omega⟩
        rw [hj, show f - (n + 1) = j by omega, List.drop_succ_cons]
    · rw [if_neg (fun h => ht h.2), show t - n = 0 by omega, show t - (n + 1) = 0 by omega]
      simp
theorem selP_pairs (s : ByteArray) (f t : Nat) : estr (selP f t (runePairs s)) = cutB s f t := by
  unfold runePairs cutB
  rw [selP_zip, Nat.sub_zero, Nat.sub_zero]

/-- between two rounds. -/
def CutI (n₀ S f t : Nat) (w : World) (pre : List (Int × Nat)) (W : World) : Prop :=
  (∃ v, Boxed W (n₀ + 2) 90 v ∧ OwnAt n₀ 21 1 encR W v (selP f t pre)) ∧ Below n₀ w W ∧ S ≤ W.heap.size ∧ Boxed W n₀ 3 (.int .i64 f) ∧ Boxed W (n₀ + 1) 3 (.int .i64 t) 

set_option maxRecDepth 100000 in
set_option maxHeartbeats 4000000 in
theorem utfCut_any (s : ByteArray) (f t : Nat) (w : World) (hs : s.size ≤ 1000000000000) (hT : Tabs w) :
    Calls Tryz.prog 64 #[.string s, .int .i64 f, .int .i64 t] w fun e w' => e = .returned (.string (cutB s f t)) ∧ Below w.heap.size w w' := by
  refine (callsIn_wide (n := 8)).1 ?_
  have hf1 : Fence.wide.fn 99 := trivial
  have h1 : 1 ≤ 8 := by omega
  refine callsIn_of_wp_marks Tryz.func64 rfl trivial ?_ rfl
  simp only [Tryz.ntmps64, List.size_toArray, List.length_cons, List.length_nil, Nat.reduceAdd, Nat.reduceSub, Array.replicate_succ, Array.replicate_zero, List.push_toArray, List.append_toArray, List.nil_append, List.cons_append]
  refine wpIn_wide.2 ?_
  go_wp2_with (go_at_call 99; refine (callsIn_wide.1 (utfRunes_in 7 s _)).mono ?_; rintro e w' ⟨rfl, rfl⟩)
  have hB0 : Below w.heap.size w ((((w.alloc (.cells #[.int .i64 f] 3)).alloc (.cells #[.int .i64 t] 3)).alloc (.cells #[.slice none 0 0] 90)).alloc (.cells #[.string s] 9)) := by (repeat (first | exact Below.refl _ _ | assumption | refine Below.alloc ?_ (by simp <;> omega) _ | refine Below.drew ?_ | refine below_drewN ?_ _ | refine Below.setCell ?_ (by simp <;> omega) _ | refine belowTrans ?_ (by assumption)))
  have hsz : ((((w.alloc (.cells #[.int .i64 f] 3)).alloc (.cells #[.int .i64 t] 3)).alloc (.cells #[.slice none 0 0] 90)).alloc (.cells #[.string s] 9)).heap.size = w.heap.size + 4 := by simp
  have bF := (((Boxed.new w 3 (.int .i64 f)).alloc (.cells #[.int .i64 t] 3)).alloc (.cells #[.slice none 0 0] 90)).alloc (.cells #[.string s] 9)
  have bT := ((Boxed.new (w.alloc (.cells #[.int .i64 f] 3)) 3 (.int .i64 t)).alloc (.cells #[.slice none 0 0] 90)).alloc (.cells #[.string s] 9)
  have bO := (Boxed.new ((w.alloc (.cells #[.int .i64 f] 3)).alloc (.cells #[.int .i64 t] 3)) 90 (.slice none 0 0)).alloc (.cells #[.string s] 9)
  have bS := Boxed.new (((w.alloc (.cells #[.int .i64 f] 3)).alloc (.cells #[.int .i64 t] 3)).alloc (.cells #[.slice none 0 0] 90)) 9 (.string s)
  simp only [World.size_alloc] at bT bO bS
  obtain ⟨W0, hW0⟩ : ∃ W0, ((((w.alloc (.cells #[.int .i64 f] 3)).alloc (.cells #[.int .i64 t] 3)).alloc (.cells #[.slice none 0 0] 90)).alloc (.cells #[.string s] 9)) = W0 := ⟨_, rfl⟩
  rw [hW0] at hB0 hsz bF bT bO bS ⊢
  clear hW0
  have hw0 : w.heap.size ≤ W0.heap.size := by omega
  have hT0 := hT.below hB0
  obtain ⟨i0, hi, hz0, hz1, hz2⟩ := info_parts infoR
  have hpl := runePairs_length s
  have hrl : (runesB s).length ≤ 1000000000000 := by
    cases hok : okB s
    · rw [runes_bad hok]; decide
    · have := count_runes hok
      have := Lib.runeCount_le s
      omega
  refine (wpIn_wide (n := 8)).1 ?_
  refine wpIn_rangeFunc_ownH rfl h1 (gf := 119) (lb := #[.pointer (some ⟨w.heap.size + 1 + 1 + 1, 0, none⟩)]) rfl trivial (enters_of Tryz.func119 (by kernel_rfl) rfl)
    (utfRunes_stops 7 (by omega) (w.heap.size + 1 + 1 + 1) s hs W0 (by omega) bS.cell hT0) walksK_t (fun W l o o' hl h h2 h3 => walksK_b (w := W0) W l o o' hl h h2 h3) (Below.refl _ _) (fun _ => rfl)
    (fun pre W => CutI w.heap.size W0.heap.size f t w pre W) (fun _ _ _ => False) ?hI ?hIx ?h0 (fun x a' _ => a' = { tmps := #[.string s, .int .i64 f, .int .i64 t, undef, .pointer (some ⟨w.heap.size, 0, none⟩), .pointer (some ⟨w.heap.size + 1, 0, none⟩), .string ⟨#[]⟩, .pointer (some ⟨w.heap.size + 1 + 1, 0, none⟩), .int .i64 (x.2 : Int), .int .i32 x.1, .string s, .func (.func 119) #[] #[.pointer (some ⟨w.heap.size + 1 + 1 + 1, 0, none⟩)], .int .i64 (x.2 : Int), .int .i32 x.1, undef, undef, undef, undef, undef, undef, undef, undef, undef, undef, undef, undef, undef, undef], defers := [] }) ?hAx ?assign ?body ?done ?stop
  case hI =>
    exact OwnFrom.and (fun pre W W' row ⟨v, hv, hrow⟩ hg hr => ⟨v, boxed_keepNC hv hg (fun r e => (hr r e).2), ownsRow_keepNC hrow hg (fun r e => (hr r e).2)⟩) (OwnFrom.and (ownFrom_below (by omega) (by omega)) (OwnFrom.and (fun pre W W' row hs hg hr => Nat.le_trans hs hg.size) (OwnFrom.and (fun pre W W' row hs hg hr => boxed_keepNC hs hg (fun r e => (hr r e).2)) (fun pre W W' row hs hg hr => boxed_keepNC hs hg (fun r e => (hr r e).2)))))
  case hIx => exact fun c s W W' row h _ _ => h
  case h0 => exact ⟨⟨_, bO, OwnAt.nil⟩, hB0, Nat.le_refl _, bF, bT⟩
  case hAx =>
    intro x a' s W W' row ha hg hr
    exact ha
  case assign =>
    intro L pre x W K hi hK
    gi_wp2
    exact hK _ _ ((KeepsOthers.refl _).from _) (KeepsWalks.refl _) hi rfl
  case body =>
    rintro L pre x a' W hL ⟨r, hr⟩ ⟨⟨v, hv, hrow⟩, hB, hS, hbF, hbT⟩ rfl hlt
    have cF := hbF.cell
    have cT := hbT.cell
    have cv := hv.cell
    have fv := hv.frozen
    have hw1 : w.heap.size ≤ W.heap.size := hB.size
    have hle := selP_le f t pre
    have hsn := selP_snoc f t pre x
    have hln : (selP f t pre).length + 1 ≤ 1000000000000 := by omega
    obtain ⟨r1, k1⟩ := x
    simp only at hsn ⊢
    by_cases hin : f ≤ k1 ∧ k1 < t
    · rw [if_pos hin] at hsn
      obtain ⟨h2, h3⟩ := hin
      have Hsn := Lib.hid hsn
      clear hsn
      gi_wp2_with (gi_at_builtin; refine wpListIn_append_own _ rfl _ _ 90 rfl w.heap.size 21 i0 (.int .i32 0) 1 4 Tryz.underlying90 hi hz0 hz1 hz2 rfl (by decide) _ _ _ rfl (hrow.alloc _) ⟨W.heap.size, 0, none⟩ 1 1 [.int .i32 r1] rfl rfl ?c1 ?c2 ?c3 ?c4 ?c5 ?_)
      case c1 => exact cell_one_new _ _ _
      case c2 => simp [Value.oneCell']
      case c3 => unfold maxLen; omega
      case c4 => omega
      case c5 => simp; omega
      intro v' w1 hown' hgrow _
      obtain ⟨g', cap', rfl⟩ := ownsRow_succ hown'
      obtain ⟨hv1, hv2, hr2, hk2, hb2⟩ := hv.appended (by decide) hrow hw1 (by omega) hown' hgrow
      have hbF1 : Boxed w1 w.heap.size 3 (.int .i64 f) := (hbF.alloc _).kept hgrow (hbF.not_row (by decide) hrow)
      have hbT1 : Boxed w1 (w.heap.size + 1) 3 (.int .i64 t) := (hbT.alloc _).kept hgrow (hbT.not_row (by decide) hrow)
      have hc1 := hv1.cell
      have hf1 := hv1.frozen
      gi_wp2
      have hbF2 : Boxed (w1.setCell ⟨w.heap.size + 1 + 1, 0, none⟩ (.slice (some ⟨g', 0, none⟩) ((selP f t pre).length + 1) cap')) w.heap.size 3 (.int .i64 f) := (Below.heap_setCell _ _ _ _ (by show ¬ w.heap.size = w.heap.size + 1 + 1; omega)).trans hbF1
      have hbT2 : Boxed (w1.setCell ⟨w.heap.size + 1 + 1, 0, none⟩ (.slice (some ⟨g', 0, none⟩) ((selP f t pre).length + 1) cap')) (w.heap.size + 1) 3 (.int .i64 t) := (Below.heap_setCell _ _ _ _ (by show ¬ w.heap.size + 1 = w.heap.size + 1 + 1; omega)).trans hbT1
      refine ⟨hk2.from _, hk2.walks, ⟨_, hv2, ?_⟩, hB.trans hb2, ?_, hbF2, hbT2⟩
      · rw [Hsn.out]
        unfold OwnAt
        rw [List.length_append, List.flatMap_append]
        simpa [encR] using hr2
      · have h1 := hgrow.size
        simp at h1 ⊢
        omega
    · rw [if_neg hin] at hsn
      have Hsn := Lib.hid hsn
      clear hsn
      have hend : CutI w.heap.size W0.heap.size f t w (pre ++ [(r1, k1)]) W := ⟨⟨v, hv, by rw [Hsn.out]; exact hrow⟩, hB, hS, hbF, hbT⟩
      by_cases h2 : f ≤ k1
      · have h3 : ¬ k1 < t := fun h => hin ⟨h2, h⟩
        clear hin
        gi_wp2
        exact ⟨(KeepsOthers.refl _).from _, KeepsWalks.refl _, hend⟩
      · clear hin
        gi_wp2
        exact ⟨(KeepsOthers.refl _).from _, KeepsWalks.refl _, hend⟩
  case done =>
    rintro D xs W hD rfl ⟨⟨v, hv, hrow⟩, hB, hS, hbF, hbT⟩ hK
    have cv := hv.cell
    have hcv : (convert 90 9 v).run Tryz.prog W = .ok (.string (cutB s f t)) W := by
      rw [← selP_pairs]
      generalize selP f t (runePairs s) = rs at hrow
      rcases hrow.2 with ⟨rfl, e⟩ | ⟨g, cap, cur, rfl, _, hcur, hn, _⟩
      · obtain rfl : rs = [] := List.eq_nil_of_length_eq_zero e
        exact run_convert_runes_nil W 90 9 21 0 0 Tryz.underlying90 Tryz.underlying21 Tryz.underlying9
      · have := run_convert_runes (P := Tryz.prog) W 90 9 21 ⟨g, 0, none⟩ rs.length cap rs (Nat.le_refl _) Tryz.underlying90 Tryz.underlying21 Tryz.underlying9 (fun j hj => by
          rw [Addr.add_lit, Nat.zero_add]
          have h1 := World.ownsRow.cellAt hrow j (by omega)
          have h2 := flat_get (enc := encR) (k := 1) (fun _ => rfl) rs j 0 rs[j] (by simp [hj]) (by omega)
          rw [Nat.mul_one, Nat.add_zero] at h2
          refine h1.trans (h2.trans ?_)
          simp [encR, List.getD, hj])
        rw [this, List.take_length]
        rfl
    clear hrow hbF hbT
    go_wp2
    refine ⟨by simp, .inl ⟨_, _, rfl, run_takeDeferred hK, ?_⟩⟩
    have hbl : w.heap.size ≤ D := by omega
    exact ⟨_, results_tmp rfl _ _ _, ⟨rfl, hB.trans (belowK_b (w := w) (Nat.le_refl _) W D _ _ hbl hK rfl rfl)⟩⟩
  case stop => exact fun _ _ _ _ _ _ h _ => h.elim
end Go.Proofs.YtaeebgljcdfolaaGreatDoor
