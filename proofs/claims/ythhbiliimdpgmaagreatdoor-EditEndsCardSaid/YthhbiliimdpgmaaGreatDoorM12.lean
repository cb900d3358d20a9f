/- utf.Runes: the iterator over a text's runes. -/
import Derived.Test.YthhbiliimdpgmaaGreatDoorM06
import Derived.Test.YthhbiliimdpgmaaGreatDoorM01
import Derived.Lib.OthersKept
import Derived.Test.YthhbiliimdpgmaaGreatDoorM04
namespace Go.Proofs.YthhbiliimdpgmaaGreatDoor
open Go.RowKit Go.Shelf Go.Lib

set_option maxHeartbeats 1000000 in
/-- Runes(s): it is boxed, the function value captures the box. -/
theorem utfRunes_in (n : Nat) (s : ByteArray) (w : World) :
    CallsIn Fence.wide n Tryz.prog 111 #[.string s] w fun e w' => e = .returned (.func (.func 144) #[] #[.pointer (some ⟨w.heap.size, 0, none⟩)]) ∧ w' = w.alloc (.cells #[.string s] 9) := by
  refine callsIn_of_wp Tryz.func111 rfl trivial ?_ rfl
  simp only [Tryz.ntmps111, List.size_toArray, List.length_cons, List.length_nil, Nat.reduceAdd, Nat.reduceSub, Array.replicate_succ, Array.replicate_zero, List.push_toArray, List.append_toArray, List.nil_append, List.cons_append]
  gi_wp2
  go_ret
  exact ⟨rfl, rfl⟩

/-- what it brings: each rune with its place. -/
def runePairs (s : ByteArray) : List (Int × Nat) := (runesB s).zipIdx
theorem runePairs_length (s : ByteArray) : (runePairs s).length = (runesB s).length := by simp [runePairs]
theorem runePairs_succ (s : ByteArray) {k : Nat} {r : Int} (h : (runesB s)[k]? = some r) : (runePairs s).take (k + 1) = (runePairs s).take k ++ [(r, k)] := by
  have hk := (List.getElem?_eq_some_iff.1 h)
  obtain ⟨hlt, he⟩ := hk
  rw [List.take_succ_eq_append_getElem (by rw [runePairs_length]; exact hlt)]
  congr 2
  simp [runePairs, he]
theorem abides_iter {β : Type} {B : Nat} {J : β → World → Prop} (hJ : AbidesFrom B J) {w : World} {k : Nat} {s : ByteArray} {p : Nat} (hk : w.heap[k]? = some (.stringIter s p)) (hB : B ≤ k) (p' : Nat) {x : β} (hx : J x w) : J x (w.iterAt k s p') :=
  hJ x w _ (some k) hx (grownBy_putObj' w k _) (fun r e => by cases e; exact ⟨hB, _, hk, rfl⟩)

set_option maxRecDepth 100000 in
set_option maxHeartbeats 2000000 in
/-- the closure: for every loop body that leaves iterators alone. -/
theorem utfRunes1_in (n : Nat) (hn : 3 ≤ n) (L Bs : Nat) (s : ByteArray) (hs : s.size ≤ 1000000000000) (J Jx : List (Int × Nat) → World → Prop)
    (hY : ∀ pre x W, J pre W → pre.length < (runePairs s).length → YieldAt Fence.wide (n - 1) Tryz.prog L #[.int .i64 (x.2 : Int), .int .i32 x.1] W fun e W' =>
      (e = .returned (.bool true) ∧ J (pre ++ [x]) W' ∧ KeepsWalks W W') ∨ (e = .returned (.bool false) ∧ Jx (pre ++ [x]) W'))
    (W : World) (hJ : AbidesFrom W.heap.size J) (hBs : W.cell? ⟨Bs, 0, none⟩ = some (.string s)) (hBl : Bs < W.heap.size) (hT : Tabs W) (h0 : J [] W) :
    CallsIn Fence.wide n Tryz.prog 144 #[.func (.yield L) #[] #[], .pointer (some ⟨Bs, 0, none⟩)] W fun e W' => (∃ v, e = .returned v) ∧
      ((∃ ys, ys = runePairs s ∧ J ys W') ∨ (∃ pre, pre <+: runePairs s ∧ Jx pre W')) := by
  have hv := fun w hw => (callsIn_wide (n := n - 1)).2 (utfCheck_any s w (by omega) hw)
  have hok := fun h => count_runes (s := s) h
  have hn1 : 1 ≤ n := by omega
  have hfn : Fence.wide.fn 44 := trivial
  refine callsIn_of_wp Tryz.func144 rfl trivial ?_ rfl
  simp only [Tryz.ntmps144, List.size_toArray, List.length_cons, List.length_nil, Nat.reduceAdd, Nat.reduceSub, Array.replicate_succ, Array.replicate_zero, List.push_toArray, List.append_toArray, List.nil_append, List.cons_append]
  cases hb : okB s
  · have hr := runes_bad hb
    have Hp := Lib.hid (show runePairs s = [] by unfold runePairs; rw [hr]; rfl)
    rw [hb] at hv
    clear hb hr hok
    gi_wp2_with fail
    refine (hv _ hT).mono ?_
    rintro e w1 ⟨rfl, hb1⟩
    gi_wp2
    refine bodyPost_ret (results_none rfl _ _ _) rfl ?_
    exact ⟨⟨_, rfl⟩, .inl ⟨_, rfl, by rw [Hp.out]; exact abides_below hJ hb1 h0⟩⟩
  · obtain ⟨rs, hrs⟩ := Option.isSome_iff_exists.1 (show (runesL s.data.toList).isSome = true from hb)
    obtain ⟨he, ho⟩ := text_of_runes hrs
    have hrb : runesB s = rs := by unfold runesB; rw [hrs]; rfl
    have hsz : s.size = (ebytes rs).length := by conv => lhs; rw [he]
                                                 exact estr_size ho
    have hdec : ∀ {k : Nat} {r : Int}, rs[k]? = some r → Utf8.decode s (eoff rs k) = (r.toNat, (encodeRune r).length) := fun h => by rw [he]; exact decode_place ho h
    rw [hb] at hv
    have Hrb := Lib.hid hrb
    have Hsz := Lib.hid hsz
    have hlen := runePairs_length s
    rw [hrb] at hlen
    have Hlen := Lib.hid hlen
    clear hb hrs hrb hok he hsz hlen
    gi_wp2_with fail
    refine (hv _ hT).mono ?_
    rintro e w1 ⟨rfl, hb1⟩
    have hJ1 := abides_below hJ hb1 h0
    have cB : w1.cell? ⟨Bs, 0, none⟩ = some (.string s) := (hb1.cell (p := ⟨Bs, 0, none⟩) hBl).trans hBs
    have hz1 := hb1.size
    clear h0 hBs hT hv
    gi_wp2
    have hJ2 : J [] (w1.iter s 0) := abides_below hJ ((Below.refl _ _).alloc (Nat.le_refl _) _) hJ1
    have hI2 := World.iter_heap w1 s 0
    obtain ⟨W2, hW2⟩ : ∃ W2, w1.iter s 0 = W2 := ⟨_, rfl⟩
    rw [hW2] at hJ2 hI2 ⊢
    obtain ⟨B, hB⟩ : ∃ B, w1.heap.size = B := ⟨_, rfl⟩
    have hWB : W.heap.size ≤ B := by omega
    rw [hB] at hI2 ⊢
    clear hW2 hB hJ1 cB hz1 hb1
    gi_loopw [3] (fun i wr => ∃ k : Nat, k ≤ rs.length ∧ i = .int .i64 k ∧ wr.heap[B]? = some (.stringIter s (eoff rs k)) ∧ J ((runePairs s).take k) wr) (fun i _ => rs.length - (intOf i).toNat)
    case atStart => exact ⟨0, Nat.zero_le _, rfl, by rw [eoff_zero]; exact hI2, by rw [List.take_zero]; exact hJ2⟩
    case round =>
      obtain ⟨k, hk, rfl, hI, hJs⟩ := hrel
      clear hI2 hJ2
      by_cases hlt : k < rs.length
      · obtain ⟨r, hr⟩ : ∃ r, rs[k]? = some r := ⟨rs[k], by simp [hlt]⟩
        have hrl := List.getElem?_eq_some_iff.1 hr
        have hps := runePairs_succ s (k := k) (r := r) (by rw [Hrb.out]; exact hr)
        have HPS := Lib.hid hps
        have hr0 : 0 ≤ r := by have := ho r (List.mem_of_getElem? hr); unfold okRune at this; omega
        have hnx := fun ty => run_next_any_at (P := Tryz.prog) wr B s (eoff rs k) ty hI (by rw [Hsz.out]; exact eoff_lt rs hlt)
        rw [hdec hr] at hnx
        simp only [Int.toNat_of_nonneg hr0] at hnx
        rw [← eoff_succ rs hr] at hnx
        have hI3 := iterAt_heap wr B s (eoff rs k) (eoff rs (k + 1)) hI
        have hJ3 := abides_iter hJ hI hWB (eoff rs (k + 1)) hJs
        obtain ⟨W3, hW3⟩ : ∃ W3, wr.iterAt B s (eoff rs (k + 1)) = W3 := ⟨_, rfl⟩
        rw [hW3] at hJ3 hI3 hnx
        have hpl : ((runePairs s).take k).length < (runePairs s).length := by rw [List.length_take, Hlen.out]; omega
        obtain ⟨fn, tmps, assign, body, hy, hR⟩ := hY _ (r, k) W3 hJ3 hpl
        have HI3 := Lib.hid hI3
        have hk9 : k ≤ 1000000000000 := by
          have := (ebytes_length rs).1
          have := Hsz.out
          omega
        clear hY hW3 hps hr hrl hI hJs hI3 hJ3 hdec hpl ho
        gi_wp2
        refine hR.mono ?_
        rintro e W4 (⟨rfl, hJ4, hk4⟩ | ⟨rfl, hJx4⟩)
        · have hI4 := hk4.same B _ HI3.out rfl
          gi_wp2
          go_roundw
          case rel => exact ⟨k + 1, by omega, by simp, hI4, by rw [HPS.out]; exact hJ4⟩
          case measure => simp [intOf]; omega
        · gi_wp2
          refine bodyPost_ret (results_none rfl _ _ _) rfl ?_
          exact ⟨⟨_, rfl⟩, .inr ⟨_, by rw [← HPS.out]; exact List.take_prefix _ _, hJx4⟩⟩
      · obtain rfl : k = rs.length := by omega
        have hnx := fun ty => run_next_end_at (P := Tryz.prog) wr B s (eoff rs rs.length) ty hI (by rw [Hsz.out, eoff_end]; omega)
        rw [← Hlen.out, List.take_length] at hJs
        clear hY hI hdec
        gi_wp2
        go_end0
        exact ⟨⟨_, rfl⟩, .inl ⟨_, rfl, hJs⟩⟩

/-- Runes(s) hands back a value that brings its runes, in order. -/
theorem utfRunes_stops (n : Nat) (hn : 3 ≤ n) (Bs : Nat) (s : ByteArray) (hs : s.size ≤ 1000000000000) (w : World) (hBs : Bs < w.heap.size) (hc : w.cell? ⟨Bs, 0, none⟩ = some (.string s)) (hT : Tabs w) :
    SeqStopsK Fence.wide n Tryz.prog 144 #[.pointer (some ⟨Bs, 0, none⟩)] (fun x : Int × Nat => #[.int .i64 (x.2 : Int), .int .i32 x.1]) KeepsWalks (fun ys => ys = runePairs s) (fun pre => pre <+: runePairs s) (runePairs s).length w := fun L J Jx W hW hJ _ hY h0 =>
  utfRunes1_in n hn L Bs s hs J Jx hY W hJ ((hW.cell (p := ⟨Bs, 0, none⟩) hBs).trans hc) (Nat.lt_of_lt_of_le hBs hW.size) (hT.below hW) h0
end Go.Proofs.YthhbiliimdpgmaaGreatDoor
/- Walk: utf.Cut. -/
namespace Go.Proofs.YthhbiliimdpgmaaGreatDoor
open Go.RowKit Go.Shelf Go.Lib

attribute [local go_sem] Oper.semAt_some

/-- those of the pairs whose place is among [f, t). -/
def selP (f t : Nat) (l : List (Int × Nat)) : List Int := (l.filter fun x => decide (f ≤ x.2) && decide (x.2 < t)).map (·.1)
theorem selP_snoc (f t : Nat) (l : List (Int × Nat)) (x : Int × Nat) : selP f t (l ++ [x]) = if f ≤ x.2 ∧ x.2 < t then selP f t l ++ [x.1] else selP f t l := by
  unfold selP
  rw [List.filter_append, List.map_append]
  by_cases h : f ≤ x.2 ∧ x.2 < t
  · rw [if_pos h]; simp [h.1, h.2]
  · rw [if_neg h]
    have : (decide (f ≤ x.2) && decide (x.2 < t)) = false := by simpa using h
    simp [this]
theorem selP_le (f t : Nat) (l : List (Int × Nat)) : (selP f t l).length ≤ l.length := by
  unfold selP
  rw [List.length_map]
  exact List.length_filter_le _ _
theorem selP_zip (f t : Nat) : ∀ (rs : List Int) (n : Nat), selP f t (rs.zipIdx n) = (rs.take (t - n)).drop (f - n)
  | [], n => by simp [selP]
  | r :: rs, n => by
    have ih := selP_zip f t rs (n + 1)
    rw [List.zipIdx_cons]
    have e : selP f t ((r, n) :: rs.zipIdx (n + 1)) = if f ≤ n ∧ n < t then r :: selP f t (rs.zipIdx (n + 1)) else selP f t (rs.zipIdx (n + 1)) := by
      have := selP_snoc f t [] (r, n)
      unfold selP at this ⊢
      by_cases h : f ≤ n ∧ n < t
      · rw [if_pos h]; simp [h.1, h.2]
      · rw [if_neg h]
        have h2 : (decide (f ≤ n) && decide (n < t)) = false := by simpa using h
        simp [h2]
    rw [e, ih]
    by_cases ht : n < t
    · obtain ⟨m, hm⟩ : ∃ m, t - n = m + 1 := ⟨t - n - 1, by omega⟩
      rw [hm, show t - (n + 1) = m by omega, List.take_succ_cons]
      by_cases hf : f ≤ n
      · rw [if_pos ⟨hf, ht⟩, show f - n = 0 by omega, show f - (n + 1) = 0 by omega]; rfl
      · rw [if_neg (fun h => hf h.1)]
        obtain ⟨j, hj⟩ : ∃ j, f - n = j + 1 := ⟨f - n - 1, by omega⟩
        rw [hj, show f - (n + 1) = j by omega, List.drop_succ_cons]
    · rw [if_neg (fun h => ht h.2), show t - n = 0 by omega, show t - (n + 1) = 0 by omega]
      simp
theorem selP_pairs (s : ByteArray) (f t : Nat) : estr (selP f t (runePairs s)) = cutB s f t := by
  unfold runePairs cutB
  rw [selP_zip, Nat.sub_zero, Nat.sub_zero]

/-- between two rounds. -/
def CutI (n₀ S f t : Nat) (w : World) (pre : List (Int × Nat)) (W : World) : Prop :=
  (∃ v, Boxed W (n₀ + 2) 172 v ∧ OwnAt n₀ 21 1 encR W v (selP f t pre)) ∧ Below n₀ w W ∧ S ≤ W.heap.size ∧ Boxed W n₀ 3 (.int .i64 f) ∧ Boxed W (n₀ + 1) 3 (.int .i64 t) 

set_option maxRecDepth 100000 in
set_option maxHeartbeats 4000000 in
theorem utfCut_any (s : ByteArray) (f t : Nat) (w : World) (hs : s.size ≤ 1000000000000) (hT : Tabs w) :
    Calls Tryz.prog 64 #[.string s, .int .i64 f, .int .i64 t] w fun e w' => e = .returned (.string (cutB s f t)) ∧ Below w.heap.size w w' := by
  refine (callsIn_wide (n := 8)).1 ?_
  have hf1 : Fence.wide.fn 111 := trivial
  have h1 : 1 ≤ 8 := by omega
  refine callsIn_of_wp_marks Tryz.func64 rfl trivial ?_ rfl
  simp only [Tryz.ntmps64, List.size_toArray, List.length_cons, List.length_nil, Nat.reduceAdd, Nat.reduceSub, Array.replicate_succ, Array.replicate_zero, List.push_toArray, List.append_toArray, List.nil_append, List.cons_append]
  refine wpIn_wide.2 ?_
  go_wp2_with (go_at_call 111; refine (callsIn_wide.1 (utfRunes_in 7 s _)).mono ?_; rintro e w' ⟨rfl, rfl⟩)
  have hB0 : Below w.heap.size w ((((w.alloc (.cells #[.int .i64 f] 3)).alloc (.cells #[.int .i64 t] 3)).alloc (.cells #[.slice none 0 0] 172)).alloc (.cells #[.string s] 9)) := by (repeat (first | exact Below.refl _ _ | assumption | refine Below.alloc ?_ (by simp <;> omega) _ | refine Below.drew ?_ | refine below_drewN ?_ _ | refine Below.setCell ?_ (by simp <;> omega) _ | refine belowTrans ?_ (by assumption)))
  have hsz : ((((w.alloc (.cells #[.int .i64 f] 3)).alloc (.cells #[.int .i64 t] 3)).alloc (.cells #[.slice none 0 0] 172)).alloc (.cells #[.string s] 9)).heap.size = w.heap.size + 4 := by simp
  have bF := (((Boxed.new w 3 (.int .i64 f)).alloc (.cells #[.int .i64 t] 3)).alloc (.cells #[.slice none 0 0] 172)).alloc (.cells #[.string s] 9)
  have bT := ((Boxed.new (w.alloc (.cells #[.int .i64 f] 3)) 3 (.int .i64 t)).alloc (.cells #[.slice none 0 0] 172)).alloc (.cells #[.string s] 9)
  have bO := (Boxed.new ((w.alloc (.cells #[.int .i64 f] 3)).alloc (.cells #[.int .i64 t] 3)) 172 (.slice none 0 0)).alloc (.cells #[.string s] 9)
  have bS := Boxed.new (((w.alloc (.cells #[.int .i64 f] 3)).alloc (.cells #[.int .i64 t] 3)).alloc (.cells #[.slice none 0 0] 172)) 9 (.string s)
  simp only [World.size_alloc] at bT bO bS
  obtain ⟨W0, hW0⟩ : ∃ W0, ((((w.alloc (.cells #[.int .i64 f] 3)).alloc (.cells #[.int .i64 t] 3)).alloc (.cells #[.slice none 0 0] 172)).alloc (.cells #[.string s] 9)) = W0 := ⟨_, rfl⟩
  rw [hW0] at hB0 hsz bF bT bO bS ⊢
  clear hW0
  have hw0 : w.heap.size ≤ W0.heap.size := by omega
  have hT0 := hT.below hB0
  obtain ⟨i0, hi, hz0, hz1, hz2⟩ := info_parts infoR
  have hpl := runePairs_length s
  have hrl : (runesB s).length ≤ 1000000000000 := by
    cases hok : okB s
    · rw [runes_bad hok]; decide
    · have := count_runes hok
      have := Lib.runeCount_le s
      omega
  refine (wpIn_wide (n := 8)).1 ?_
  refine wpIn_rangeFunc_ownH rfl h1 (gf := 144) (lb := #[.pointer (some ⟨w.heap.size + 1 + 1 + 1, 0, none⟩)]) rfl trivial (enters_of Tryz.func144 (by kernel_rfl) rfl)
    (utfRunes_stops 7 (by omega) (w.heap.size + 1 + 1 + 1) s hs W0 (by omega) bS.cell hT0) walksK_t (fun W l o o' hl h h2 h3 => walksK_b (w := W0) W l o o' hl h h2 h3) (Below.refl _ _) (fun _ => rfl)
    (fun pre W => CutI w.heap.size W0.heap.size f t w pre W) (fun _ _ _ => False) ?hI ?hIx ?h0 (fun x a' _ => a' = { tmps := #[.string s, .int .i64 f, .int .i64 t, undef, .pointer (some ⟨w.heap.size, 0, none⟩), .pointer (some ⟨w.heap.size + 1, 0, none⟩), .string ⟨#[]⟩, .pointer (some ⟨w.heap.size + 1 + 1, 0, none⟩), .int .i64 (x.2 : Int), .int .i32 x.1, .string s, .func (.func 144) #[] #[.pointer (some ⟨w.heap.size + 1 + 1 + 1, 0, none⟩)], .int .i64 (x.2 : Int), .int .i32 x.1, undef, undef, undef, undef, undef, undef, undef, undef, undef, undef, undef, undef, undef, undef], defers := [] }) ?hAx ?assign ?body ?done ?stop
  case hI =>
    exact OwnFrom.and (fun pre W W' row ⟨v, hv, hrow⟩ hg hr => ⟨v, boxed_keepNC hv hg (fun r e => (hr r e).2), ownsRow_keepNC hrow hg (fun r e => (hr r e).2)⟩) (OwnFrom.and (ownFrom_below (by omega) (by omega)) (OwnFrom.and (fun pre W W' row hs hg hr => Nat.le_trans hs hg.size) (OwnFrom.and (fun pre W W' row hs hg hr => boxed_keepNC hs hg (fun r e => (hr r e).2)) (fun pre W W' row hs hg hr => boxed_keepNC hs hg (fun r e => (hr r e).2)))))
  case hIx => exact fun c s W W' row h _ _ => h
  case h0 => exact ⟨⟨_, bO, OwnAt.nil⟩, hB0, Nat.le_refl _, bF, bT⟩
  case hAx =>
    intro x a' s W W' row ha hg hr
    exact ha
  case assign =>
    intro L pre x W K hi hK
    gi_wp2
    exact hK _ _ ((KeepsOthers.refl _).from _) (KeepsWalks.refl _) hi rfl
  case body =>
    rintro L pre x a' W hL ⟨r, hr⟩ ⟨⟨v, hv, hrow⟩, hB, hS, hbF, hbT⟩ rfl hlt
    have cF := hbF.cell
    have cT := hbT.cell
    have cv := hv.cell
    have fv := hv.frozen
    have hw1 : w.heap.size ≤ W.heap.size := hB.size
    have hle := selP_le f t pre
    have hsn := selP_snoc f t pre x
    have hln : (selP f t pre).length + 1 ≤ 1000000000000 := by omega
    obtain ⟨r1, k1⟩ := x
    simp only at hsn ⊢
    by_cases hin : f ≤ k1 ∧ k1 < t
    · rw [if_pos hin] at hsn
      obtain ⟨h2, h3⟩ := hin
      have Hsn := Lib.hid hsn
      clear hsn
      gi_wp2_with (gi_at_builtin; refine wpListIn_append_own _ rfl _ _ 172 rfl w.heap.size 21 i0 (.int .i32 0) 1 4 Tryz.underlying172 hi hz0 hz1 hz2 rfl (by decide) _ _ _ rfl (hrow.alloc _) ⟨W.heap.size, 0, none⟩ 1 1 [.int .i32 r1] rfl rfl ?c1 ?c2 ?c3 ?c4 ?c5 ?_)
      case c1 => exact cell_one_new _ _ _
      case c2 => simp [Value.oneCell']
      case c3 => unfold maxLen; omega
      case c4 => omega
      case c5 => simp; omega
      intro v' w1 hown' hgrow _
      obtain ⟨g', cap', rfl⟩ := ownsRow_succ hown'
      obtain ⟨hv1, hv2, hr2, hk2, hb2⟩ := hv.appended (by decide) hrow hw1 (by omega) hown' hgrow
      have hbF1 : Boxed w1 w.heap.size 3 (.int .i64 f) := (hbF.alloc _).kept hgrow (hbF.not_row (by decide) hrow)
      have hbT1 : Boxed w1 (w.heap.size + 1) 3 (.int .i64 t) := (hbT.alloc _).kept hgrow (hbT.not_row (by decide) hrow)
      have hc1 := hv1.cell
      have hf1 := hv1.frozen
      gi_wp2
      have hbF2 : Boxed (w1.setCell ⟨w.heap.size + 1 + 1, 0, none⟩ (.slice (some ⟨g', 0, none⟩) ((selP f t pre).length + 1) cap')) w.heap.size 3 (.int .i64 f) := (Below.heap_setCell _ _ _ _ (by show ¬ w.heap.size = w.heap.size + 1 + 1; omega)).trans hbF1
      have hbT2 : Boxed (w1.setCell ⟨w.heap.size + 1 + 1, 0, none⟩ (.slice (some ⟨g', 0, none⟩) ((selP f t pre).length + 1) cap')) (w.heap.size + 1) 3 (.int .i64 t) := (Below.heap_setCell _ _ _ _ (by show ¬ w.heap.size + 1 = w.heap.size + 1 + 1; omega)).trans hbT1
      refine ⟨hk2.from _, hk2.walks, ⟨_, hv2, ?_⟩, hB.trans hb2, ?_, hbF2, hbT2⟩
      · rw [Hsn.out]
        unfold OwnAt
        rw [List.length_append, List.flatMap_append]
        simpa [encR] using hr2
      · have h1 := hgrow.size
        simp at h1 ⊢
        omega
    · rw [if_neg hin] at hsn
      have Hsn := Lib.hid hsn
      clear hsn
      have hend : CutI w.heap.size W0.heap.size f t w (pre ++ [(r1, k1)]) W := ⟨⟨v, hv, by rw [Hsn.out]; exact hrow⟩, hB, hS, hbF, hbT⟩
      by_cases h2 : f ≤ k1
      · have h3 : ¬ k1 < t := fun h => hin ⟨h2, h⟩
        clear hin
        gi_wp2
        exact ⟨(KeepsOthers.refl _).from _, KeepsWalks.refl _, hend⟩
      · clear hin
        gi_wp2
        exact ⟨(KeepsOthers.refl _).from _, KeepsWalks.refl _, hend⟩
  case done =>
    rintro D xs W hD rfl ⟨⟨v, hv, hrow⟩, hB, hS, hbF, hbT⟩ hK
    have cv := hv.cell
    have hcv : (convert 172 9 v).run Tryz.prog W = .ok (.string (cutB s f t)) W := by
      rw [← selP_pairs]
      generalize selP f t (runePairs s) = rs at hrow
      rcases hrow.2 with ⟨rfl, e⟩ | ⟨g, cap, cur, rfl, _, hcur, hn, _⟩
      · obtain rfl : rs = [] := List.eq_nil_of_length_eq_zero e
        exact run_convert_runes_nil W 172 9 21 0 0 Tryz.underlying172 Tryz.underlying21 Tryz.underlying9
      · have := run_convert_runes (P := Tryz.prog) W 172 9 21 ⟨g, 0, none⟩ rs.length cap rs (Nat.le_refl _) Tryz.underlying172 Tryz.underlying21 Tryz.underlying9 (fun j hj => by
          rw [Addr.add_lit, Nat.zero_add]
          have h1 := World.ownsRow.cellAt hrow j (by omega)
          have h2 := flat_get (enc := encR) (k := 1) (fun _ => rfl) rs j 0 rs[j] (by simp [hj]) (by omega)
          rw [Nat.mul_one, Nat.add_zero] at h2
          refine h1.trans (h2.trans ?_)
          simp [encR, List.getD, hj])
        rw [this, List.take_length]
        rfl
    clear hrow hbF hbT
    go_wp2
    refine ⟨by simp, .inl ⟨_, _, rfl, run_takeDeferred hK, ?_⟩⟩
    have hbl : w.heap.size ≤ D := by omega
    exact ⟨_, results_tmp rfl _ _ _, ⟨rfl, hB.trans (belowK_b (w := w) (Nat.le_refl _) W D _ _ hbl hK rfl rfl)⟩⟩
  case stop => exact fun _ _ _ _ _ _ h _ => h.elim
end Go.Proofs.YthhbiliimdpgmaaGreatDoor
