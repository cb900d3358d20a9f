/- Walks: slices.AppendSeq, Collect, Sorted over the keys of a store's map. -/
import Derived.Test.YtaeebgljcdfolaaGreatDoorM26
import Derived.Test.YtaeebgljcdfolaaGreatDoorM27
import Derived.Test.YtaeebgljcdfolaaGreatDoorM17
namespace Go.Proofs.YtaeebgljcdfolaaGreatDoor
open Go.RowKit Go.Maps Go.Sort Go.Shelf Go.Lib

attribute [local go_sem] Oper.semAt_some

/-- between two rounds: what came lies in the boxed row. -/
def SeqI (n₀ S : Nat) (w : World) (pre : List Int) (W : World) : Prop :=
  (∃ v, Boxed W n₀ 82 v ∧ OwnAt n₀ 26 1 encU W v pre) ∧ Below n₀ w W ∧ S ≤ W.heap.size
/-- what collects the keys leaves. -/
def KeysR (n₀ : Nat) (ks : List Int) (w : World) (v : Value) (w' : World) : Prop := ∃ ys, ys.Perm ks ∧ OwnAt n₀ 26 1 encU w' v ys ∧ Below n₀ w w'
set_option maxRecDepth 100000 in
set_option maxHeartbeats 4000000 in
theorem appendSeqU_any (Bm b : Nat) (ks : List Int) (f : Int → Value) (w : World) (hnd : ks.Nodup) (hsz : ∀ k ∈ ks, u64B k) (hlen : ks.length ≤ 1000) (hBm : Bm < w.heap.size) (hm : w.cell? ⟨Bm, 0, none⟩ = some (.map (some b)))
    (h : MapK u64V w b (ks.map fun k => (k, f k))) :
    Calls Tryz.prog 105 #[.slice none 0 0, .func (.func 71) #[] #[.pointer (some ⟨Bm, 0, none⟩)]] w (RetW (KeysR w.heap.size ks w)) := by
  refine (callsIn_wide (n := 8)).1 ?_
  have h1 : 1 ≤ 8 := by omega
  refine callsIn_of_wp_marks Tryz.func105 rfl trivial ?_ rfl
  simp only [Tryz.ntmps105, List.size_toArray, List.length_cons, List.length_nil, Nat.reduceAdd, Nat.reduceSub, Array.replicate_succ, Array.replicate_zero, List.push_toArray, List.append_toArray, List.nil_append, List.cons_append]
  refine wpIn_wide.2 ?_
  go_wp2
  have hB0 : Below w.heap.size w (w.alloc (.cells #[.slice none 0 0] 82)) := by (repeat (first | exact Below.refl _ _ | assumption | refine Below.alloc ?_ (by simp <;> omega) _ | refine Below.drew ?_ | refine below_drewN ?_ _ | refine Below.setCell ?_ (by simp <;> omega) _ | refine belowTrans ?_ (by assumption)))
  have hsz0 : (w.alloc (.cells #[.slice none 0 0] 82)).heap.size = w.heap.size + 1 := by simp
  have bO := Boxed.new w 82 (.slice none 0 0)
  have hmp : MapK u64V (w.alloc (.cells #[.slice none 0 0] 82)) b (ks.map fun k => (k, f k)) := h.blk (hB0.block _ h.lt)
  have hmc : (w.alloc (.cells #[.slice none 0 0] 82)).cell? ⟨Bm, 0, none⟩ = some (.map (some b)) := (hB0.cell (p := ⟨Bm, 0, none⟩) hBm).trans hm
  obtain ⟨W0, hW0⟩ : ∃ W0, w.alloc (.cells #[.slice none 0 0] 82) = W0 := ⟨_, rfl⟩
  rw [hW0] at hB0 hsz0 bO hmp hmc ⊢
  clear hW0
  obtain ⟨i0, hi, hz0, hz1, hz2⟩ := info_parts infoU
  refine (wpIn_wide (n := 8)).1 ?_
  refine wpIn_rangeFunc_ownH rfl h1 (gf := 71) (lb := #[.pointer (some ⟨Bm, 0, none⟩)]) rfl trivial (enters_of Tryz.func71 (by kernel_rfl) rfl)
    (keysU_stops 7 (by omega) Bm b ks f hnd hsz (by unfold maxLen; omega) W0 (by omega) hmc hmp) walksK_t (fun W l o o' hl h h2 h3 => walksK_b (w := W0) W l o o' hl h h2 h3) (Below.refl _ _) (fun _ => rfl)
    (fun pre W => SeqI w.heap.size W0.heap.size w pre W) (fun _ _ _ => False) ?hI ?hIx ?h0 (fun x a' _ => a' = { tmps := #[.slice none 0 0, .func (.func 71) #[] #[.pointer (some ⟨Bm, 0, none⟩)], .pointer (some ⟨w.heap.size, 0, none⟩), undef, .slice none 0 0, .int .u64 x, .func (.func 71) #[] #[.pointer (some ⟨Bm, 0, none⟩)], .int .u64 x, undef, undef, undef, undef, undef], defers := [] }) ?hAx ?assign ?body ?done ?stop
  case hI =>
    exact OwnFrom.and (fun pre W W' row ⟨v, hv, hrow⟩ hg hr => ⟨v, boxed_keepNC hv hg (fun r e => (hr r e).2), ownsRow_keepNC hrow hg (fun r e => (hr r e).2)⟩) (OwnFrom.and (ownFrom_below (by omega) (by omega)) (fun pre W W' row hs hg hr => Nat.le_trans hs hg.size))
  case hIx => exact fun c s W W' row h _ _ => h
  case h0 => exact ⟨⟨_, bO, OwnAt.nil⟩, hB0, Nat.le_refl _⟩
  case hAx =>
    intro x a' s W W' row ha hg hr
    exact ha
  case assign =>
    intro L pre x W K hi hK
    gi_wp2
    exact hK _ _ ((KeepsOthers.refl _).from _) (KeepsWalks.refl _) hi rfl
  case body =>
    rintro L pre x a' W hL ⟨r, hr⟩ ⟨⟨v, hv, hrow⟩, hB, hS⟩ rfl hlt
    have cv := hv.cell
    have fv := hv.frozen
    have hw1 : w.heap.size ≤ W.heap.size := hB.size
    gi_wp2_with (gi_at_builtin; refine wpListIn_append_own _ rfl _ _ 82 rfl w.heap.size 26 i0 (.int .u64 0) 1 8 Tryz.underlying82 hi hz0 hz1 hz2 rfl (by decide) _ _ _ rfl (hrow.alloc _) ⟨W.heap.size, 0, none⟩ 1 1 [.int .u64 x] rfl rfl ?c1 ?c2 ?c3 ?c4 ?c5 ?_)
    case c1 => exact cell_one_new _ _ _
    case c2 => simp [Value.oneCell']
    case c3 => unfold maxLen; omega
    case c4 => omega
    case c5 => simp; omega
    intro v' w1 hown' hgrow _
    obtain ⟨g', cap', rfl⟩ := ownsRow_succ hown'
    obtain ⟨hv1, hv2, hr2, hk2, hb2⟩ := hv.appended (by decide) hrow hw1 (by omega) hown' hgrow
    have hc1 := hv1.cell
    have hf1 := hv1.frozen
    gi_wp2
    refine ⟨hk2.from _, hk2.walks, ⟨_, hv2, ?_⟩, hB.trans hb2, ?_⟩
    · unfold OwnAt
      rw [List.length_append, List.flatMap_append]
      simpa [encU] using hr2
    · have h1 := hgrow.size
      simp at h1 ⊢
      omega
  case done =>
    rintro D xs W hD hperm ⟨⟨v, hv, hrow⟩, hB, hS⟩ hK
    have cv := hv.cell
    have HP := Lib.hid hperm
    clear hperm
    go_wp2
    refine ⟨by simp, .inl ⟨_, _, rfl, run_takeDeferred hK, ?_⟩⟩
    have hbl : w.heap.size ≤ D := by omega
    refine ⟨_, results_tmp rfl _ _ _, v, rfl, xs, HP.out, ownsRow_blk hrow fun b e => World.putObj_heap_other ?_, hB.trans (belowK_b (w := w) (Nat.le_refl _) W D _ _ hbl hK rfl rfl)⟩
    rintro rfl
    obtain ⟨cur, hcur⟩ := ownsRow_obj hrow e
    rw [hK] at hcur
    cases hcur
  case stop => exact fun _ _ _ _ _ _ h _ => h.elim
set_option maxHeartbeats 1000000 in
theorem collectU_any (Bm b : Nat) (ks : List Int) (f : Int → Value) (w : World) (hnd : ks.Nodup) (hsz : ∀ k ∈ ks, u64B k) (hlen : ks.length ≤ 1000) (hBm : Bm < w.heap.size) (hm : w.cell? ⟨Bm, 0, none⟩ = some (.map (some b)))
    (h : MapK u64V w b (ks.map fun k => (k, f k))) :
    Calls Tryz.prog 69 #[.func (.func 71) #[] #[.pointer (some ⟨Bm, 0, none⟩)]] w (RetW (KeysR w.heap.size ks w)) := by
  have ha := appendSeqU_any Bm b ks f w hnd hsz hlen hBm hm h
  clear hm h
  go_enter Tryz.func69, Tryz.ntmps69
  go_wp2_with (go_at_call 105; refine ha.mono ?_; rintro e w1 ⟨v, rfl, hv⟩)
  go_ret
  exact ⟨v, rfl, hv⟩
/-- sorted keys. -/
def SortedKeysR (n₀ : Nat) (ks : List Int) (w : World) (v : Value) (w' : World) : Prop := ∃ ys, ys.Perm ks ∧ ys.Pairwise (· ≤ ·) ∧ OwnAt n₀ 26 1 encU w' v ys ∧ Below n₀ w w'
set_option maxHeartbeats 1000000 in
theorem insNilU (w : World) : Calls Tryz.prog 123 #[.slice none 0 0, .int .i64 0, .int .i64 0] w fun e w' => e = .returned (.tuple #[]) ∧ w = w' := by
  go_enter Tryz.func123, Tryz.ntmps123
  go_wp2
  go_loopw [6] (fun i wr => i = .int .i64 1 ∧ wr = w) (fun _ _ => 0)
  case atStart => exact ⟨rfl, rfl⟩
  case round =>
    obtain ⟨rfl, rfl⟩ := hrel
    go_wp2_with fail
    go_end0
    exact ⟨rfl, rfl⟩
def NilR (w : World) (e : Ending) (w' : World) : Prop := e = .returned (.tuple #[]) ∧ w = w'
set_option maxRecDepth 100000 in
set_option maxHeartbeats 1000000 in
theorem pdqNilU (v : Int) (w : World) : Calls Tryz.prog 106 #[.slice none 0 0, .int .i64 0, .int .i64 0, .int .i64 v] w (NilR w) := by
  go_enter Tryz.func106, Tryz.ntmps106
  go_wp2
  go_loopw [1, 2, 3] (fun a b _ wr => a = .int .i64 0 ∧ b = .int .i64 0 ∧ wr = w) (fun _ _ _ _ => 0)
  case atStart => exact ⟨rfl, rfl, rfl⟩
  case round =>
    obtain ⟨rfl, rfl, rfl⟩ := hrel
    go_wp2_with (go_at_call 123; refine (insNilU _).mono ?_; rintro e w' ⟨rfl, rfl⟩)
    go_end0
    exact ⟨rfl, rfl⟩
set_option maxRecDepth 100000 in
set_option maxHeartbeats 1000000 in
theorem sortNilU (w : World) : Calls Tryz.prog 70 #[.slice none 0 0] w fun e w' => e = .returned (.tuple #[]) ∧ w = w' := by
  go_enter Tryz.func70, Tryz.ntmps70
  go_wp2_with (first | (go_at_call 107; refine (bitsLen_some 0 _ (by omega)).mono ?_; rintro e w' ⟨⟨v, rfl⟩, rfl⟩) | (go_at_call 106; refine (pdqNilU v _).mono ?_; rintro e w' ⟨rfl, rfl⟩))
  go_end0
  exact ⟨rfl, rfl⟩
set_option maxRecDepth 100000 in
set_option maxHeartbeats 1000000 in
theorem sortedU_any (Bm b : Nat) (ks : List Int) (f : Int → Value) (w : World) (hnd : ks.Nodup) (hsz : ∀ k ∈ ks, u64B k) (hlen : ks.length ≤ 12) (hBm : Bm < w.heap.size) (hm : w.cell? ⟨Bm, 0, none⟩ = some (.map (some b)))
    (h : MapK u64V w b (ks.map fun k => (k, f k))) :
    Calls Tryz.prog 44 #[.func (.func 71) #[] #[.pointer (some ⟨Bm, 0, none⟩)]] w (RetW (SortedKeysR w.heap.size ks w)) := by
  have hc := collectU_any Bm b ks f w hnd hsz (by omega) hBm hm h
  clear hm h
  go_enter Tryz.func44, Tryz.ntmps44
  go_upto_region 2 with (go_at_call 69; refine hc.mono ?_; rintro e w1 ⟨v, rfl, ys, hp, hy, hb⟩)
  have hyl : ys.length ≤ 12 := by rw [hp.length_eq]; exact hlen
  have HP := Lib.hid hp
  clear hp hc
  rcases hy.2 with ⟨rfl, h0⟩ | ⟨g, cap, cur, rfl, hg, hcur, _⟩
  · obtain rfl : ys = [] := List.eq_nil_of_length_eq_zero h0
    have hs := sortNilU w1
    go_wp2_with (go_at_call 70; refine hs.mono ?_; rintro e w2 ⟨rfl, rfl⟩)
    go_ret
    exact ⟨_, rfl, [], HP.out, List.Pairwise.nil, hy, hb⟩
  · have hs := sortU_any w.heap.size g cap ys w1 hy hyl
    go_wp2_with (go_at_call 70; refine hs.mono ?_; rintro e w2 ⟨rfl, d, hdp, hds, hdo, hdm⟩)
    have hdl : d.length = ys.length := hdp.length_eq
    have hb2 : Below w.heap.size w w2 := ⟨hdm.os.trans hb.os, hdm.tape.trans hb.tape, hdm.output.trans hb.output, Nat.le_trans hb.size hdm.size, fun k hk => (hdm.block k (Nat.lt_of_lt_of_le hk hb.size) (by omega)).trans (hb.block k hk)⟩
    have HD := Lib.hid (hdp.trans HP.out)
    have HDS := Lib.hid hds
    clear hdp hds hdl hdm hs hy hcur
    go_ret
    exact ⟨_, rfl, d, HD.out, HDS.out, hdo, hb2⟩
end Go.Proofs.YtaeebgljcdfolaaGreatDoor
/- Walks: vector.by, Clean of clocks that are clean already. -/
namespace Go.Proofs.YtaeebgljcdfolaaGreatDoor
open Go.RowKit Go.Lib

theorem infoClk : (Tryz.prog.info? 53).map (fun i => (i.zero, i.size, i.bytes)) = some (some (.agg #[.int .u64 idZero.c, .int .u64 idZero.k]), 2, 16) := by kernel_rfl
/-- clocks as Clean tells them. -/
structure CleanClk (l : List QId) : Prop where
  ok : ∀ x ∈ l, 1 ≤ x.c ∧ x.c ≤ 9007199254740991 ∧ 1 ≤ x.k ∧ x.k ≤ 9007199254740991
  ord : l.Pairwise fun x y => x.c < y.c
set_option maxHeartbeats 400000 in
theorem cleanKey_any (x : QId) (w : World) : Calls Tryz.prog 102 #[.agg #[.int .u64 x.c, .int .u64 x.k]] w fun e w' => e = .returned (.int .u64 x.c) ∧ Below w.heap.size w w' := by
  go_enter Tryz.func102, Tryz.ntmps102
  go_wp2
  go_ret
  exact ⟨rfl, by (repeat (first | exact Below.refl _ _ | assumption | refine Below.alloc ?_ (by simp <;> omega) _ | refine Below.drew ?_ | refine below_drewN ?_ _ | refine Below.setCell ?_ (by simp <;> omega) _ | refine belowTrans ?_ (by assumption)))⟩
set_option maxHeartbeats 1000000 in
theorem byCmp_any (kb : Nat) (x y : QId) (w : World) (hk : w.cell? ⟨kb, 0, none⟩ = some (.func (.func 102) #[] #[])) (hkb : kb < w.heap.size) :
    Calls Tryz.prog 122 #[.agg #[.int .u64 x.c, .int .u64 x.k], .agg #[.int .u64 y.c, .int .u64 y.k], .pointer (some ⟨kb, 0, none⟩)] w fun e w' => e = .returned (.int .i64 (cmpU x.c y.c)) ∧ Below w.heap.size w w' := by
  have hkx := cleanKey_any x
  have hky := cleanKey_any y
  have hcmp := cmpU_any x.c y.c
  go_enter Tryz.func122, Tryz.ntmps122
  go_upto_region 1 with fail
  have hB : Below w.heap.size w ((w.alloc (.cells #[.int .u64 x.c, .int .u64 x.k] 53)).alloc (.cells #[.int .u64 y.c, .int .u64 y.k] 53)) := ((Below.refl _ _).alloc (Nat.le_refl _) _).alloc (by simp) _
  have c0 : ((w.alloc (.cells #[.int .u64 x.c, .int .u64 x.k] 53)).alloc (.cells #[.int .u64 y.c, .int .u64 y.k] 53)).cell? ⟨w.heap.size, 0, none⟩ = some (.int .u64 x.c) := by go_simp
  have c1 : ((w.alloc (.cells #[.int .u64 x.c, .int .u64 x.k] 53)).alloc (.cells #[.int .u64 y.c, .int .u64 y.k] 53)).cell? ⟨w.heap.size, 1, none⟩ = some (.int .u64 x.k) := by go_simp
  have d0 : ((w.alloc (.cells #[.int .u64 x.c, .int .u64 x.k] 53)).alloc (.cells #[.int .u64 y.c, .int .u64 y.k] 53)).cell? ⟨w.heap.size + 1, 0, none⟩ = some (.int .u64 y.c) := by go_simp
  have d1 : ((w.alloc (.cells #[.int .u64 x.c, .int .u64 x.k] 53)).alloc (.cells #[.int .u64 y.c, .int .u64 y.k] 53)).cell? ⟨w.heap.size + 1, 1, none⟩ = some (.int .u64 y.k) := by go_simp
  have k0 : ((w.alloc (.cells #[.int .u64 x.c, .int .u64 x.k] 53)).alloc (.cells #[.int .u64 y.c, .int .u64 y.k] 53)).cell? ⟨kb, 0, none⟩ = some (.func (.func 102) #[] #[]) := (hB.cell (p := ⟨kb, 0, none⟩) hkb).trans hk
  have hs : ((w.alloc (.cells #[.int .u64 x.c, .int .u64 x.k] 53)).alloc (.cells #[.int .u64 y.c, .int .u64 y.k] 53)).heap.size = w.heap.size + 2 := by simp
  obtain ⟨W, hW⟩ : ∃ W, (w.alloc (.cells #[.int .u64 x.c, .int .u64 x.k] 53)).alloc (.cells #[.int .u64 y.c, .int .u64 y.k] 53) = W := ⟨_, rfl⟩
  rw [hW] at hB c0 c1 d0 d1 k0 hs ⊢
  clear hW
  have q0 : ∀ s : BStep W, s.val.cell? ⟨w.heap.size, 0, none⟩ = some (.int .u64 x.c) := BStep.cell (by show w.heap.size < _; omega) c0
  have q1 : ∀ s : BStep W, s.val.cell? ⟨w.heap.size, 1, none⟩ = some (.int .u64 x.k) := BStep.cell (by show w.heap.size < _; omega) c1
  have p0 : ∀ s : BStep W, s.val.cell? ⟨w.heap.size + 1, 0, none⟩ = some (.int .u64 y.c) := BStep.cell (by show w.heap.size + 1 < _; omega) d0
  have p1 : ∀ s : BStep W, s.val.cell? ⟨w.heap.size + 1, 1, none⟩ = some (.int .u64 y.k) := BStep.cell (by show w.heap.size + 1 < _; omega) d1
  have kk : ∀ s : BStep W, s.val.cell? ⟨kb, 0, none⟩ = some (.func (.func 102) #[] #[]) := BStep.cell (by show kb < _; omega) k0
  clear c0 c1 d0 d1 k0
  refine wp_region_b (by kernel_rfl) (by kernel_rfl) ?_
  repeat (first | go_big_quiet_skip | (go_big_quiet_want; first | (fail; go_frame; go_big_quiet_on) | (go_big_quiet_op; first | go_big_quiet_on | go_big_quiet_call ((first | (go_at_call_of 102 (Value.agg #[Value.int .u64 x.c, Value.int .u64 x.k]); exact callsB (hkx _)) | (go_at_call 102; exact callsB (hky _)) | (go_at_call 96; exact callsB ((hcmp _).mono fun _ _ ⟨h1, h2⟩ => ⟨h1, by subst h2; exact Below.refl _ _⟩)))))))
  refine wpQuiet_nil ?_
  intro W' hC'
  have hBW' := BStep.of hC'
  have hBn := belowTrans hB hBW'
  clear q0 q1 p0 p1 kk hC' hkx hky hcmp
  go_wp2_with fail
  go_ret
  exact ⟨rfl, hBn⟩
theorem clkCells {w : World} {b off n cap : Nat} {l : List QId} (h : SliceAt 2 encIdv w (.slice (some ⟨b, off, none⟩) n cap) l) {k : Nat} {x : QId} (hx : l[k]? = some x) :
    n = l.length ∧ b < w.heap.size ∧ w.cell? ⟨b, off + k * 2, none⟩ = some (.int .u64 x.c) ∧ w.cell? ⟨b, off + k * 2 + 1, none⟩ = some (.int .u64 x.k) := by
  rcases h with ⟨e, _⟩ | ⟨b', off', c', e, _, hb, hc⟩
  · cases e
  · cases e
    exact ⟨rfl, hb, hc k x hx 0 _ rfl, hc k x hx 1 _ rfl⟩
/-- nothing but new blocks. -/
def BelowR (w : World) (e : Ending) (w' : World) : Prop := e = .returned (.tuple #[]) ∧ Below w.heap.size w w'
set_option maxRecDepth 100000 in
set_option maxHeartbeats 4000000 in
theorem insClk_any (p : Option Addr) (cap kb : Nat) (l : List QId) (w : World) (hl : SliceAt 2 encIdv w (.slice p l.length cap) l) (ho : l.Pairwise fun x y => x.c < y.c) (hn : l.length ≤ 100000)
    (hk : w.cell? ⟨kb, 0, none⟩ = some (.func (.func 102) #[] #[])) (hkb : kb < w.heap.size) :
    Calls Tryz.prog 171 #[.slice p l.length cap, .int .i64 0, .int .i64 l.length, .func (.func 122) #[] #[.pointer (some ⟨kb, 0, none⟩)]] w (BelowR w) := by
  have Ho := Lib.hid ho
  clear ho
  go_enter Tryz.func171, Tryz.ntmps171
  go_wp2
  go_loopw [8] (fun i wr => ∃ k : Nat, 1 ≤ k ∧ k ≤ l.length + 1 ∧ i = .int .i64 k ∧ Below w.heap.size w wr) (fun i _ => l.length + 1 - (intOf i).toNat)
  case atStart => exact ⟨1, Nat.le_refl _, by omega, rfl, Below.refl _ _⟩
  case round =>
    obtain ⟨k, hk1, hk2, rfl, hb⟩ := hrel
    by_cases hlt : k < l.length
    · have hltz : (k : Int) < (l.length : Int) := by omega
      obtain ⟨b, off, rfl⟩ : ∃ b off, p = some ⟨b, off, none⟩ := by
        rcases hl with ⟨_, h⟩ | ⟨b0, off, _, h, _⟩
        · rw [h] at hlt; simp at hlt
        · cases h; exact ⟨_, _, rfl⟩
      obtain ⟨i, rfl⟩ : ∃ i, k = i + 1 := ⟨k - 1, by omega⟩
      go_upto_region 3 with fail
      go_wp2_with fail
      obtain ⟨wo, rfl⟩ : ∃ wo, wo = wr := ⟨_, rfl⟩
      go_loopw [9] (fun jv wx => jv = .int .i64 ((i + 1 : Nat) : Int) ∧ Below w.heap.size w wx) (fun _ _ => 0)
      case atStart => exact ⟨rfl, hb⟩
      case round =>
        obtain ⟨rfl, hbx⟩ := hrel
        have hlx := hl.below hbx
        obtain ⟨_, hbl, x0, x1⟩ := clkCells hlx (k := i + 1) (x := l[i + 1]) (by simp)
        obtain ⟨_, _, y0, y1⟩ := clkCells hlx (k := i) (x := l[i]'(by omega)) (by simp)
        have hxy : (l[i]'(by omega)).c < l[i + 1].c := List.pairwise_iff_getElem.1 Ho.out i (i + 1) (by omega) hlt (by omega)
        have hkx := (hbx.cell (p := ⟨kb, 0, none⟩) hkb).trans hk
        have hkl := Nat.lt_of_lt_of_le hkb hbx.size
        generalize l[i + 1] = x at x0 x1 hxy
        generalize l[i]'(by omega) = y at y0 y1 hxy
        have hz : decide (cmpU x.c y.c < 0) = false := by simp [cmpU_lt]; omega
        have q0 : ∀ s : BStep wr, s.val.cell? ⟨b, off + (i + 1) * 2, none⟩ = some (.int .u64 x.c) := BStep.cell hbl x0
        have q1 : ∀ s : BStep wr, s.val.cell? ⟨b, off + (i + 1) * 2 + 1, none⟩ = some (.int .u64 x.k) := BStep.cell hbl x1
        have p0 : ∀ s : BStep wr, s.val.cell? ⟨b, off + i * 2, none⟩ = some (.int .u64 y.c) := BStep.cell hbl y0
        have p1 : ∀ s : BStep wr, s.val.cell? ⟨b, off + i * 2 + 1, none⟩ = some (.int .u64 y.k) := BStep.cell hbl y1
        have kk : ∀ s : BStep wr, s.val.cell? ⟨kb, 0, none⟩ = some (.func (.func 102) #[] #[]) := BStep.cell hkl hkx
        have kl : ∀ s : BStep wr, kb < s.val.heap.size := fun s => Nat.lt_of_lt_of_le hkl s.h.size
        have d1 : decide ((0 : Int) < ((i + 1 : Nat) : Int)) = true := by simp
        have hib : i + 1 < l.length := hlt
        have hi0 : (0 : Int) ≤ (i : Int) := by omega
        clear x0 x1 y0 y1 hlx hkx
        generalize hcz : cmpU x.c y.c = z at hz
        have HCZ := Lib.hid hcz
        clear hcz
        have hcm := fun (s : BStep wr) => byCmp_any kb x y s.val (kk s) (kl s)
        rw [HCZ.out] at hcm
        clear kl
        go_wp2_with fail
        refine wp_region_b (by kernel_rfl) (by kernel_rfl) ?_
        repeat (first | go_big_quiet_skip | (go_big_quiet_want; first | (fail; go_frame; go_big_quiet_on) | (go_big_quiet_op; first | go_big_quiet_on | go_big_quiet_call ((go_at_call 122; exact callsB (hcm _))))))
        refine wpQuiet_nil ?_
        intro W' hC'
        have hBW' := BStep.of hC'
        have hb3 := hbx.trans (hBW'.mono hbx.size)
        clear q0 q1 p0 p1 kk hcm hC' hBW' hz d1
        go_wp2_with fail
        go_roundw
        case rel => exact ⟨i + 1 + 1, by omega, by omega, by go_num, hb3⟩
        case measure => simp [intOf]; omega
    · go_wp2_with fail
      go_end0
      exact ⟨rfl, hb⟩
set_option maxRecDepth 100000 in
set_option maxHeartbeats 4000000 in
theorem stableClk_any (p : Option Addr) (cap kb : Nat) (l : List QId) (w : World) (hl : SliceAt 2 encIdv w (.slice p l.length cap) l) (ho : l.Pairwise fun x y => x.c < y.c) (hn : l.length ≤ 19)
    (hk : w.cell? ⟨kb, 0, none⟩ = some (.func (.func 102) #[] #[])) (hkb : kb < w.heap.size) :
    Calls Tryz.prog 153 #[.slice p l.length cap, .int .i64 l.length, .func (.func 122) #[] #[.pointer (some ⟨kb, 0, none⟩)]] w (BelowR w) := by
  have hins := insClk_any p cap kb l w hl ho (by omega) hk hkb
  have hnz : (l.length : Int) < 20 := by omega
  clear ho hl hk
  go_enter Tryz.func153, Tryz.ntmps153
  go_wp2
  go_loopw [7, 8] (fun a b wr => a = .int .i64 0 ∧ b = .int .i64 20 ∧ wr = w) (fun _ _ _ => 0)
  case atStart => exact ⟨rfl, rfl, rfl⟩
  case round =>
    obtain ⟨rfl, rfl, rfl⟩ := hrel
    go_wp2_with (go_at_call 171; refine hins.mono ?_; rintro e w1 ⟨rfl, hb1⟩)
    clear hins
    go_loopw [6] (fun a wx => a = .int .i64 20 ∧ wx = w1) (fun _ _ => 0)
    case atStart => exact ⟨rfl, rfl⟩
    case round =>
      obtain ⟨rfl, rfl⟩ := hrel
      go_wp2_with fail
      go_end0
      exact ⟨rfl, hb1⟩
set_option maxHeartbeats 1000000 in
theorem sortStableClk_any (p : Option Addr) (cap kb : Nat) (l : List QId) (w : World) (hl : SliceAt 2 encIdv w (.slice p l.length cap) l) (ho : l.Pairwise fun x y => x.c < y.c) (hn : l.length ≤ 19)
    (hk : w.cell? ⟨kb, 0, none⟩ = some (.func (.func 102) #[] #[])) (hkb : kb < w.heap.size) :
    Calls Tryz.prog 121 #[.slice p l.length cap, .func (.func 122) #[] #[.pointer (some ⟨kb, 0, none⟩)]] w (BelowR w) := by
  have hst := stableClk_any p cap kb l w hl ho hn hk hkb
  clear ho hl hk
  go_enter Tryz.func121, Tryz.ntmps121
  go_wp2_with (go_at_call 153; refine hst.mono ?_; rintro e w1 ⟨rfl, hb1⟩)
  go_end0
  exact ⟨rfl, hb1⟩
theorem cloneClk_any (sv : Value) (l : List QId) (w : World) (hl : SliceAt 2 encIdv w sv l) (hn : l.length ≤ 100000) :
    Calls Tryz.prog 120 #[sv] w (RetW fun v w' => OwnAt w.heap.size 53 2 encIdv w' v l ∧ Below w.heap.size w w') := by
  obtain ⟨i0, hi, hz0, hz1, hz2⟩ := info_parts infoClk
  rcases hl with ⟨rfl, rfl⟩ | ⟨b, off, cap, rfl, hln, hb, hc⟩
  · refine (AnyE.slices_Clone_nil Tryz.cloneClk 0 0 w).mono ?_
    rintro e w' ⟨rfl, rfl⟩
    exact ⟨_, rfl, OwnAt.nil, Below.refl _ _⟩
  · refine (AnyE.slices_Clone Tryz.cloneClk i0 (.agg #[.int .u64 idZero.c, .int .u64 idZero.k]) 2 16 hi hz0 hz1 hz2 rfl (by decide) (fun w => by kernel_rfl) b off l.length cap (l.flatMap encIdv) w (flat_length (enc := encIdv) (k := 2) (fun _ => rfl) l) (by unfold maxLen; omega) (by omega) ?_ ?_).mono ?_
    · intro t u ht
      have htl : t < l.length * 2 := by
        have := (List.getElem?_eq_some_iff.1 ht).1
        rwa [flat_length (enc := encIdv) (k := 2) (fun _ => rfl)] at this
      have h1 := flat_get (enc := encIdv) (k := 2) (fun _ => rfl) l (t / 2) (t % 2) l[t / 2] (by simp [show t / 2 < l.length by omega]) (Nat.mod_lt _ (by omega))
      rw [show t / 2 * 2 + t % 2 = t by omega, ht] at h1
      have h2 := hc (t / 2) l[t / 2] (by simp [show t / 2 < l.length by omega]) (t % 2) u h1.symm
      rwa [show off + t / 2 * 2 + t % 2 = off + t by omega] at h2
    · intro u hu
      obtain ⟨x, _, hx⟩ := List.mem_flatMap.1 hu
      simp [encIdv] at hx
      rcases hx with rfl | rfl <;> rfl
    · rintro e w' ⟨v, rfl, ho, _, hb⟩
      exact ⟨v, rfl, ho, hb⟩
end Go.Proofs.YtaeebgljcdfolaaGreatDoor
