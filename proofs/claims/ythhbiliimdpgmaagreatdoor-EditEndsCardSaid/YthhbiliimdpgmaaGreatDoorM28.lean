/- ids.rights at turns: the iterator over the right ones of a list. -/
import Derived.Test.YthhbiliimdpgmaaGreatDoorM01
import Derived.Test.YthhbiliimdpgmaaGreatDoorM04
import Derived.Test.YthhbiliimdpgmaaGreatDoorM24
namespace Go.Proofs.YthhbiliimdpgmaaGreatDoor
open Go.RowKit Go.Shelf

/-- a turn. -/
structure QTurn where
  c : Int
  a : Int
  b : Int
  n : Int
def QTurn.rightB (t : QTurn) : Bool := (QRng.mk t.c t.a t.b).rightB && numB t.n
def encTurn (t : QTurn) : List Value := [.int .u64 t.c, .int .u64 t.a, .int .u64 t.b, .int .u64 t.n]
theorem tright_any (t : QTurn) (w : World) : Calls Tryz.prog 74 #[.agg #[.int .u64 t.c, .int .u64 t.a, .int .u64 t.b, .int .u64 t.n]] w fun e w' => e = .returned (.bool t.rightB) ∧ Below w.heap.size w w' := by
  have hr := fun w => rright_any ⟨t.c, t.a, t.b⟩ w
  have hn := number_any t.n
  unfold QTurn.rightB
  generalize (QRng.mk t.c t.a t.b).rightB = rb at hr ⊢
  cases rb
  all_goals
    go_enter Tryz.func74, Tryz.ntmps74
    go_wp2_with (first | (go_at_call 85; refine (hr _).mono ?_; rintro e w1 ⟨rfl, hb1⟩; obtain ⟨hc, hf⟩ := bcell hb1) | (go_at_call 107; refine (hn _).mono ?_; rintro e w2 ⟨rfl, rfl⟩))
    go_ret
    exact ⟨rfl, belowTrans ((Below.refl _ _).alloc (Nat.le_refl _) _) hb1⟩
set_option maxHeartbeats 1000000 in
/-- rights(l, f): both are boxed, the function value captures the boxes. -/
theorem rightsT_in (n : Nat) (sv fv : Value) (w : World) (hs : sv.oneCell' = true) (hf : fv.oneCell' = true) :
    CallsIn Fence.wide n Tryz.prog 73 #[sv, fv] w fun e w' => e = .returned (.func (.func 125) #[] #[.pointer (some ⟨w.heap.size, 0, none⟩), .pointer (some ⟨w.heap.size + 1, 0, none⟩)]) ∧ w' = (w.alloc (.cells #[sv] 40)).alloc (.cells #[fv] 137) := by
  refine callsIn_of_wp Tryz.func73 rfl trivial ?_ rfl
  simp only [Tryz.ntmps73, List.size_toArray, List.length_cons, List.length_nil, Nat.reduceAdd, Nat.reduceSub, Array.replicate_succ, Array.replicate_zero, List.push_toArray, List.append_toArray, List.nil_append, List.cons_append]
  gi_wp2
  go_ret
  exact ⟨rfl, rfl⟩

/-- the right ones of the first k. -/
def turnUpto (l : List QTurn) (k : Nat) : List QTurn := (l.take k).filter QTurn.rightB
theorem turnUpto_yes {l : List QTurn} {k : Nat} (hk : k < l.length) (h : (l[k]).rightB = true) : turnUpto l (k + 1) = turnUpto l k ++ [l[k]] := by
  unfold turnUpto
  rw [List.take_succ_eq_append_getElem hk, List.filter_append]
  simp [h]
theorem turnUpto_no {l : List QTurn} {k : Nat} (hk : k < l.length) (h : (l[k]).rightB = false) : turnUpto l (k + 1) = turnUpto l k := by
  unfold turnUpto
  rw [List.take_succ_eq_append_getElem hk, List.filter_append]
  simp [h]
theorem turnUpto_le (l : List QTurn) (k : Nat) : (turnUpto l k).length ≤ k := Nat.le_trans (List.length_filter_le _ _) (List.length_take_le _ _)

set_option maxRecDepth 100000 in
set_option maxHeartbeats 2000000 in
/-- the closure: for every loop body that keeps what lay below n₀, and the box of the predicate. -/
theorem rightsT1_in (n : Nat) (hn : 3 ≤ n) (L Bs Bf n₀ b off cap : Nat) (l : List QTurn) (hlen : l.length ≤ 9223372036854775807) (hb : b < n₀) (J Jx : List QTurn → World → Prop)
    (hY : ∀ pre x W, J pre W → pre.length < l.length → YieldAt Fence.wide (n - 1) Tryz.prog L #[.agg #[.int .u64 x.c, .int .u64 x.a, .int .u64 x.b, .int .u64 x.n]] W fun e W' =>
      (e = .returned (.bool true) ∧ J (pre ++ [x]) W' ∧ KeepR n₀ Bf W W') ∨ (e = .returned (.bool false) ∧ Jx (pre ++ [x]) W'))
    (W : World) (hn₀ : n₀ ≤ W.heap.size) (hBf : Bf < W.heap.size) (hJ : AbidesFrom W.heap.size J) (hBs : W.cell? ⟨Bs, 0, none⟩ = some (.slice (some ⟨b, off, none⟩) l.length cap)) (hBf0 : W.cell? ⟨Bf, 0, none⟩ = some (.func (.func 74) #[] #[]))
    (hc : ∀ j x, l[j]? = some x → ∀ i y, (encTurn x)[i]? = some y → W.cell? ⟨b, off + j * 4 + i, none⟩ = some y) (h0 : J [] W) :
    CallsIn Fence.wide n Tryz.prog 125 #[.func (.yield L) #[] #[], .pointer (some ⟨Bs, 0, none⟩), .pointer (some ⟨Bf, 0, none⟩)] W fun e W' => (∃ v, e = .returned v) ∧
      ((∃ ys, ys = l.filter QTurn.rightB ∧ J ys W') ∨ (∃ pre, (∃ k, k ≤ l.length ∧ pre = turnUpto l k) ∧ Jx pre W')) := by
  refine callsIn_of_wp Tryz.func125 rfl trivial ?_ rfl
  simp only [Tryz.ntmps125, List.size_toArray, List.length_cons, List.length_nil, Nat.reduceAdd, Nat.reduceSub, Array.replicate_succ, Array.replicate_zero, List.push_toArray, List.append_toArray, List.nil_append, List.cons_append]
  gi_wp2
  gi_loopw [8] (fun i wr => ∃ k : Nat, k ≤ l.length ∧ i = .int .i64 k ∧ J (turnUpto l k) wr ∧ KeepR n₀ Bf W wr)
    (fun i _ => l.length - (intOf i).toNat)
  case atStart => exact ⟨0, Nat.zero_le _, rfl, h0, KeepR.refl _ _ _⟩
  case round =>
    obtain ⟨k, hk, rfl, hJs, hnx⟩ := hrel
    by_cases hlt : k < l.length
    · have hltz : (k : Int) < (l.length : Int) := by omega
      have c0 := (hnx.1.cell (p := ⟨b, off + k * 4 + 0, none⟩) hb).trans (hc k l[k] (by simp) 0 _ rfl)
      have c1 := (hnx.1.cell (p := ⟨b, off + k * 4 + 1, none⟩) hb).trans (hc k l[k] (by simp) 1 _ rfl)
      have c2 := (hnx.1.cell (p := ⟨b, off + k * 4 + 2, none⟩) hb).trans (hc k l[k] (by simp) 2 _ rfl)
      have cf := hnx.cell.trans hBf0
      have hfn : Fence.wide.fn 74 := trivial
      have hn1 : 1 ≤ n := by omega
      have eg : ∀ args w, (callFunc 74 args).run Tryz.prog w = .ok (.enter 74 args) w := enters_of Tryz.func74 (by kernel_rfl) rfl
      have hyes := turnUpto_yes hlt
      have hno := turnUpto_no hlt
      have hBfw : Bf < wr.heap.size := by have := hnx.1.size; omega
      have c3 := (hnx.1.cell (p := ⟨b, off + k * 4 + 3, none⟩) hb).trans (hc k l[k] (by simp) 3 _ rfl)
      generalize l[k] = x at c0 c1 c2 c3 hyes hno
      simp only [Nat.add_zero] at c0
      have hr := fun W => (callsIn_wide (n := n - 1)).2 (tright_any x W)
      cases hq : x.rightB with
      | false =>
        have hU := Lib.hid (hno hq)
        rw [hq] at hr
        clear hyes hno hq hc hY hBs hBf0
        gi_wp2_with fail
        refine (hr _).mono ?_; rintro e w' ⟨rfl, hb'⟩; obtain ⟨hc', hf'⟩ := bcell hb'
        dsimp only
        go_at_K
        repeat (first | refine listSkip (by rfl) ?_ | gi_step)
        gi_wp2
        go_roundw
        case rel => exact ⟨k + 1, by omega, by simp, by rw [hU.out]; exact abides_below hJ (belowTrans ((Below.refl _ _).alloc (Nat.le_refl _) _) hb') hJs, hnx.trans (KeepR.of_below (by have := hnx.1.size; omega) hBfw (belowTrans ((Below.refl _ _).alloc (Nat.le_refl _) _) hb'))⟩
        case measure => simp [intOf]; omega
      | true =>
        have hU := Lib.hid (hyes hq)
        rw [hq] at hr
        clear hyes hno hq hc hBs hBf0
        have hlen2 := turnUpto_le l k
        gi_wp2_with (gi_at_call 74; refine (hr _).mono ?_; rintro e w' ⟨rfl, hb'⟩; obtain ⟨hc', hf'⟩ := bcell hb'; obtain ⟨fn, tmps, assign, body, hy, hR⟩ := hY _ x w' (abides_below hJ (belowTrans ((Below.refl _ _).alloc (Nat.le_refl _) _) hb') hJs) (by omega); clear hY)
        refine hR.mono ?_
        rintro e W3 (⟨rfl, hJ3, hk3⟩ | ⟨rfl, hJx3⟩)
        · gi_wp2
          go_roundw
          case rel => exact ⟨k + 1, by omega, by simp, by rw [hU.out]; exact hJ3, hnx.trans ((KeepR.of_below (by have := hnx.1.size; omega) hBfw (belowTrans ((Below.refl _ _).alloc (Nat.le_refl _) _) hb')).trans hk3)⟩
          case measure => simp [intOf]; omega
        · gi_wp2
          refine bodyPost_ret (results_none rfl _ _ _) rfl ?_
          exact ⟨⟨_, rfl⟩, .inr ⟨_, ⟨k + 1, by omega, hU.out.symm⟩, hJx3⟩⟩
    · have hltz : ¬ (k : Int) < (l.length : Int) := by omega
      obtain rfl : k = l.length := by omega
      gi_wp2
      go_end0
      first
        | exact ⟨⟨_, rfl⟩, .inl ⟨_, rfl, by simpa [turnUpto] using hJs⟩⟩
        | exact ⟨⟨_, rfl⟩, .inl (by simpa [turnUpto] using hJs)⟩

set_option maxRecDepth 100000 in
set_option maxHeartbeats 1000000 in
/-- .. at the nil slice: no round. -/
theorem rightsT1_nil_in (n L Bs Bf : Nat) (J : List QTurn → World → Prop) (W : World) (hBs : W.cell? ⟨Bs, 0, none⟩ = some (.slice none 0 0)) (h0 : J [] W) :
    CallsIn Fence.wide n Tryz.prog 125 #[.func (.yield L) #[] #[], .pointer (some ⟨Bs, 0, none⟩), .pointer (some ⟨Bf, 0, none⟩)] W fun e W' => (∃ v, e = .returned v) ∧ J [] W' := by
  refine callsIn_of_wp Tryz.func125 rfl trivial ?_ rfl
  simp only [Tryz.ntmps125, List.size_toArray, List.length_cons, List.length_nil, Nat.reduceAdd, Nat.reduceSub, Array.replicate_succ, Array.replicate_zero, List.push_toArray, List.append_toArray, List.nil_append, List.cons_append]
  gi_wp2
  gi_loopw [8] (fun i wr => i = .int .i64 0 ∧ J [] wr) (fun _ _ => 0)
  case atStart => exact ⟨rfl, h0⟩
  case round =>
    obtain ⟨rfl, hJs⟩ := hrel
    gi_wp2
    go_end0
    exact ⟨⟨_, rfl⟩, hJs⟩

theorem turnUpto_prefix (l : List QTurn) (k : Nat) : turnUpto l k <+: l.filter QTurn.rightB := by
  unfold turnUpto
  exact (List.take_prefix k l).filter _

/-- rights(l, right) hands back a value that brings the right ones of l, in order, or a first part of them. -/
theorem rightsT_stops (n : Nat) (hn : 3 ≤ n) (Bs Bf n₀ : Nat) (sv : Value) (l : List QTurn) (w : World) (hBs : Bs < w.heap.size) (hBf : Bf < w.heap.size) (hn₀ : n₀ ≤ w.heap.size)
    (hc : w.cell? ⟨Bs, 0, none⟩ = some sv) (hf : w.cell? ⟨Bf, 0, none⟩ = some (.func (.func 74) #[] #[])) (hI : SliceAt 4 encTurn w sv l) (hlow : ∀ b off n c, sv = .slice (some ⟨b, off, none⟩) n c → b < n₀) :
    SeqStopsK Fence.wide n Tryz.prog 125 #[.pointer (some ⟨Bs, 0, none⟩), .pointer (some ⟨Bf, 0, none⟩)] (fun x : QTurn => #[.agg #[.int .u64 x.c, .int .u64 x.a, .int .u64 x.b, .int .u64 x.n]]) (KeepR n₀ Bf) (fun ys => ys = l.filter QTurn.rightB) (fun pre => pre <+: l.filter QTurn.rightB) l.length w := fun L J Jx W hW hJ _ hY h0 => by
  have hc' := (hW.cell (p := ⟨Bs, 0, none⟩) hBs).trans hc
  have hf' := (hW.cell (p := ⟨Bf, 0, none⟩) hBf).trans hf
  rcases hI.below hW with ⟨rfl, rfl⟩ | ⟨b, off, cap, rfl, hlen, hb, hcs⟩
  · exact (rightsT1_nil_in n L Bs Bf J W hc' h0).mono fun e W' ⟨he, hj⟩ => ⟨he, .inl ⟨_, rfl, hj⟩⟩
  · refine (rightsT1_in n hn L Bs Bf n₀ b off cap l hlen (hlow _ _ _ _ rfl) J Jx hY W (by have := hW.size; omega) (by have := hW.size; omega) hJ hc' hf' hcs h0).mono ?_
    rintro e W' ⟨he, ⟨ys, rfl, hj⟩ | ⟨pre, ⟨k, hk, rfl⟩, hj⟩⟩
    · exact ⟨he, .inl ⟨_, rfl, hj⟩⟩
    · exact ⟨he, .inr ⟨_, turnUpto_prefix l k, hj⟩⟩
end Go.Proofs.YthhbiliimdpgmaaGreatDoor
/- Walk: ids.TurnOf of no turns: 0. -/
namespace Go.Proofs.YthhbiliimdpgmaaGreatDoor
open Go.RowKit Go.Shelf

attribute [local go_sem] Oper.semAt_some
set_option maxRecDepth 100000 in
set_option maxHeartbeats 2000000 in
theorem turnOf_nil (i : QId) (w : World) : Calls Tryz.prog 49 #[.slice none 0 0, .agg #[.int .u64 i.c, .int .u64 i.k]] w fun e w' => e = .returned (.int .u64 0) ∧ Below w.heap.size w w' := by
  refine (callsIn_wide (n := 8)).1 ?_
  have hf1 : Fence.wide.fn 73 := trivial
  have h1 : 1 ≤ 8 := by omega
  refine callsIn_of_wp_marks Tryz.func49 rfl trivial ?_ rfl
  simp only [Tryz.ntmps49, List.size_toArray, List.length_cons, List.length_nil, Nat.reduceAdd, Nat.reduceSub, Array.replicate_succ, Array.replicate_zero, List.push_toArray, List.append_toArray, List.nil_append, List.cons_append]
  refine wpIn_wide.2 ?_
  go_wp2_with (go_at_call 73; refine (callsIn_wide.1 (rightsT_in 7 _ _ _ rfl rfl)).mono ?_; rintro e w' ⟨rfl, rfl⟩)
  have hB0 : Below w.heap.size w ((((w.alloc (.cells #[.int .u64 i.c, .int .u64 i.k] 28)).alloc (.cells #[.int .u64 0] 26)).alloc (.cells #[.slice none 0 0] 40)).alloc (.cells #[.func (.func 74) #[] #[]] 137)) := by (repeat (first | exact Below.refl _ _ | assumption | refine Below.alloc ?_ (by simp <;> omega) _ | refine Below.drew ?_ | refine below_drewN ?_ _ | refine Below.setCell ?_ (by simp <;> omega) _ | refine belowTrans ?_ (by assumption)))
  have bN := ((Boxed.new (w.alloc (.cells #[.int .u64 i.c, .int .u64 i.k] 28)) 26 (.int .u64 0)).alloc (.cells #[.slice none 0 0] 40)).alloc (.cells #[.func (.func 74) #[] #[]] 137)
  have bS := (Boxed.new ((w.alloc (.cells #[.int .u64 i.c, .int .u64 i.k] 28)).alloc (.cells #[.int .u64 0] 26)) 40 (.slice none 0 0)).alloc (.cells #[.func (.func 74) #[] #[]] 137)
  have bF := Boxed.new (((w.alloc (.cells #[.int .u64 i.c, .int .u64 i.k] 28)).alloc (.cells #[.int .u64 0] 26)).alloc (.cells #[.slice none 0 0] 40)) 137 (.func (.func 74) #[] #[])
  have hsz : ((((w.alloc (.cells #[.int .u64 i.c, .int .u64 i.k] 28)).alloc (.cells #[.int .u64 0] 26)).alloc (.cells #[.slice none 0 0] 40)).alloc (.cells #[.func (.func 74) #[] #[]] 137)).heap.size = w.heap.size + 4 := by simp
  simp only [World.size_alloc] at bN bS bF
  obtain ⟨W0, hW0⟩ : ∃ W0, ((((w.alloc (.cells #[.int .u64 i.c, .int .u64 i.k] 28)).alloc (.cells #[.int .u64 0] 26)).alloc (.cells #[.slice none 0 0] 40)).alloc (.cells #[.func (.func 74) #[] #[]] 137)) = W0 := ⟨_, rfl⟩
  rw [hW0] at hB0 hsz bN bS bF ⊢
  clear hW0
  have hw0 : w.heap.size ≤ W0.heap.size := by omega
  refine (wpIn_wide (n := 8)).1 ?_
  refine wpIn_rangeFunc_ownH rfl h1 (gf := 125) (lb := #[.pointer (some ⟨w.heap.size + 1 + 1, 0, none⟩), .pointer (some ⟨w.heap.size + 1 + 1 + 1, 0, none⟩)]) rfl trivial (enters_of Tryz.func125 (by kernel_rfl) rfl)
    (rightsT_stops 7 (by omega) (w.heap.size + 1 + 1) (w.heap.size + 1 + 1 + 1) w.heap.size (.slice none 0 0) [] W0 (by omega) (by omega) (by omega) bS.cell bF.cell (.inl ⟨rfl, rfl⟩) (by rintro b off n c h; cases h)) KeepR.trans ?hKb (Below.refl _ _) (fun _ => rfl)
    (fun _ W => Below w.heap.size w W ∧ W0.heap.size ≤ W.heap.size ∧ Boxed W (w.heap.size + 1) 26 (.int .u64 0)) (fun _ _ _ => False) ?hI ?hIx ?h0 (fun _ _ _ => True) ?hAx ?assign ?body ?done ?stop
  case hKb =>
    intro W l o o' hl' _ _ _
    exact ⟨belowK_b (by omega) W l o o' hl' ‹_› ‹_› ‹_›, World.putObj_heap_other (by omega)⟩
  case hI => exact OwnFrom.and (ownFrom_below (by omega) (by omega)) (OwnFrom.and (fun pre W W' row hs hg hr => Nat.le_trans hs hg.size) (fun pre W W' row hs hg hr => boxed_keepNC hs hg (fun r e => (hr r e).2)))
  case hIx => exact fun c s W W' row h _ _ => h
  case h0 => exact ⟨hB0, Nat.le_refl _, bN⟩
  case hAx => exact fun x a' s W W' row _ hg hr => trivial
  case assign =>
    intro L pre x W K hi hK
    gi_wp2
    have hk1 : KeepR w.heap.size (w.heap.size + 1 + 1 + 1) W (W.alloc (.cells #[.int .u64 x.c, .int .u64 x.a, .int .u64 x.b, .int .u64 x.n] 54)) := KeepR.of_below hi.1.size (by have := hi.2.1; omega) ((Below.refl _ _).alloc (Nat.le_refl _) _)
    exact hK _ _ ((KeepsOthers.alloc _ _).from _) hk1 ⟨hi.1.alloc hi.1.size _, by have := hi.2.1; simp; omega, hi.2.2.alloc _⟩ trivial
  case body =>
    rintro L pre x a' W hL _ _ _ hlt
    exact absurd hlt (by simp)
  case done =>
    rintro D xs W hD _ ⟨hB, hS, hbN⟩ hK
    have cv := hbN.cell
    go_wp2
    refine ⟨by simp, .inl ⟨_, _, rfl, run_takeDeferred hK, ?_⟩⟩
    refine ⟨_, results_tmp rfl _ _ _, ?_, ?_⟩
    · trivial
    · exact hB.trans (belowK_b (w := w) (Nat.le_refl _) W D _ _ (by omega) hK rfl rfl)
  case stop => exact fun _ _ _ _ _ _ h _ => h.elim
end Go.Proofs.YthhbiliimdpgmaaGreatDoor
/- Walk: the small parts of ids.Turns: order, sort of one, joined, DeleteFunc of one. -/
namespace Go.Proofs.YthhbiliimdpgmaaGreatDoor
open Go.RowKit Go.Shelf Go.Sort Go.Lib

instance : Inhabited QTurn := ⟨⟨0, 0, 0, 0⟩⟩
def QTurn.rng (t : QTurn) : QRng := ⟨t.c, t.a, t.b⟩
def QTurn.cmp (x y : QTurn) : Int := x.rng.cmp y.rng
set_option maxHeartbeats 400000 in
theorem turnCmp_any (x y : QTurn) (w : World) :
    Calls Tryz.prog 76 #[.agg #[.int .u64 x.c, .int .u64 x.a, .int .u64 x.b, .int .u64 x.n], .agg #[.int .u64 y.c, .int .u64 y.a, .int .u64 y.b, .int .u64 y.n]] w fun e w' => e = .returned (.int .i64 (x.cmp y)) ∧ ∃ q os, w' = Sort.grow (w.drewN q) os := by
  have h1 := fun W => cmpU_any x.c y.c W
  have h2 := fun W => cmpU_any x.a y.a W
  obtain ⟨u, hu⟩ : ∃ u, u = cmpU x.c y.c := ⟨_, rfl⟩
  obtain ⟨v, hv⟩ : ∃ v, v = cmpU x.a y.a := ⟨_, rfl⟩
  have hr : x.cmp y = orI u v := by rw [hu, hv]; rfl
  rw [← hu] at h1; rw [← hv] at h2; rw [hr]
  clear hr hu hv
  go_enter Tryz.func76, Tryz.ntmps76
  go_wp2
  go_region_held3 (fun w' => w'.cell? ⟨w.heap.size, 0, none⟩ = some (.int .u64 x.c) ∧ w'.cell? ⟨w.heap.size, 1, none⟩ = some (.int .u64 x.a) ∧ w'.cell? ⟨w.heap.size + 1, 0, none⟩ = some (.int .u64 y.c) ∧ w'.cell? ⟨w.heap.size + 1, 1, none⟩ = some (.int .u64 y.a)) (go_keep) (first | (go_at_call_of 78 (Value.int .u64 x.c); refine (h1 _).mono ?_; rintro e w' ⟨rfl, rfl⟩) | (go_at_call_of 78 (Value.int .u64 x.a); refine (h2 _).mono ?_; rintro e w' ⟨rfl, rfl⟩) | (go_at_call 77; refine (or2_any u v _ _ (by go_simp) (by go_simp)).mono ?_; rintro e w' ⟨rfl, rfl⟩))
  go_wp2
  go_ret
  exact ⟨rfl, grew_of_below (by (repeat (first | exact Below.refl _ _ | assumption | refine Below.alloc ?_ (by simp <;> omega) _ | refine Below.drew ?_ | refine below_drewN ?_ _ | refine Below.setCell ?_ (by simp <;> omega) _ | refine belowTrans ?_ (by assumption)))) (by simp)⟩
theorem turn_swo : SWO (ltOf QTurn.cmp) where
  irrefl x := rng_swo.irrefl x.rng
  trans x y z h1 h2 := rng_swo.trans x.rng y.rng z.rng h1 h2
  ntrans x y z h1 h2 := rng_swo.ntrans x.rng y.rng z.rng h1 h2
theorem turn_cmpLays (blk off size : Nat) (w : World) : CmpLays Tryz.prog 76 #[] encTurn 4 QTurn.cmp blk off size w :=
  fun _ _ _ _ x y => turnCmp_any x y _
theorem encTurn_one (x : QTurn) : ∀ v ∈ encTurn x, v.oneCell' = true := by
  intro v hv; simp [encTurn] at hv; rcases hv with rfl | rfl | rfl | rfl <;> rfl
theorem sortT_one (base : Nat) (v : Value) (t : QTurn) (W : World) (h : OwnAt base 54 4 encTurn W v [t]) :
    Calls Tryz.prog 75 #[v, .func (.func 76) #[] #[]] W fun e w' => e = .returned (.tuple #[]) ∧ OwnAt base 54 4 encTurn w' v [t] ∧ W.grownBy w' v.ownBlock := by
  have h' := h
  rcases h'.2 with ⟨rfl, h0⟩ | ⟨g, cap, cur, rfl, _⟩
  · exact absurd h0 (by simp)
  · obtain ⟨_, _, hg, hb, hH⟩ := OwnAt.holds (k := 4) (enc := encTurn) (fun _ => rfl) h
    have eg : ∀ args w, (callFunc 76 args).run Tryz.prog w = .ok (.enter 76 args) w := enters_of Tryz.func76 (by kernel_rfl) rfl
    have hcon := AnyQ.slices_SortFunc Tryz.sortTurn 4 (fun w => by kernel_rfl) (fun w => by kernel_rfl) encTurn (fun _ => rfl) encTurn_one QTurn.cmp turn_swo 76 #[] g 0 cap [t].toArray W eg (turn_cmpLays g 0 _ W) hH hg (by simp)
    refine hcon.mono ?_
    rintro e w' ⟨he, d', n, os, hp, hs, rfl⟩
    have hsz : d'.size = [t].length := by simpa using hp.1
    obtain ⟨h1, h2⟩ := OwnAt.sorted (k := 4) (enc := encTurn) (m := n) (os := os) (fun _ => rfl) h hsz
    have hd : d'.toList = [t] := by
      have := hp.2.2
      rw [show [t].toArray.size = d'.size by simp [hsz], Array.extract_size] at this
      simp at this
      rwa [List.take_of_length_le (by simp [hsz]), List.perm_singleton] at this
    rw [hd] at h1
    exact ⟨he, h1, h2⟩
theorem infoTurn : (Tryz.prog.info? 54).map (fun i => (i.zero, i.size, i.bytes)) = some (some (.agg #[.int .u64 0, .int .u64 0, .int .u64 0, .int .u64 0]), 4, 32) := by kernel_rfl
theorem turnCells (w : World) (B : Nat) (x : QTurn) (hB : B = w.heap.size) : ∀ j u, (encTurn x)[j]? = some u → (w.alloc (.cells #[.int .u64 x.c, .int .u64 x.a, .int .u64 x.b, .int .u64 x.n] 54)).cell? ((⟨B, 0, none⟩ : Addr).add j) = some u := by
  subst hB
  intro j u hu
  rw [Addr.add_lit, World.cell?, World.alloc_heap_new]
  simpa [encTurn] using hu
set_option maxRecDepth 100000 in
set_option maxHeartbeats 1000000 in
theorem joined_nil (t : QTurn) (w : World) :
    Calls Tryz.prog 80 #[.slice none 0 0, .agg #[.int .u64 t.c, .int .u64 t.a, .int .u64 t.b, .int .u64 t.n]] w (RetW fun v w' => OwnAt w.heap.size 54 4 encTurn w' v [t] ∧ Below w.heap.size w w') := by
  obtain ⟨i0, hi, hz0, hz1, hz2⟩ := info_parts infoTurn
  have hB0 : Below w.heap.size w (w.alloc (.cells #[.int .u64 t.c, .int .u64 t.a, .int .u64 t.b, .int .u64 t.n] 54)) := (Below.refl _ _).alloc (Nat.le_refl _) _
  go_enter Tryz.func80, Tryz.ntmps80
  go_wp2
  go_quiet (fail)
  go_wp2_with (at_builtin; refine wpList_append_own _ rfl _ _ 40 rfl w.heap.size 54 i0 (.agg #[.int .u64 0, .int .u64 0, .int .u64 0, .int .u64 0]) 4 32 Tryz.underlying40 hi hz0 hz1 hz2 rfl (by decide) _ _ _ rfl (show World.ownsRow _ w.heap.size 54 4 (.slice none 0 0) 0 [] from ⟨rfl, .inl ⟨rfl, rfl⟩⟩) ⟨w.heap.size + 1, 0, none⟩ 1 1 (encTurn t) rfl rfl ?d1 ?d2 ?d3 ?d4 ?d5 ?_)
  case d1 => exact turnCells _ _ t (by simp)
  case d2 => exact encTurn_one t
  case d3 => decide
  case d4 => decide
  case d5 => simp; omega
  intro v' w1 hown' hgrow hne
  go_wp2
  go_ret
  exact ⟨_, rfl, hown', ((below_drewN hB0 nq).alloc (by simp) _).grown hgrow (by simp; omega) (fun j e => by cases e)⟩
def zeroT : List Value := [.int .u64 0, .int .u64 0, .int .u64 0, .int .u64 0]
theorem endsBy_any (t : QTurn) (bA : Nat) (at_ : Int) (w : World) (hlt : bA < w.heap.size) (hA : w.cell? ⟨bA, 0, none⟩ = some (.int .u64 at_)) :
    Calls Tryz.prog 82 #[.agg #[.int .u64 t.c, .int .u64 t.a, .int .u64 t.b, .int .u64 t.n], .pointer (some ⟨bA, 0, none⟩)] w fun e w' => e = .returned (.bool (decide (t.b ≤ at_))) ∧ Below w.heap.size w w' := by
  have hA2 : (w.alloc (.cells #[.int .u64 t.c, .int .u64 t.a, .int .u64 t.b, .int .u64 t.n] 54)).cell? ⟨bA, 0, none⟩ = some (.int .u64 at_) := (((Below.refl w.heap.size w).alloc (Nat.le_refl _) _).cell (p := ⟨bA, 0, none⟩) hlt).trans hA
  go_enter Tryz.func82, Tryz.ntmps82
  go_wp2
  go_ret
  exact ⟨rfl, by (repeat (first | exact Below.refl _ _ | assumption | refine Below.alloc ?_ (by simp <;> omega) _ | refine Below.drew ?_ | refine below_drewN ?_ _ | refine Below.setCell ?_ (by simp <;> omega) _ | refine belowTrans ?_ (by assumption)))⟩
theorem indexT (t : QTurn) (bA : Nat) (at_ : Int) (g cap : Nat) (w : World) (hlt : bA < w.heap.size) (hA : w.cell? ⟨bA, 0, none⟩ = some (.int .u64 at_)) (hle : t.b ≤ at_) (hg : g < w.heap.size)
    (hc : ∀ j v, (encTurn t)[j]? = some v → w.cell? ⟨g, j, none⟩ = some v) :
    Calls Tryz.prog 129 #[.slice (some ⟨g, 0, none⟩) 1 cap, .func (.func 82) #[] #[.pointer (some ⟨bA, 0, none⟩)]] w fun e w' => e = .returned (.int .i64 0) ∧ Below w.heap.size w w' := by
  have hpb : PredBelow Tryz.prog 82 #[.pointer (some ⟨bA, 0, none⟩)] (fun x => .agg (encTurn x).toArray) (fun x => decide (x.b ≤ at_)) w := by
    intro W x hW
    refine (endsBy_any x bA at_ W (Nat.lt_of_lt_of_le hlt hW.size) ((hW.cell (p := ⟨bA, 0, none⟩) hlt).trans hA)).mono ?_
    exact fun e w' ⟨he, hb'⟩ => ⟨he, hW.trans (hb'.mono hW.size)⟩
  have := AnyQ.slices_IndexFunc Tryz.indexTurn 4 (fun w => by kernel_rfl) (fun w => by kernel_rfl) encTurn (fun _ => rfl) (fun x => decide (x.b ≤ at_)) 82 #[.pointer (some ⟨bA, 0, none⟩)] (enters_of Tryz.func82 (by kernel_rfl) rfl) g 0 1 cap [t] w hpb (Nat.le_refl _) (by omega) hg
    (fun j hj k v hv => by
      obtain rfl : j = 0 := by simpa using hj
      simpa using hc k v (by simpa using hv))
  have hi : idxBy (fun _ y : QTurn => decide (y.b ≤ at_)) ([t].take 1) default = 0 := by simp [idxBy, idxByFrom, hle]
  exact this.mono fun e w' ⟨h1, h2⟩ => ⟨by rw [h1]; exact congrArg (fun z => Ending.returned (.int .i64 z)) hi, h2⟩
set_option maxRecDepth 100000 in
set_option maxHeartbeats 1000000 in
theorem deleteT (t : QTurn) (bA : Nat) (at_ : Int) (g cap : Nat) (cur : Array Value) (w : World) (hbl : bA < w.heap.size) (hA : w.cell? ⟨bA, 0, none⟩ = some (.int .u64 at_)) (hle : t.b ≤ at_)
    (hg : w.heap[g]? = some (.cells cur 54 (0, 0))) (hcap : 4 ≤ cur.size) (hc1 : 1 ≤ cap)
    (hc : ∀ j v, (encTurn t)[j]? = some v → w.cell? ⟨g, j, none⟩ = some v) :
    Calls Tryz.prog 81 #[.slice (some ⟨g, 0, none⟩) 1 cap, .func (.func 82) #[] #[.pointer (some ⟨bA, 0, none⟩)]] w fun e w' => e = .returned (.slice (some ⟨g, 0, none⟩) 0 cap) ∧ Mods (fun k => k = g) w w' := by
  have hlt : g < w.heap.size := (Array.getElem?_eq_some_iff.1 hg).1
  have hix := indexT t bA at_ g cap w hbl hA hle hlt hc
  have HG := Lib.hid hg
  have hcz : (1 : Int) ≤ cap := by omega
  clear hg hA hc hle
  go_enter Tryz.func81, Tryz.ntmps81
  go_upto_region 5 with (go_at_call 129; refine hix.mono ?_; rintro e w1 ⟨rfl, hb1⟩)
  clear hix
  go_loopw [5, 6] (fun i j wr => i = .int .i64 0 ∧ j = .int .i64 1 ∧ wr = w1) (fun _ _ _ => 0)
  case atStart => exact ⟨rfl, rfl, rfl⟩
  case round =>
    obtain ⟨rfl, rfl, rfl⟩ := hrel
    have hlr : wr.heap[g]? = some (.cells cur 54 (0, 0)) := (hb1.block g hlt).trans HG.out
    have hcl : ∀ ty, (Builtin.clear_ #[40] ty #[.slice (some ⟨g, 0, none⟩) 1 cap]).run Tryz.prog wr = .ok (.tuple #[]) (wr.setCells g 0 zeroT) := by
      intro ty
      have hst := run_storeCells_cells (P := Tryz.prog) g 0 zeroT 0 wr (fun j hj => by
        have : j < 4 := hj
        simp [World.cell?, hlr]; omega) (fun j hj => by simp [World.frozen?, hlr]) (by
        have h1 : zeroT.all (·.oneCell') = true := by decide
        exact List.all_eq_true.1 h1)
      have hzv : ∀ w, (zeroValue 54).run Tryz.prog w = .ok (.agg #[.int .u64 0, .int .u64 0, .int .u64 0, .int .u64 0]) w := fun w => by kernel_rfl
      have hzc : (Builtin.zeroCells (Value.agg #[.int .u64 0, .int .u64 0, .int .u64 0, .int .u64 0]).cells 1).toList = zeroT := by kernel_rfl
      simp [Builtin.clear_, run_underlying Tryz.underlying40, hzv, hzc, hst]
    clear hlr
    go_wp2_with (refine wpList_clearB rfl _ _ rfl _ rfl hcl ?_)
    go_ret
    obtain ⟨r5, r4, r1, r2, r3⟩ := setCells_rest g zeroT 0 wr
    have hm := Mods.of_below (S := fun k => k = g) hb1
    exact ⟨rfl, ⟨r1.trans hm.os, r2.trans hm.tape, r3.trans hm.output, (by rw [r4]; exact hm.size), fun k hk hs => (r5 k hs).trans (hm.block k hk hs)⟩⟩
end Go.Proofs.YthhbiliimdpgmaaGreatDoor
