/- Walk: quirelaw12.MapsLast. -/
import Derived.Test.YteadongdlacgmaaKnown
import Derived.Test.YteadongdlacgmaaRef6
import Derived.Test.YteadongdlacgmaaLastLaw
import Derived.Test.YteadongdlacgmaaArgs
namespace Go.Proofs.Yteadongdlacgmaa
open Go.RowKit


theorem OpBox.setClient {w : World} {b : Nat} {o : QOp} (h : OpBox w b o) (c : Int) : OpBox (w.setCell ⟨b, 0, none⟩ (.int .u64 c)) b { o with id := ⟨c, o.id.k⟩ } := by
  unfold OpBox at *
  simp [World.setCell, Array.getElem?_modify, h, encOp]
theorem lastOp_at {zs : List Int} {vs : List QVal} {j : Nat} {z : Int} {x : QVal} (hz : zs[j]? = some z) (hx : vs[j]? = some x) : lastOp zs vs j = kOp (z / 64 + 1) ((j : Int) + 1) (z % 6 + 1) x := by
  simp [lastOp, List.getD, hz, hx]
theorem check8_any (c k st : Int) (v : QVal) (w : World) (hc1 : 1 ≤ c) (hc2 : c ≤ 1000) (hk1 : 1 ≤ k) (hk2 : k ≤ 1000) (hs1 : 1 ≤ st) (hs2 : st ≤ 1000) (hv : v.s.size ≤ 1000) :
    Calls Try.prog 17 #[opV (kOp c k st v)] w (IntR w) := check8_k c k st v w hc1 hc2 hk1 hk2 hs1 hs2 hv
theorem wpList_load_g {P : Program} {ops : Array Oper} {rest : List Oper} {o : Oper} {a : Act} {w : World} {Q : Exit → Act → World → Prop} (T : TypeId) {x : Operand} (ad : Addr) {v : Value} (ho : o.op = .load T x) (hx : a.eval x = .pointer (some ad))
    (hr : (loadVar T ad).run P w = .ok v w) (hw : Region.wanted o (yielded ops a.tmps) = true) (h : wpList P ops Q rest (a.put o.dst v) w) : wpList P ops Q (o :: rest) a w := by
  unfold wpList
  rw [if_pos hw]
  left
  unfold Oper.wp execOp
  simp only [ho, hx, Instr.loadAt, Instr.sureAddr, Sem.run_bind, Sem.run_pure, Result.andThen_ok, hr]
  exact h
theorem mem_lastBest {zs : List Int} {vs : List QVal} {n : Nat} {y : QOp} (h : lastBest zs vs n = some y) : ∃ c k st v, y = kOp c k st v := by
  rcases mem_bestOp _ _ _ _ h with h1 | h1
  · cases h1
  · simp only [lastOps, List.mem_map] at h1
    obtain ⟨i, _, rfl⟩ := h1
    exact ⟨_, _, _, _, rfl⟩
theorem same8_any (c k st : Int) (v : QVal) (w : World) :
    Calls Try.prog 19 #[opV (kOp c k st v).clean, opV (kOp c k st v)] w fun e w' => e = .returned (.bool true) ∧ Below w.heap.size w w' := same8_k c k st v w

theorem lessB_of {y o : QOp} (h : y.stamp < o.stamp ∨ (y.stamp = o.stamp ∧ (y.id.c < o.id.c ∨ (y.id.c = o.id.c ∧ y.id.k < o.id.k)))) : y.lessB o = true := by
  simp only [QOp.lessB, QId.lessB, Bool.or_eq_true, Bool.and_eq_true, decide_eq_true_eq]
  exact h
theorem lessB_not {y o : QOp} (h : ¬ (y.stamp < o.stamp ∨ (y.stamp = o.stamp ∧ (y.id.c < o.id.c ∨ (y.id.c = o.id.c ∧ y.id.k < o.id.k))))) : y.lessB o = false := by
  cases hl : y.lessB o
  · rfl
  · simp only [QOp.lessB, QId.lessB, Bool.or_eq_true, Bool.and_eq_true, decide_eq_true_eq] at hl
    exact absurd hl h
/-- a new box with a set, and no more. -/
def OAt (o : QOp) (wr : World) (u : Value) (w' : World) : Prop := ∃ ob, u = .pointer (some ⟨ob, 0, none⟩) ∧ OpBox w' ob o ∧ Below wr.heap.size wr w' ∧ wr.heap.size ≤ ob
set_option maxRecDepth 100000 in
set_option maxHeartbeats 40000000 in
theorem last_any (sz sv : Value) (zs : List Int) (vs : List QVal) (w : World) (hz : SliceP 1 encU8i w sz zs) (hv : SliceP 4 encVal w sv vs) (hzr : ∀ z ∈ zs, 0 ≤ z ∧ z < 256) :
    Calls Try.prog 5 #[sz, sv] w fun e w' => e = .returned (.bool true) ∧ Below w.heap.size w w' := by
  obtain ⟨pz, cz, rfl, hz9, hzc⟩ := hz
  obtain ⟨pv, cv, rfl, hv9, hvc⟩ := hv
  go_enter Try.func5, Try.ntmps5
  go_wp2_with fail
  refine (known_any _).mono ?_
  rintro e w0 ⟨rfl, hb0⟩
  by_cases hzl : zs.length ≤ 40
  · by_cases hvl : vs.length ≤ 40
    · go_wp2_with fail
      refine (newM_any w w0 (fun _ => False) hb0 (fun b h => h.elim)).mono ?_
      rintro e w1 ⟨rfl, st0, hb1⟩
      have bz : OpBox (w1.alloc (.cells #[.int .u64 opZero.id.c, .int .u64 opZero.id.k, .int .i64 opZero.kind, .int .u64 opZero.stamp, .int .u64 opZero.left.c, .int .u64 opZero.left.k, .int .u64 opZero.right.c, .int .u64 opZero.right.k, .string opZero.text, .int .i64 opZero.v.kind, .int .i64 opZero.v.n, .float .f64 opZero.v.f, .string opZero.v.s, .string opZero.key, .int .u64 opZero.parent.c, .int .u64 opZero.parent.k, .int .u64 opZero.frm.c, .int .u64 opZero.frm.k, .bool opZero.frmA, .int .u64 opZero.til.c, .int .u64 opZero.til.k, .bool opZero.tilA] 41)) w1.heap.size opZero := OpBox.new _ _
      have hb2 : Below w1.heap.size w1 (putOp (w1.alloc (.cells #[.int .u64 opZero.id.c, .int .u64 opZero.id.k, .int .i64 opZero.kind, .int .u64 opZero.stamp, .int .u64 opZero.left.c, .int .u64 opZero.left.k, .int .u64 opZero.right.c, .int .u64 opZero.right.k, .string opZero.text, .int .i64 opZero.v.kind, .int .i64 opZero.v.n, .float .f64 opZero.v.f, .string opZero.v.s, .string opZero.key, .int .u64 opZero.parent.c, .int .u64 opZero.parent.k, .int .u64 opZero.frm.c, .int .u64 opZero.frm.k, .bool opZero.frmA, .int .u64 opZero.til.c, .int .u64 opZero.til.k, .bool opZero.tilA] 41)) w1.heap.size opZero) := below_putOp ((Below.refl _ _).alloc (Nat.le_refl _) _) (Nat.le_refl _) _
      have hs2 : (putOp (w1.alloc (.cells #[.int .u64 opZero.id.c, .int .u64 opZero.id.k, .int .i64 opZero.kind, .int .u64 opZero.stamp, .int .u64 opZero.left.c, .int .u64 opZero.left.k, .int .u64 opZero.right.c, .int .u64 opZero.right.k, .string opZero.text, .int .i64 opZero.v.kind, .int .i64 opZero.v.n, .float .f64 opZero.v.f, .string opZero.v.s, .string opZero.key, .int .u64 opZero.parent.c, .int .u64 opZero.parent.k, .int .u64 opZero.frm.c, .int .u64 opZero.frm.k, .bool opZero.frmA, .int .u64 opZero.til.c, .int .u64 opZero.til.k, .bool opZero.tilA] 41)) w1.heap.size opZero).heap.size = w1.heap.size + 1 := by simp
      have Hs2 := Lib.hid hs2
      clear hs2
      have bq := bz.put opZero
      go_wp2_with (refine wpList_store_eq (T := 41) (v := opV opZero) rfl rfl rfl rfl (OpBox.store bz opZero) ?_; generalize putOp (w1.alloc (.cells #[.int .u64 opZero.id.c, .int .u64 opZero.id.k, .int .i64 opZero.kind, .int .u64 opZero.stamp, .int .u64 opZero.left.c, .int .u64 opZero.left.k, .int .u64 opZero.right.c, .int .u64 opZero.right.k, .string opZero.text, .int .i64 opZero.v.kind, .int .i64 opZero.v.n, .float .f64 opZero.v.f, .string opZero.v.s, .string opZero.key, .int .u64 opZero.parent.c, .int .u64 opZero.parent.k, .int .u64 opZero.frm.c, .int .u64 opZero.frm.k, .bool opZero.frmA, .int .u64 opZero.til.c, .int .u64 opZero.til.k, .bool opZero.tilA] 41)) w1.heap.size opZero = w2 at hb2 Hs2 bq ⊢)
      have st2 : MState w (fun b => b = w1.heap.size) (w0.heap.size + 2) QMaps.empty w2 := st0.reserve hb2 fun b hb => .inr (by have := Hs2.out; omega)
      clear bz hb2 st0 Hs2
      obtain ⟨N, hN⟩ : ∃ N, N = min zs.length vs.length := ⟨_, rfl⟩
      have hN1 : N ≤ zs.length := by omega
      have hN2 : N ≤ vs.length := by omega
      have HN := Lib.hid hN
      clear hN
      go_loopw [7, 8] (fun is i wr => ∃ j : Nat, j ≤ N ∧ i = .int .i64 j ∧ is = .bool (lastBest zs vs j).isSome ∧ MState w (fun b => b = w1.heap.size) (w0.heap.size + 2) (lastM zs vs j) wr ∧ OpBox wr w1.heap.size ((lastBest zs vs j).getD opZero)) (fun _ i _ => N - (intOf i).toNat)
      case atStart => exact ⟨0, Nat.zero_le _, rfl, rfl, st2, bq⟩
      case round =>
        obtain ⟨j, hj, rfl, rfl, st, bo⟩ := hrel
        clear st2 bq
        clear w2
        by_cases hlt : j < N
        · have hjz : j < zs.length := by omega
          have hjv : j < vs.length := by omega
          obtain ⟨z, hz⟩ : ∃ z, zs[j]? = some z := ⟨zs[j], by simp [hjz]⟩
          obtain ⟨x, hx⟩ : ∃ x, vs[j]? = some x := ⟨vs[j], by simp [hjv]⟩
          obtain ⟨bz, oz, rfl, hzl2, hzc2⟩ := hzc j z hz
          obtain ⟨bv, ov, rfl, hvl2, hvc2⟩ := hvc j x hx
          have zc : wr.cell? ⟨bz, oz + j, none⟩ = some (.int .u8 z) := (st.low.cell (p := ⟨bz, oz + j, none⟩) hzl2).trans (by simpa using hzc2 0 _ rfl)
          have vc0 : wr.cell? ⟨bv, ov + j * 4, none⟩ = some (.int .i64 x.kind) := (st.low.cell (p := ⟨bv, ov + j * 4, none⟩) hvl2).trans (hvc2 0 _ rfl)
          have vc1 : wr.cell? ⟨bv, ov + j * 4 + 1, none⟩ = some (.int .i64 x.n) := (st.low.cell (p := ⟨bv, ov + j * 4 + 1, none⟩) hvl2).trans (hvc2 1 _ rfl)
          have vc2 : wr.cell? ⟨bv, ov + j * 4 + 2, none⟩ = some (.float .f64 x.f) := (st.low.cell (p := ⟨bv, ov + j * 4 + 2, none⟩) hvl2).trans (hvc2 2 _ rfl)
          have vc3 : wr.cell? ⟨bv, ov + j * 4 + 3, none⟩ = some (.string x.s) := (st.low.cell (p := ⟨bv, ov + j * 4 + 3, none⟩) hvl2).trans (hvc2 3 _ rfl)
          have hzr2 := hzr z (List.mem_of_getElem? hz)
          have hlow := st.low
          clear hzc hvc
          by_cases hxs : x.s.size ≤ 100
          · cases hx5 : (x.kind == 5)
            · go_upto_region 12 with fail
              go_cut [9] (fun u wx => OAt (mkOp ((j : Int) + 1) (z % 6 + 1) idZero ⟨#[107]⟩ x) wr u wx)
              case first =>
                have zc' : ∀ s : MStep (fun _ => False) wr, s.val.cell? ⟨bz, oz + j, none⟩ = some (.int .u8 z) := MStep.cell (by show bz < _; have := st.low.size; omega) id zc
                have vc0' : ∀ s : MStep (fun _ => False) wr, s.val.cell? ⟨bv, ov + j * 4, none⟩ = some (.int .i64 x.kind) := MStep.cell (by show bv < _; have := st.low.size; omega) id vc0
                have vc1' : ∀ s : MStep (fun _ => False) wr, s.val.cell? ⟨bv, ov + j * 4 + 1, none⟩ = some (.int .i64 x.n) := MStep.cell (by show bv < _; have := st.low.size; omega) id vc1
                have vc2' : ∀ s : MStep (fun _ => False) wr, s.val.cell? ⟨bv, ov + j * 4 + 2, none⟩ = some (.float .f64 x.f) := MStep.cell (by show bv < _; have := st.low.size; omega) id vc2
                have vc3' : ∀ s : MStep (fun _ => False) wr, s.val.cell? ⟨bv, ov + j * 4 + 3, none⟩ = some (.string x.s) := MStep.cell (by show bv < _; have := st.low.size; omega) id vc3
                refine wp_region_flow2 17 [0, 1, 2, 3, 4, 5, 6, 7, 8, 9, 10, 11, 12, 13, 14] 15 16 [16, 17] [15, 17] (fun w' => ∃ s : MStep (fun _ => False) wr, w' = s.val) (by kernel_rfl) (by kernel_rfl) (fun _ _ d _ _ h => by cases d <;> exact h) (MStep.to (Mods.refl _ _).drew) ?_
                simp only [List.map_cons, List.map_nil, List.getElem?_cons_succ, List.getElem?_cons_zero, Option.getD_some]
                repeat (first | go_big_quiet_skip | (go_big_quiet_want; first | (fail; go_frame; go_big_quiet_on) | (go_big_quiet_op; go_big_quiet_on)))
                refine wpQuiet_nil ?_
                refine ⟨?_, ?_⟩
                · refine wpSeqF_step rfl ?_; simp only [List.getElem_toArray, List.getElem_cons_succ, List.getElem_cons_zero]
                  go_wp2_with fail
                  refine (setOp_any _ _ idZero ⟨#[107]⟩ x _).mono ?_
                  rintro e w5 ⟨rfl, hb5⟩
                  go_wp2_with fail
                  have hb5' : Below wr.heap.size wr w5 := ⟨hb5.os, hb5.tape, hb5.output, hb5.size, hb5.block⟩
                  refine ⟨MStep.to (Mods.of_below hb5'), ?_⟩
                  refine wpSeqF_step rfl ?_; simp only [List.getElem_toArray, List.getElem_cons_succ, List.getElem_cons_zero]
                  go_wp2_with fail
                  refine ⟨MStep.to (Mods.of_below (hb5'.alloc hb5'.size _)), ?_⟩
                  refine wpSeqF_step rfl ?_; simp only [List.getElem_toArray, List.getElem_cons_succ, List.getElem_cons_zero]
                  refine wpList_store_eq (T := 41) (v := opV (mkOp ((j : Int) + 1) (z % 6 + 1) idZero ⟨#[107]⟩ x)) rfl rfl rfl rfl (OpBox.store (OpBox.new w5 opZero) _) ?_
                  go_frame
                  have hfin : OAt (mkOp ((j : Int) + 1) (z % 6 + 1) idZero ⟨#[107]⟩ x) wr (.pointer (some ⟨w5.heap.size, 0, none⟩)) (putOp (w5.alloc (.cells #[.int .u64 opZero.id.c, .int .u64 opZero.id.k, .int .i64 opZero.kind, .int .u64 opZero.stamp, .int .u64 opZero.left.c, .int .u64 opZero.left.k, .int .u64 opZero.right.c, .int .u64 opZero.right.k, .string opZero.text, .int .i64 opZero.v.kind, .int .i64 opZero.v.n, .float .f64 opZero.v.f, .string opZero.v.s, .string opZero.key, .int .u64 opZero.parent.c, .int .u64 opZero.parent.k, .int .u64 opZero.frm.c, .int .u64 opZero.frm.k, .bool opZero.frmA, .int .u64 opZero.til.c, .int .u64 opZero.til.k, .bool opZero.tilA] 41)) w5.heap.size (mkOp ((j : Int) + 1) (z % 6 + 1) idZero ⟨#[107]⟩ x)) :=
                    ⟨_, rfl, (OpBox.new w5 opZero).put _, below_putOp (hb5'.alloc hb5'.size _) hb5'.size _, hb5'.size⟩
                  go_wp2_with fail
                  refine wpSeqF_nil ?_
                  go_wp2_with fail
                  go_meet
                  exact hfin
                · refine wpSeqF_step rfl ?_; simp only [List.getElem_toArray, List.getElem_cons_succ, List.getElem_cons_zero]
                  go_wp2_with fail
                  have hb4 : Below wr.heap.size wr ((wr.alloc (.cells #[.int .u64 opZero.id.c, .int .u64 opZero.id.k, .int .i64 opZero.kind, .int .u64 opZero.stamp, .int .u64 opZero.left.c, .int .u64 opZero.left.k, .int .u64 opZero.right.c, .int .u64 opZero.right.k, .string opZero.text, .int .i64 opZero.v.kind, .int .i64 opZero.v.n, .float .f64 opZero.v.f, .string opZero.v.s, .string opZero.key, .int .u64 opZero.parent.c, .int .u64 opZero.parent.k, .int .u64 opZero.frm.c, .int .u64 opZero.frm.k, .bool opZero.frmA, .int .u64 opZero.til.c, .int .u64 opZero.til.k, .bool opZero.tilA] 41)).drew) := ((Below.refl _ _).alloc (Nat.le_refl _) _).drew
                  have hbz4 : OpBox ((wr.alloc (.cells #[.int .u64 opZero.id.c, .int .u64 opZero.id.k, .int .i64 opZero.kind, .int .u64 opZero.stamp, .int .u64 opZero.left.c, .int .u64 opZero.left.k, .int .u64 opZero.right.c, .int .u64 opZero.right.k, .string opZero.text, .int .i64 opZero.v.kind, .int .i64 opZero.v.n, .float .f64 opZero.v.f, .string opZero.v.s, .string opZero.key, .int .u64 opZero.parent.c, .int .u64 opZero.parent.k, .int .u64 opZero.frm.c, .int .u64 opZero.frm.k, .bool opZero.frmA, .int .u64 opZero.til.c, .int .u64 opZero.til.k, .bool opZero.tilA] 41)).drew) wr.heap.size opZero := OpBox.new wr opZero
                  refine ⟨MStep.to (Mods.of_below hb4), ?_⟩
                  refine wpSeqF_step rfl ?_; simp only [List.getElem_toArray, List.getElem_cons_succ, List.getElem_cons_zero]
                  go_wp2_with fail
                  refine (setOp_any _ _ idZero ⟨#[107]⟩ x _).mono ?_
                  rintro e w5 ⟨rfl, hb5⟩
                  have hb5' : Below wr.heap.size wr w5 := hb4.trans (hb5.mono hb4.size)
                  have hbz5 : OpBox w5 wr.heap.size opZero := hbz4.below hb5 hbz4.lt
                  go_wp2_with fail
                  refine ⟨MStep.to (Mods.of_below hb5'), ?_⟩
                  refine wpSeqF_step rfl ?_; simp only [List.getElem_toArray, List.getElem_cons_succ, List.getElem_cons_zero]
                  refine wpList_store_eq (T := 41) (v := opV (mkOp ((j : Int) + 1) (z % 6 + 1) idZero ⟨#[107]⟩ x)) rfl rfl rfl rfl (OpBox.store hbz5 _) ?_
                  go_frame
                  have hfin : OAt (mkOp ((j : Int) + 1) (z % 6 + 1) idZero ⟨#[107]⟩ x) wr (.pointer (some ⟨wr.heap.size, 0, none⟩)) (putOp w5 wr.heap.size (mkOp ((j : Int) + 1) (z % 6 + 1) idZero ⟨#[107]⟩ x)) :=
                    ⟨_, rfl, hbz5.put _, below_putOp hb5' (Nat.le_refl _) _, Nat.le_refl _⟩
                  go_wp2_with fail
                  refine wpSeqF_nil ?_
                  go_wp2_with fail
                  go_meet
                  exact hfin
              case rest =>
                obtain ⟨ob, rfl, hob, hbc, hobl⟩ := hcut
                have st3 : MState w (fun b => b = w1.heap.size ∨ b = ob) (w0.heap.size + 2) (lastM zs vs j) wc := st.reserve hbc fun b hb => by
                  rcases hb with h | h
                  · exact .inl h
                  · exact .inr (by subst h; exact ⟨hobl, hob.lt⟩)
                have bo3 := bo.below hbc bo.lt
                have hne : ob ≠ w1.heap.size := by have := bo.lt; omega
                have hwo : w.heap.size ≤ ob := Nat.le_trans st.low.size hobl
                have zc3 : wc.cell? ⟨bz, oz + j, none⟩ = some (.int .u8 z) := (hbc.cell (p := ⟨bz, oz + j, none⟩) (by show bz < _; have := st.low.size; omega)).trans zc
                have o0 : wc.cell? ⟨ob, 0, none⟩ = some (.int .u64 1) := hob.cells 0 _ rfl
                have f0 : wc.frozen? ⟨ob, 0, none⟩ = false := by simp [World.frozen?, show wc.heap[ob]? = _ from hob]
                clear zc vc0 vc1 vc2 vc3 st bo hbc hlow
                go_upto_region 14 with fail
                have hob4 : OpBox (wc.setCell ⟨ob, 0, none⟩ (.int .u64 (z / 64 + 1))) ob (kOp (z / 64 + 1) ((j : Int) + 1) (z % 6 + 1) x) := hob.setClient (z / 64 + 1)
                have hm4 : Mods (fun b => b = ob) wc (wc.setCell ⟨ob, 0, none⟩ (.int .u64 (z / 64 + 1))) := ⟨rfl, rfl, rfl, by simp, fun b _ hne => Below.heap_setCell _ _ _ _ hne⟩
                have st4 := st3.mods hm4 fun b hb => by subst hb; exact ⟨hwo, .inr rfl⟩
                have bo4 : OpBox (wc.setCell ⟨ob, 0, none⟩ (.int .u64 (z / 64 + 1))) w1.heap.size ((lastBest zs vs j).getD opZero) := (hm4.block _ bo3.lt (Ne.symm hne)).trans bo3
                generalize wc.setCell ⟨ob, 0, none⟩ (.int .u64 (z / 64 + 1)) = wd at hob4 hm4 st4 bo4 ⊢
                clear hm4 st3 bo3 hob o0 f0 zc3
                go_wp2_with (refine wpList_load_eq (T := 41) rfl rfl rfl hob4.load ?_)
                refine (check8_any (z / 64 + 1) ((j : Int) + 1) (z % 6 + 1) x _ (by omega) (by omega) (by omega) (by omega) (by omega) (by omega) (by omega)).mono ?_
                rintro e w5 ⟨nc, rfl, hb5⟩
                have st5 := st4.below hb5
                have bo5 := bo4.below hb5 bo4.lt
                have hob5 := hob4.below hb5 hob4.lt
                have hlow5 := st5.low
                clear st4 bo4 hob4 hb5
                by_cases hn0 : nc = 0
                · subst hn0
                  go_wp2_with (refine wpList_load_eq (T := 41) rfl rfl rfl hob5.load ?_)
                  have hset := lastM_setB zs vs j (by omega) (by rw [List.getD, hz]; exact hzr2)
                  rw [lastOp_at hz hx] at hset
                  refine (setM_yes w _ _ _ _ _ st5 (by rw [lastM_length]; omega) hset).mono ?_
                  rintro e w6 ⟨rfl, hst6⟩
                  have st6 := hst6.st
                  have bo6 : OpBox w6 w1.heap.size ((lastBest zs vs j).getD opZero) := (hst6.kept _ (.inl rfl)).trans bo5
                  have hob6 : OpBox w6 ob (kOp (z / 64 + 1) ((j : Int) + 1) (z % 6 + 1) x) := (hst6.kept _ (.inr rfl)).trans hob5
                  have hsucc := lastM_succ zs vs j
                  rw [lastOp_at hz hx] at hsucc
                  rw [← hsucc] at st6
                  have hbs := lastBest_succ zs vs j
                  rw [lastOp_at hz hx] at hbs
                  clear hst6 st5 bo5 hob5 hsucc hset hlow5
                  have hput := bo6.put (kOp (z / 64 + 1) ((j : Int) + 1) (z % 6 + 1) x)
                  have hmp : Mods (fun b => b = w1.heap.size) w6 (putOp w6 w1.heap.size (kOp (z / 64 + 1) ((j : Int) + 1) (z % 6 + 1) x)) := ⟨rfl, rfl, rfl, by simp, fun b _ hne => putOp_other hne⟩
                  have stp := (st6.mods hmp fun b hb => by subst hb; exact ⟨by have := hb0.size; have := hb1.size; omega, .inl rfl⟩).less (R' := fun b => b = w1.heap.size) fun b hb => .inl hb
                  have st7 := st6.less (R' := fun b => b = w1.heap.size) fun b hb => .inl hb
                  have p0 : w6.cell? ⟨ob, 0, none⟩ = some (.int .u64 (z / 64 + 1)) := hob6.cells 0 _ rfl
                  have p1 : w6.cell? ⟨ob, 1, none⟩ = some (.int .u64 ((j : Int) + 1)) := hob6.cells 1 _ rfl
                  have p3 : w6.cell? ⟨ob, 3, none⟩ = some (.int .u64 (z % 6 + 1)) := hob6.cells 3 _ rfl
                  clear hmp st6
                  rcases hbest : lastBest zs vs j with _ | y
                  · rw [hbest] at hbs bo6
                    have Hbs := Lib.hid hbs
                    clear hbs hbest
                    simp only [Option.isSome_none, Option.getD_none] at bo6 ⊢
                    go_upto_region 18 with fail
                    go_wp2_with (first | (refine wpList_load_eq (T := 41) (v := opV (kOp (z / 64 + 1) ((j : Int) + 1) (z % 6 + 1) x)) rfl rfl rfl hob6.load ?_) | (refine wpList_store_eq (T := 41) (v := opV (kOp (z / 64 + 1) ((j : Int) + 1) (z % 6 + 1) x)) rfl rfl rfl rfl (OpBox.store bo6 (kOp (z / 64 + 1) ((j : Int) + 1) (z % 6 + 1) x)) ?_))
                    go_roundw
                    case rel => exact ⟨j + 1, by omega, by go_num, by rw [Hbs.out]; simp [pickOp, hasRngs], stp, by rw [Hbs.out]; simpa [pickOp, hasRngs] using hput⟩
                    case measure => simp [intOf]; omega
                  · rw [hbest] at hbs bo6
                    have Hbs := Lib.hid hbs
                    clear hbs hbest
                    simp only [Option.isSome_some, Option.getD_some] at bo6 ⊢
                    have y0 : w6.cell? ⟨w1.heap.size, 0, none⟩ = some (.int .u64 y.id.c) := bo6.cells 0 _ rfl
                    have y1 : w6.cell? ⟨w1.heap.size, 1, none⟩ = some (.int .u64 y.id.k) := bo6.cells 1 _ rfl
                    have y3 : w6.cell? ⟨w1.heap.size, 3, none⟩ = some (.int .u64 y.stamp) := bo6.cells 3 _ rfl
                    rcases Int.lt_trichotomy y.stamp (z % 6 + 1) with h1 | h1 | h1
                    · have Hl : Hid (y.lessB (kOp (z / 64 + 1) ((j : Int) + 1) (z % 6 + 1) x) = true) := Lib.hid (by exact lessB_of (show (y.stamp < z % 6 + 1 ∨ (y.stamp = z % 6 + 1 ∧ (y.id.c < z / 64 + 1 ∨ (y.id.c = z / 64 + 1 ∧ y.id.k < (j : Int) + 1)))) by omega))
                      go_upto_region 18 with fail
                      go_wp2_with (first | (refine wpList_load_eq (T := 41) (v := opV (kOp (z / 64 + 1) ((j : Int) + 1) (z % 6 + 1) x)) rfl rfl rfl hob6.load ?_) | (refine wpList_store_eq (T := 41) (v := opV (kOp (z / 64 + 1) ((j : Int) + 1) (z % 6 + 1) x)) rfl rfl rfl rfl (OpBox.store bo6 (kOp (z / 64 + 1) ((j : Int) + 1) (z % 6 + 1) x)) ?_))
                      go_roundw
                      case rel => exact ⟨j + 1, by omega, by go_num, by rw [Hbs.out]; simp [pickOp, hasRngs, Hl.out], stp, by rw [Hbs.out]; simpa [pickOp, hasRngs, Hl.out] using hput⟩
                      case measure => simp [intOf]; omega
                    · have t1 : ¬ (y.stamp < z % 6 + 1) := by omega
                      have t2 : (y.stamp == z % 6 + 1) = true := by simpa using h1
                      have H1 := Lib.hid h1
                      clear h1
                      rcases Int.lt_trichotomy y.id.c (z / 64 + 1) with h3 | h3 | h3
                      · have Hl : Hid (y.lessB (kOp (z / 64 + 1) ((j : Int) + 1) (z % 6 + 1) x) = true) := Lib.hid (by have := H1.out; exact lessB_of (show (y.stamp < z % 6 + 1 ∨ (y.stamp = z % 6 + 1 ∧ (y.id.c < z / 64 + 1 ∨ (y.id.c = z / 64 + 1 ∧ y.id.k < (j : Int) + 1)))) by omega))
                        go_upto_region 18 with fail
                        go_wp2_with (first | (refine wpList_load_eq (T := 41) (v := opV (kOp (z / 64 + 1) ((j : Int) + 1) (z % 6 + 1) x)) rfl rfl rfl hob6.load ?_) | (refine wpList_store_eq (T := 41) (v := opV (kOp (z / 64 + 1) ((j : Int) + 1) (z % 6 + 1) x)) rfl rfl rfl rfl (OpBox.store bo6 (kOp (z / 64 + 1) ((j : Int) + 1) (z % 6 + 1) x)) ?_))
                        go_roundw
                        case rel => exact ⟨j + 1, by omega, by go_num, by rw [Hbs.out]; simp [pickOp, hasRngs, Hl.out], stp, by rw [Hbs.out]; simpa [pickOp, hasRngs, Hl.out] using hput⟩
                        case measure => simp [intOf]; omega
                      · have t3 : ¬ (y.id.c < z / 64 + 1) := by omega
                        have t4 : (y.id.c == z / 64 + 1) = true := by simpa using h3
                        have H3 := Lib.hid h3
                        clear h3
                        by_cases h5 : y.id.k < (j : Int) + 1
                        · have Hl : Hid (y.lessB (kOp (z / 64 + 1) ((j : Int) + 1) (z % 6 + 1) x) = true) := Lib.hid (by have := H1.out; have := H3.out; exact lessB_of (show (y.stamp < z % 6 + 1 ∨ (y.stamp = z % 6 + 1 ∧ (y.id.c < z / 64 + 1 ∨ (y.id.c = z / 64 + 1 ∧ y.id.k < (j : Int) + 1)))) by omega))
                          go_upto_region 18 with fail
                          go_wp2_with (first | (refine wpList_load_eq (T := 41) (v := opV (kOp (z / 64 + 1) ((j : Int) + 1) (z % 6 + 1) x)) rfl rfl rfl hob6.load ?_) | (refine wpList_store_eq (T := 41) (v := opV (kOp (z / 64 + 1) ((j : Int) + 1) (z % 6 + 1) x)) rfl rfl rfl rfl (OpBox.store bo6 (kOp (z / 64 + 1) ((j : Int) + 1) (z % 6 + 1) x)) ?_))
                          go_roundw
                          case rel => exact ⟨j + 1, by omega, by go_num, by rw [Hbs.out]; simp [pickOp, hasRngs, Hl.out], stp, by rw [Hbs.out]; simpa [pickOp, hasRngs, Hl.out] using hput⟩
                          case measure => simp [intOf]; omega
                        · have Hl : Hid (y.lessB (kOp (z / 64 + 1) ((j : Int) + 1) (z % 6 + 1) x) = false) := Lib.hid (by have := H1.out; have := H3.out; exact lessB_not (show ¬ (y.stamp < z % 6 + 1 ∨ (y.stamp = z % 6 + 1 ∧ (y.id.c < z / 64 + 1 ∨ (y.id.c = z / 64 + 1 ∧ y.id.k < (j : Int) + 1)))) by omega))
                          go_wp2_with fail
                          go_roundw
                          case rel => exact ⟨j + 1, by omega, by go_num, by rw [Hbs.out]; simp [pickOp, hasRngs, Hl.out], st7, by rw [Hbs.out]; simpa [pickOp, hasRngs, Hl.out] using bo6⟩
                          case measure => simp [intOf]; omega
                      · have t3 : ¬ (y.id.c < z / 64 + 1) := by omega
                        have t4 : (y.id.c == z / 64 + 1) = false := by simp; omega
                        have Hl : Hid (y.lessB (kOp (z / 64 + 1) ((j : Int) + 1) (z % 6 + 1) x) = false) := Lib.hid (by have := H1.out; exact lessB_not (show ¬ (y.stamp < z % 6 + 1 ∨ (y.stamp = z % 6 + 1 ∧ (y.id.c < z / 64 + 1 ∨ (y.id.c = z / 64 + 1 ∧ y.id.k < (j : Int) + 1)))) by omega))
                        go_wp2_with fail
                        go_roundw
                        case rel => exact ⟨j + 1, by omega, by go_num, by rw [Hbs.out]; simp [pickOp, hasRngs, Hl.out], st7, by rw [Hbs.out]; simpa [pickOp, hasRngs, Hl.out] using bo6⟩
                        case measure => simp [intOf]; omega
                    · have t1 : ¬ (y.stamp < z % 6 + 1) := by omega
                      have t2 : (y.stamp == z % 6 + 1) = false := by simp; omega
                      have Hl : Hid (y.lessB (kOp (z / 64 + 1) ((j : Int) + 1) (z % 6 + 1) x) = false) := Lib.hid (by exact lessB_not (show ¬ (y.stamp < z % 6 + 1 ∨ (y.stamp = z % 6 + 1 ∧ (y.id.c < z / 64 + 1 ∨ (y.id.c = z / 64 + 1 ∧ y.id.k < (j : Int) + 1)))) by omega))
                      go_wp2_with fail
                      go_roundw
                      case rel => exact ⟨j + 1, by omega, by go_num, by rw [Hbs.out]; simp [pickOp, hasRngs, Hl.out], st7, by rw [Hbs.out]; simpa [pickOp, hasRngs, Hl.out] using bo6⟩
                      case measure => simp [intOf]; omega
                · have hn1 : (nc != 0) = true := by simpa using hn0
                  clear hn0
                  go_wp2_with fail
                  go_ret
                  exact ⟨rfl, hlow5⟩
            · go_wp2_with fail
              go_ret
              exact ⟨rfl, hlow⟩
          · go_wp2_with fail
            go_ret
            exact ⟨rfl, hlow⟩
        · have hje : j = N := by omega
          subst hje
          have hcase : (¬ (j : Int) < zs.length) ∨ ((j : Int) < zs.length ∧ ¬ (j : Int) < vs.length) := by have := HN.out; omega
          have hget := getM_any w _ _ (lastM zs vs j) idZero ⟨#[107]⟩ wr st
          rw [lastM_get] at hget
          have hvlen := lastM_view zs vs j
          rw [lastM_get] at hvlen
          have hview := fun W (h : MState w (fun b => b = w1.heap.size) (w0.heap.size + 2) (lastM zs vs j) W) => viewM_any w _ _ _ W h (lastM_wf zs vs j (by omega) fun i hi => by
            have hil : i < zs.length := by omega
            obtain ⟨z, hz⟩ : ∃ z, zs[i]? = some z := ⟨zs[i], by simp [hil]⟩
            rw [List.getD, hz]; exact hzr z (List.mem_of_getElem? hz)) (fun o ho => by
              obtain ⟨i, _, rfl⟩ := mem_lastM ho
              exact (by decide : (⟨#[107]⟩ : ByteArray).size ≤ maxLen)) (by rw [lastM_length]; omega)
          rcases hcase with hcase | ⟨hcase1, hcase⟩
          focus
            go_wp2_with fail
            refine Calls.mono hget ?_
            rintro e w7 ⟨rfl, hb7⟩
            have st7 := st.below hb7
            have bo7 := bo.below hb7 bo.lt
            clear hget hb7 st bo
            rcases hbest : lastBest zs vs j with _ | y
            · rw [hbest] at bo7 hvlen
              simp only [Option.map_none, seen, Option.getD_none, Option.isSome_none, Bool.false_eq_true, if_false] at bo7 hvlen ⊢
              clear hbest
              have hb8 : Below w7.heap.size w7 (putOp (w7.alloc (.cells #[.int .u64 opZero.id.c, .int .u64 opZero.id.k, .int .i64 opZero.kind, .int .u64 opZero.stamp, .int .u64 opZero.left.c, .int .u64 opZero.left.k, .int .u64 opZero.right.c, .int .u64 opZero.right.k, .string opZero.text, .int .i64 opZero.v.kind, .int .i64 opZero.v.n, .float .f64 opZero.v.f, .string opZero.v.s, .string opZero.key, .int .u64 opZero.parent.c, .int .u64 opZero.parent.k, .int .u64 opZero.frm.c, .int .u64 opZero.frm.k, .bool opZero.frmA, .int .u64 opZero.til.c, .int .u64 opZero.til.k, .bool opZero.tilA] 41)) w7.heap.size opZero) := below_putOp ((Below.refl _ _).alloc (Nat.le_refl _) _) (Nat.le_refl _) _
              have bz7 : OpBox (w7.alloc (.cells #[.int .u64 opZero.id.c, .int .u64 opZero.id.k, .int .i64 opZero.kind, .int .u64 opZero.stamp, .int .u64 opZero.left.c, .int .u64 opZero.left.k, .int .u64 opZero.right.c, .int .u64 opZero.right.k, .string opZero.text, .int .i64 opZero.v.kind, .int .i64 opZero.v.n, .float .f64 opZero.v.f, .string opZero.v.s, .string opZero.key, .int .u64 opZero.parent.c, .int .u64 opZero.parent.k, .int .u64 opZero.frm.c, .int .u64 opZero.frm.k, .bool opZero.frmA, .int .u64 opZero.til.c, .int .u64 opZero.til.k, .bool opZero.tilA] 41)) w7.heap.size opZero := OpBox.new _ _
              have hgb := bz7.put opZero
              go_wp2_with (refine wpList_store_eq (T := 41) (v := opV opZero) rfl rfl rfl rfl (OpBox.store bz7 opZero) ?_; generalize putOp (w7.alloc (.cells #[.int .u64 opZero.id.c, .int .u64 opZero.id.k, .int .i64 opZero.kind, .int .u64 opZero.stamp, .int .u64 opZero.left.c, .int .u64 opZero.left.k, .int .u64 opZero.right.c, .int .u64 opZero.right.k, .string opZero.text, .int .i64 opZero.v.kind, .int .i64 opZero.v.n, .float .f64 opZero.v.f, .string opZero.v.s, .string opZero.key, .int .u64 opZero.parent.c, .int .u64 opZero.parent.k, .int .u64 opZero.frm.c, .int .u64 opZero.frm.k, .bool opZero.frmA, .int .u64 opZero.til.c, .int .u64 opZero.til.k, .bool opZero.tilA] 41)) w7.heap.size opZero = w8 at hb8 hgb ⊢)
              have st8 := st7.below hb8
              refine Calls.mono (hview _ st8) ?_
              rintro e w9 ⟨vv, rfl, hvv, hb9⟩
              obtain ⟨pp, cc, rfl, _, _⟩ := hvv.shape
              rw [hvlen]
              have hlow := (st8.below hb9).low
              clear hvv hb9 st8 hb8 hgb hview
              go_wp2_with fail
              go_ret
              exact ⟨rfl, hlow⟩
            · obtain ⟨yc, yk, yst, yv, rfl⟩ := mem_lastBest hbest
              rw [hbest] at bo7 hvlen
              have y9 : ∀ W, Below w7.heap.size w7 W → W.cell? ⟨w1.heap.size, 9, none⟩ = some (.int .i64 yv.kind) := fun W hW => (bo7.below hW bo7.lt).cells 9 _ rfl
              by_cases hk : yv.kind = 0
              · have hs : seen (some (kOp yc yk yst yv).clean) = none := by simp [seen, QOp.clean, kOp, clean_kind, hk]
                have hk0 : (yv.kind == 0) = true := by simpa using hk
                simp only [Option.map_some, hs, Option.getD_none, Option.isSome_none, Option.isSome_some, Option.getD_some, Bool.false_eq_true, if_false] at bo7 hvlen ⊢
                clear hbest hs hk
                have hy9 := y9 _ (below_putOp ((Below.refl _ _).alloc (Nat.le_refl _) (.cells #[.int .u64 opZero.id.c, .int .u64 opZero.id.k, .int .i64 opZero.kind, .int .u64 opZero.stamp, .int .u64 opZero.left.c, .int .u64 opZero.left.k, .int .u64 opZero.right.c, .int .u64 opZero.right.k, .string opZero.text, .int .i64 opZero.v.kind, .int .i64 opZero.v.n, .float .f64 opZero.v.f, .string opZero.v.s, .string opZero.key, .int .u64 opZero.parent.c, .int .u64 opZero.parent.k, .int .u64 opZero.frm.c, .int .u64 opZero.frm.k, .bool opZero.frmA, .int .u64 opZero.til.c, .int .u64 opZero.til.k, .bool opZero.tilA] 41)) (Nat.le_refl w7.heap.size) opZero)
                clear y9
                have hb8 : Below w7.heap.size w7 (putOp (w7.alloc (.cells #[.int .u64 opZero.id.c, .int .u64 opZero.id.k, .int .i64 opZero.kind, .int .u64 opZero.stamp, .int .u64 opZero.left.c, .int .u64 opZero.left.k, .int .u64 opZero.right.c, .int .u64 opZero.right.k, .string opZero.text, .int .i64 opZero.v.kind, .int .i64 opZero.v.n, .float .f64 opZero.v.f, .string opZero.v.s, .string opZero.key, .int .u64 opZero.parent.c, .int .u64 opZero.parent.k, .int .u64 opZero.frm.c, .int .u64 opZero.frm.k, .bool opZero.frmA, .int .u64 opZero.til.c, .int .u64 opZero.til.k, .bool opZero.tilA] 41)) w7.heap.size opZero) := below_putOp ((Below.refl _ _).alloc (Nat.le_refl _) _) (Nat.le_refl _) _
                have bz7 : OpBox (w7.alloc (.cells #[.int .u64 opZero.id.c, .int .u64 opZero.id.k, .int .i64 opZero.kind, .int .u64 opZero.stamp, .int .u64 opZero.left.c, .int .u64 opZero.left.k, .int .u64 opZero.right.c, .int .u64 opZero.right.k, .string opZero.text, .int .i64 opZero.v.kind, .int .i64 opZero.v.n, .float .f64 opZero.v.f, .string opZero.v.s, .string opZero.key, .int .u64 opZero.parent.c, .int .u64 opZero.parent.k, .int .u64 opZero.frm.c, .int .u64 opZero.frm.k, .bool opZero.frmA, .int .u64 opZero.til.c, .int .u64 opZero.til.k, .bool opZero.tilA] 41)) w7.heap.size opZero := OpBox.new _ _
                have hgb := bz7.put opZero
                go_wp2_with (refine wpList_store_eq (T := 41) (v := opV opZero) rfl rfl rfl rfl (OpBox.store bz7 opZero) ?_; generalize putOp (w7.alloc (.cells #[.int .u64 opZero.id.c, .int .u64 opZero.id.k, .int .i64 opZero.kind, .int .u64 opZero.stamp, .int .u64 opZero.left.c, .int .u64 opZero.left.k, .int .u64 opZero.right.c, .int .u64 opZero.right.k, .string opZero.text, .int .i64 opZero.v.kind, .int .i64 opZero.v.n, .float .f64 opZero.v.f, .string opZero.v.s, .string opZero.key, .int .u64 opZero.parent.c, .int .u64 opZero.parent.k, .int .u64 opZero.frm.c, .int .u64 opZero.frm.k, .bool opZero.frmA, .int .u64 opZero.til.c, .int .u64 opZero.til.k, .bool opZero.tilA] 41)) w7.heap.size opZero = w8 at hb8 hgb hy9 ⊢)
                have st8 := st7.below hb8
                refine Calls.mono (hview _ st8) ?_
                rintro e w9 ⟨vv, rfl, hvv, hb9⟩
                obtain ⟨pp, cc, rfl, _, _⟩ := hvv.shape
                rw [hvlen]
                have hlow := (st8.below hb9).low
                clear hvv hb9 st8 hb8 hgb hview
                go_wp2_with fail
                go_ret
                exact ⟨rfl, hlow⟩
              · have hs : seen (some (kOp yc yk yst yv).clean) = some (kOp yc yk yst yv).clean := by simp [seen, QOp.clean, kOp, clean_kind, hk]
                have hk0 : (yv.kind == 0) = false := by simpa using hk
                simp only [Option.map_some, hs, Option.isSome_some, Option.getD_some, if_true] at bo7 hvlen ⊢
                clear hbest hs hk
                have hy9 := y9 _ (below_putOp ((Below.refl _ _).alloc (Nat.le_refl _) (.cells #[.int .u64 opZero.id.c, .int .u64 opZero.id.k, .int .i64 opZero.kind, .int .u64 opZero.stamp, .int .u64 opZero.left.c, .int .u64 opZero.left.k, .int .u64 opZero.right.c, .int .u64 opZero.right.k, .string opZero.text, .int .i64 opZero.v.kind, .int .i64 opZero.v.n, .float .f64 opZero.v.f, .string opZero.v.s, .string opZero.key, .int .u64 opZero.parent.c, .int .u64 opZero.parent.k, .int .u64 opZero.frm.c, .int .u64 opZero.frm.k, .bool opZero.frmA, .int .u64 opZero.til.c, .int .u64 opZero.til.k, .bool opZero.tilA] 41)) (Nat.le_refl w7.heap.size) (kOp yc yk yst yv).clean)
                clear y9
                have hb8 : Below w7.heap.size w7 (putOp (w7.alloc (.cells #[.int .u64 opZero.id.c, .int .u64 opZero.id.k, .int .i64 opZero.kind, .int .u64 opZero.stamp, .int .u64 opZero.left.c, .int .u64 opZero.left.k, .int .u64 opZero.right.c, .int .u64 opZero.right.k, .string opZero.text, .int .i64 opZero.v.kind, .int .i64 opZero.v.n, .float .f64 opZero.v.f, .string opZero.v.s, .string opZero.key, .int .u64 opZero.parent.c, .int .u64 opZero.parent.k, .int .u64 opZero.frm.c, .int .u64 opZero.frm.k, .bool opZero.frmA, .int .u64 opZero.til.c, .int .u64 opZero.til.k, .bool opZero.tilA] 41)) w7.heap.size (kOp yc yk yst yv).clean) := below_putOp ((Below.refl _ _).alloc (Nat.le_refl _) _) (Nat.le_refl _) _
                have bz7 : OpBox (w7.alloc (.cells #[.int .u64 opZero.id.c, .int .u64 opZero.id.k, .int .i64 opZero.kind, .int .u64 opZero.stamp, .int .u64 opZero.left.c, .int .u64 opZero.left.k, .int .u64 opZero.right.c, .int .u64 opZero.right.k, .string opZero.text, .int .i64 opZero.v.kind, .int .i64 opZero.v.n, .float .f64 opZero.v.f, .string opZero.v.s, .string opZero.key, .int .u64 opZero.parent.c, .int .u64 opZero.parent.k, .int .u64 opZero.frm.c, .int .u64 opZero.frm.k, .bool opZero.frmA, .int .u64 opZero.til.c, .int .u64 opZero.til.k, .bool opZero.tilA] 41)) w7.heap.size opZero := OpBox.new _ _
                have hgb := bz7.put (kOp yc yk yst yv).clean
                have bo8 := bo7.below hb8 bo7.lt
                go_wp2_with (first | (refine wpList_store_eq (T := 41) (v := opV (kOp yc yk yst yv).clean) rfl rfl rfl rfl (OpBox.store bz7 (kOp yc yk yst yv).clean) ?_; generalize putOp (w7.alloc (.cells #[.int .u64 opZero.id.c, .int .u64 opZero.id.k, .int .i64 opZero.kind, .int .u64 opZero.stamp, .int .u64 opZero.left.c, .int .u64 opZero.left.k, .int .u64 opZero.right.c, .int .u64 opZero.right.k, .string opZero.text, .int .i64 opZero.v.kind, .int .i64 opZero.v.n, .float .f64 opZero.v.f, .string opZero.v.s, .string opZero.key, .int .u64 opZero.parent.c, .int .u64 opZero.parent.k, .int .u64 opZero.frm.c, .int .u64 opZero.frm.k, .bool opZero.frmA, .int .u64 opZero.til.c, .int .u64 opZero.til.k, .bool opZero.tilA] 41)) w7.heap.size (kOp yc yk yst yv).clean = w8 at hb8 hgb hy9 bo8 ⊢) | (refine wpList_load_g 41 ⟨w7.heap.size, 0, none⟩ rfl rfl hgb.load (by rfl) ?_) | (refine wpList_load_g 41 ⟨w1.heap.size, 0, none⟩ rfl rfl bo8.load (by rfl) ?_))
                refine (same8_any yc yk yst yv _).mono ?_
                rintro e w9 ⟨rfl, hb9⟩
                have st9 := (st7.below hb8).below hb9
                go_wp2_with fail
                refine Calls.mono (hview _ st9) ?_
                rintro e w10 ⟨vv, rfl, hvv, hb10⟩
                obtain ⟨pp, cc, rfl, _, _⟩ := hvv.shape
                rw [hvlen]
                have hlow := (st9.below hb10).low
                clear hvv hb10 st9 hb9 hb8 hgb hview bo8
                go_wp2_with fail
                go_ret
                exact ⟨rfl, hlow⟩
          focus
            go_wp2_with fail
            refine Calls.mono hget ?_
            rintro e w7 ⟨rfl, hb7⟩
            have st7 := st.below hb7
            have bo7 := bo.below hb7 bo.lt
            clear hget hb7 st bo
            rcases hbest : lastBest zs vs j with _ | y
            · rw [hbest] at bo7 hvlen
              simp only [Option.map_none, seen, Option.getD_none, Option.isSome_none, Bool.false_eq_true, if_false] at bo7 hvlen ⊢
              clear hbest
              have hb8 : Below w7.heap.size w7 (putOp (w7.alloc (.cells #[.int .u64 opZero.id.c, .int .u64 opZero.id.k, .int .i64 opZero.kind, .int .u64 opZero.stamp, .int .u64 opZero.left.c, .int .u64 opZero.left.k, .int .u64 opZero.right.c, .int .u64 opZero.right.k, .string opZero.text, .int .i64 opZero.v.kind, .int .i64 opZero.v.n, .float .f64 opZero.v.f, .string opZero.v.s, .string opZero.key, .int .u64 opZero.parent.c, .int .u64 opZero.parent.k, .int .u64 opZero.frm.c, .int .u64 opZero.frm.k, .bool opZero.frmA, .int .u64 opZero.til.c, .int .u64 opZero.til.k, .bool opZero.tilA] 41)) w7.heap.size opZero) := below_putOp ((Below.refl _ _).alloc (Nat.le_refl _) _) (Nat.le_refl _) _
              have bz7 : OpBox (w7.alloc (.cells #[.int .u64 opZero.id.c, .int .u64 opZero.id.k, .int .i64 opZero.kind, .int .u64 opZero.stamp, .int .u64 opZero.left.c, .int .u64 opZero.left.k, .int .u64 opZero.right.c, .int .u64 opZero.right.k, .string opZero.text, .int .i64 opZero.v.kind, .int .i64 opZero.v.n, .float .f64 opZero.v.f, .string opZero.v.s, .string opZero.key, .int .u64 opZero.parent.c, .int .u64 opZero.parent.k, .int .u64 opZero.frm.c, .int .u64 opZero.frm.k, .bool opZero.frmA, .int .u64 opZero.til.c, .int .u64 opZero.til.k, .bool opZero.tilA] 41)) w7.heap.size opZero := OpBox.new _ _
              have hgb := bz7.put opZero
              go_wp2_with (refine wpList_store_eq (T := 41) (v := opV opZero) rfl rfl rfl rfl (OpBox.store bz7 opZero) ?_; generalize putOp (w7.alloc (.cells #[.int .u64 opZero.id.c, .int .u64 opZero.id.k, .int .i64 opZero.kind, .int .u64 opZero.stamp, .int .u64 opZero.left.c, .int .u64 opZero.left.k, .int .u64 opZero.right.c, .int .u64 opZero.right.k, .string opZero.text, .int .i64 opZero.v.kind, .int .i64 opZero.v.n, .float .f64 opZero.v.f, .string opZero.v.s, .string opZero.key, .int .u64 opZero.parent.c, .int .u64 opZero.parent.k, .int .u64 opZero.frm.c, .int .u64 opZero.frm.k, .bool opZero.frmA, .int .u64 opZero.til.c, .int .u64 opZero.til.k, .bool opZero.tilA] 41)) w7.heap.size opZero = w8 at hb8 hgb ⊢)
              have st8 := st7.below hb8
              refine Calls.mono (hview _ st8) ?_
              rintro e w9 ⟨vv, rfl, hvv, hb9⟩
              obtain ⟨pp, cc, rfl, _, _⟩ := hvv.shape
              rw [hvlen]
              have hlow := (st8.below hb9).low
              clear hvv hb9 st8 hb8 hgb hview
              go_wp2_with fail
              go_ret
              exact ⟨rfl, hlow⟩
            · obtain ⟨yc, yk, yst, yv, rfl⟩ := mem_lastBest hbest
              rw [hbest] at bo7 hvlen
              have y9 : ∀ W, Below w7.heap.size w7 W → W.cell? ⟨w1.heap.size, 9, none⟩ = some (.int .i64 yv.kind) := fun W hW => (bo7.below hW bo7.lt).cells 9 _ rfl
              by_cases hk : yv.kind = 0
              · have hs : seen (some (kOp yc yk yst yv).clean) = none := by simp [seen, QOp.clean, kOp, clean_kind, hk]
                have hk0 : (yv.kind == 0) = true := by simpa using hk
                simp only [Option.map_some, hs, Option.getD_none, Option.isSome_none, Option.isSome_some, Option.getD_some, Bool.false_eq_true, if_false] at bo7 hvlen ⊢
                clear hbest hs hk
                have hy9 := y9 _ (below_putOp ((Below.refl _ _).alloc (Nat.le_refl _) (.cells #[.int .u64 opZero.id.c, .int .u64 opZero.id.k, .int .i64 opZero.kind, .int .u64 opZero.stamp, .int .u64 opZero.left.c, .int .u64 opZero.left.k, .int .u64 opZero.right.c, .int .u64 opZero.right.k, .string opZero.text, .int .i64 opZero.v.kind, .int .i64 opZero.v.n, .float .f64 opZero.v.f, .string opZero.v.s, .string opZero.key, .int .u64 opZero.parent.c, .int .u64 opZero.parent.k, .int .u64 opZero.frm.c, .int .u64 opZero.frm.k, .bool opZero.frmA, .int .u64 opZero.til.c, .int .u64 opZero.til.k, .bool opZero.tilA] 41)) (Nat.le_refl w7.heap.size) opZero)
                clear y9
                have hb8 : Below w7.heap.size w7 (putOp (w7.alloc (.cells #[.int .u64 opZero.id.c, .int .u64 opZero.id.k, .int .i64 opZero.kind, .int .u64 opZero.stamp, .int .u64 opZero.left.c, .int .u64 opZero.left.k, .int .u64 opZero.right.c, .int .u64 opZero.right.k, .string opZero.text, .int .i64 opZero.v.kind, .int .i64 opZero.v.n, .float .f64 opZero.v.f, .string opZero.v.s, .string opZero.key, .int .u64 opZero.parent.c, .int .u64 opZero.parent.k, .int .u64 opZero.frm.c, .int .u64 opZero.frm.k, .bool opZero.frmA, .int .u64 opZero.til.c, .int .u64 opZero.til.k, .bool opZero.tilA] 41)) w7.heap.size opZero) := below_putOp ((Below.refl _ _).alloc (Nat.le_refl _) _) (Nat.le_refl _) _
                have bz7 : OpBox (w7.alloc (.cells #[.int .u64 opZero.id.c, .int .u64 opZero.id.k, .int .i64 opZero.kind, .int .u64 opZero.stamp, .int .u64 opZero.left.c, .int .u64 opZero.left.k, .int .u64 opZero.right.c, .int .u64 opZero.right.k, .string opZero.text, .int .i64 opZero.v.kind, .int .i64 opZero.v.n, .float .f64 opZero.v.f, .string opZero.v.s, .string opZero.key, .int .u64 opZero.parent.c, .int .u64 opZero.parent.k, .int .u64 opZero.frm.c, .int .u64 opZero.frm.k, .bool opZero.frmA, .int .u64 opZero.til.c, .int .u64 opZero.til.k, .bool opZero.tilA] 41)) w7.heap.size opZero := OpBox.new _ _
                have hgb := bz7.put opZero
                go_wp2_with (refine wpList_store_eq (T := 41) (v := opV opZero) rfl rfl rfl rfl (OpBox.store bz7 opZero) ?_; generalize putOp (w7.alloc (.cells #[.int .u64 opZero.id.c, .int .u64 opZero.id.k, .int .i64 opZero.kind, .int .u64 opZero.stamp, .int .u64 opZero.left.c, .int .u64 opZero.left.k, .int .u64 opZero.right.c, .int .u64 opZero.right.k, .string opZero.text, .int .i64 opZero.v.kind, .int .i64 opZero.v.n, .float .f64 opZero.v.f, .string opZero.v.s, .string opZero.key, .int .u64 opZero.parent.c, .int .u64 opZero.parent.k, .int .u64 opZero.frm.c, .int .u64 opZero.frm.k, .bool opZero.frmA, .int .u64 opZero.til.c, .int .u64 opZero.til.k, .bool opZero.tilA] 41)) w7.heap.size opZero = w8 at hb8 hgb hy9 ⊢)
                have st8 := st7.below hb8
                refine Calls.mono (hview _ st8) ?_
                rintro e w9 ⟨vv, rfl, hvv, hb9⟩
                obtain ⟨pp, cc, rfl, _, _⟩ := hvv.shape
                rw [hvlen]
                have hlow := (st8.below hb9).low
                clear hvv hb9 st8 hb8 hgb hview
                go_wp2_with fail
                go_ret
                exact ⟨rfl, hlow⟩
              · have hs : seen (some (kOp yc yk yst yv).clean) = some (kOp yc yk yst yv).clean := by simp [seen, QOp.clean, kOp, clean_kind, hk]
                have hk0 : (yv.kind == 0) = false := by simpa using hk
                simp only [Option.map_some, hs, Option.isSome_some, Option.getD_some, if_true] at bo7 hvlen ⊢
                clear hbest hs hk
                have hy9 := y9 _ (below_putOp ((Below.refl _ _).alloc (Nat.le_refl _) (.cells #[.int .u64 opZero.id.c, .int .u64 opZero.id.k, .int .i64 opZero.kind, .int .u64 opZero.stamp, .int .u64 opZero.left.c, .int .u64 opZero.left.k, .int .u64 opZero.right.c, .int .u64 opZero.right.k, .string opZero.text, .int .i64 opZero.v.kind, .int .i64 opZero.v.n, .float .f64 opZero.v.f, .string opZero.v.s, .string opZero.key, .int .u64 opZero.parent.c, .int .u64 opZero.parent.k, .int .u64 opZero.frm.c, .int .u64 opZero.frm.k, .bool opZero.frmA, .int .u64 opZero.til.c, .int .u64 opZero.til.k, .bool opZero.tilA] 41)) (Nat.le_refl w7.heap.size) (kOp yc yk yst yv).clean)
                clear y9
                have hb8 : Below w7.heap.size w7 (putOp (w7.alloc (.cells #[.int .u64 opZero.id.c, .int .u64 opZero.id.k, .int .i64 opZero.kind, .int .u64 opZero.stamp, .int .u64 opZero.left.c, .int .u64 opZero.left.k, .int .u64 opZero.right.c, .int .u64 opZero.right.k, .string opZero.text, .int .i64 opZero.v.kind, .int .i64 opZero.v.n, .float .f64 opZero.v.f, .string opZero.v.s, .string opZero.key, .int .u64 opZero.parent.c, .int .u64 opZero.parent.k, .int .u64 opZero.frm.c, .int .u64 opZero.frm.k, .bool opZero.frmA, .int .u64 opZero.til.c, .int .u64 opZero.til.k, .bool opZero.tilA] 41)) w7.heap.size (kOp yc yk yst yv).clean) := below_putOp ((Below.refl _ _).alloc (Nat.le_refl _) _) (Nat.le_refl _) _
                have bz7 : OpBox (w7.alloc (.cells #[.int .u64 opZero.id.c, .int .u64 opZero.id.k, .int .i64 opZero.kind, .int .u64 opZero.stamp, .int .u64 opZero.left.c, .int .u64 opZero.left.k, .int .u64 opZero.right.c, .int .u64 opZero.right.k, .string opZero.text, .int .i64 opZero.v.kind, .int .i64 opZero.v.n, .float .f64 opZero.v.f, .string opZero.v.s, .string opZero.key, .int .u64 opZero.parent.c, .int .u64 opZero.parent.k, .int .u64 opZero.frm.c, .int .u64 opZero.frm.k, .bool opZero.frmA, .int .u64 opZero.til.c, .int .u64 opZero.til.k, .bool opZero.tilA] 41)) w7.heap.size opZero := OpBox.new _ _
                have hgb := bz7.put (kOp yc yk yst yv).clean
                have bo8 := bo7.below hb8 bo7.lt
                go_wp2_with (first | (refine wpList_store_eq (T := 41) (v := opV (kOp yc yk yst yv).clean) rfl rfl rfl rfl (OpBox.store bz7 (kOp yc yk yst yv).clean) ?_; generalize putOp (w7.alloc (.cells #[.int .u64 opZero.id.c, .int .u64 opZero.id.k, .int .i64 opZero.kind, .int .u64 opZero.stamp, .int .u64 opZero.left.c, .int .u64 opZero.left.k, .int .u64 opZero.right.c, .int .u64 opZero.right.k, .string opZero.text, .int .i64 opZero.v.kind, .int .i64 opZero.v.n, .float .f64 opZero.v.f, .string opZero.v.s, .string opZero.key, .int .u64 opZero.parent.c, .int .u64 opZero.parent.k, .int .u64 opZero.frm.c, .int .u64 opZero.frm.k, .bool opZero.frmA, .int .u64 opZero.til.c, .int .u64 opZero.til.k, .bool opZero.tilA] 41)) w7.heap.size (kOp yc yk yst yv).clean = w8 at hb8 hgb hy9 bo8 ⊢) | (refine wpList_load_g 41 ⟨w7.heap.size, 0, none⟩ rfl rfl hgb.load (by rfl) ?_) | (refine wpList_load_g 41 ⟨w1.heap.size, 0, none⟩ rfl rfl bo8.load (by rfl) ?_))
                refine (same8_any yc yk yst yv _).mono ?_
                rintro e w9 ⟨rfl, hb9⟩
                have st9 := (st7.below hb8).below hb9
                go_wp2_with fail
                refine Calls.mono (hview _ st9) ?_
                rintro e w10 ⟨vv, rfl, hvv, hb10⟩
                obtain ⟨pp, cc, rfl, _, _⟩ := hvv.shape
                rw [hvlen]
                have hlow := (st9.below hb10).low
                clear hvv hb10 st9 hb9 hb8 hgb hview bo8
                go_wp2_with fail
                go_ret
                exact ⟨rfl, hlow⟩
    · have hv2 : ¬ (vs.length : Int) ≤ 40 := by omega
      go_wp2_with fail
      go_ret
      exact ⟨rfl, hb0⟩
  · go_wp2_with fail
    go_ret
    exact ⟨rfl, hb0⟩
end Go.Proofs.Yteadongdlacgmaa
