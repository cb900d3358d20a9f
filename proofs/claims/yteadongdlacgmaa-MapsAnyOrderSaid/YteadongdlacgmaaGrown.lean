/- Walk: quirelaw12.grown. -/
import Derived.Test.YteadongdlacgmaaKnown
import Derived.Test.YteadongdlacgmaaOrderLaw
import Derived.Test.YteadongdlacgmaaNestW
import Derived.Test.YteadongdlacgmaaArgs
import Derived.Test.YteadongdlacgmaaFlow3
import Derived.Great.Walk
namespace Go.Proofs.Yteadongdlacgmaa
open Go.RowKit

def encIdv (i : QId) : List Value := [.int .u64 i.c, .int .u64 i.k]
theorem infoId : (Try.prog.info? 34).map (fun i => (i.zero, i.size, i.bytes)) = some (some (.agg #[.int .u64 idZero.c, .int .u64 idZero.k]), 2, 16) := by kernel_rfl

theorem OpBox.setCl {w : World} {b : Nat} {o : QOp} (h : OpBox w b o) (c : Int) : OpBox (w.setCell ⟨b, 0, none⟩ (.int .u64 c)) b { o with id := ⟨c, o.id.k⟩ } := by
  unfold OpBox at *
  simp [World.setCell, Array.getElem?_modify, h, encOp]
theorem below_set {w w' : World} {b n : Nat} (hb : Below w.heap.size w w') (hl : w.heap.size ≤ b) (v : Value) : Below w.heap.size w (w'.setCell ⟨b, n, none⟩ v) := hb.setCell (p := ⟨b, n, none⟩) hl v
theorem OpBox.f {w : World} {b : Nat} {o : QOp} (h : OpBox w b o) (n : Nat) : w.frozen? ⟨b, n, none⟩ = false := by simp [World.frozen?, show w.heap[b]? = _ from h]
theorem abc_cut (n : Nat) : (⟨#[97, 98, 99]⟩ : ByteArray).extract (n % 3) (n % 3 + 1) = abcAt n := by
  have h : n % 3 = 0 ∨ n % 3 = 1 ∨ n % 3 = 2 := by omega
  unfold abcAt
  rcases h with h | h | h
  · rw [h, if_pos (by omega)]; decide
  · rw [h, if_neg (by omega), if_pos (by omega)]; decide
  · rw [h, if_neg (by omega), if_neg (by omega)]; decide
/-- a slice literal of one whole set. -/
theorem wpList_sliceOp {ops : Array Oper} {rest : List Oper} {o : Oper} {a : Act} {w : World} {Q : Exit → Act → World → Prop} (x1 : QOp) (hg : o.guard = none) (x : Operand) (ho : o.op = .buildSlice 26 1 #[(0, x)]) (hx : a.eval x = opV x1)
    (h : wpList Try.prog ops Q rest (a.put o.dst (.slice (some ⟨w.heap.size, 0, none⟩) 1 1)) (w.alloc (.cells (encOp x1).toArray 41))) : wpList Try.prog ops Q (o :: rest) a w := by
  refine Great.wpList_buildSliceTo hg 26 41 1 #[(0, x)] ho w.heap.size rfl o.dst rfl Try.underlying26 (encOp x1).toArray ?_ h
  rw [show (#[(0, x)].map fun (p : Nat × Operand) => (p.1, a.eval p.2)).toList = [(0, opV x1)] by simp [hx]]
  kernel_rfl
/-- a new box with a set, and no more. -/
def NewAt (o : QOp) (wr : World) (u : Value) (w' : World) : Prop := ∃ ob, u = .pointer (some ⟨ob, 0, none⟩) ∧ OpBox w' ob o ∧ Below wr.heap.size wr w' ∧ wr.heap.size ≤ ob
/-- what grown hands back: the list l, in new memory. -/
def GrownR (l : List QOp) (w : World) (e : Ending) (w' : World) : Prop := ∃ v, e = .returned v ∧ OwnAt w.heap.size 41 22 encOp w' v l ∧ Below w.heap.size w w'
set_option maxRecDepth 100000 in
set_option maxHeartbeats 40000000 in
theorem grown_any (sz : Value) (zs : List Int) (w : World) (hz : SliceP 1 (fun n => [.int .u16 n]) w sz zs) (hzr : ∀ z ∈ zs, 0 ≤ z ∧ z < 65536) (hzl : zs.length ≤ 40) :
    Calls Try.prog 7 #[sz] w (GrownR (growS zs zs.length).1 w) := by
  obtain ⟨pz, cz, rfl, hz9, hzc⟩ := hz
  go_enter Try.func7, Try.ntmps7
  go_wp2_with fail
  have own0 : OwnAt w.heap.size 34 2 encIdv (w.alloc (.cells #[.int .u64 0, .int .u64 0] 34)) (.slice (some ⟨w.heap.size, 0, none⟩) 1 1) (growS zs 0).2 := World.ownsRow_lit w _ 1 (Nat.le_refl _) (by decide) rfl
  have hbw : Below w.heap.size w (w.alloc (.cells #[.int .u64 0, .int .u64 0] 34)) := by (repeat (first | exact Below.refl _ _ | assumption | refine Below.alloc ?_ (by simp <;> omega) _ | refine Below.drew ?_ | refine below_drewN ?_ _ | refine Below.setCell ?_ (by simp <;> omega) _ | refine belowTrans ?_ (by assumption)))
  generalize w.alloc (.cells #[.int .u64 0, .int .u64 0] 34) = W at own0 hbw ⊢
  go_loopw [3, 4, 5] (fun out ins i wr => ∃ j : Nat, j ≤ zs.length ∧ i = .int .i64 j ∧ Below w.heap.size w wr ∧ OwnAt w.heap.size 41 22 encOp wr out (growS zs j).1 ∧ OwnAt w.heap.size 34 2 encIdv wr ins (growS zs j).2) (fun _ _ i _ => zs.length - (intOf i).toNat)
  case atStart => exact ⟨0, Nat.zero_le _, rfl, hbw, OwnAt.nil, own0⟩
  case round =>
    obtain ⟨j, hj, rfl, hb, hout, hins⟩ := hrel
    clear own0 hbw
    clear W
    obtain ⟨hgr, hlen, hne, hle, hpar⟩ := growS_inv zs j (by omega)
    by_cases hlt : j < zs.length
    · obtain ⟨z, hz⟩ : ∃ z, zs[j]? = some z := ⟨zs[j], by simp [hlt]⟩
      obtain ⟨bz, oz, rfl, hzl2, hzc2⟩ := hzc j z hz
      have hzr2 := hzr z (List.mem_of_getElem? hz)
      obtain ⟨n, rfl⟩ := Int.eq_ofNat_of_zero_le hzr2.1
      have hn2 : n < 65536 := by omega
      have zc : wr.cell? ⟨bz, oz + j, none⟩ = some (.int .u16 (n : Int)) := (hb.cell (p := ⟨bz, oz + j, none⟩) hzl2).trans (by simpa using hzc2 0 _ rfl)
      clear hzc hzc2 hzr hzr2
      have hlow := hb
      obtain ⟨L, hL⟩ : ∃ L, (growS zs j).2.length = L := ⟨_, rfl⟩
      have hLp : 0 < L := by rw [← hL]; exact List.length_pos_iff.2 hne
      have hmod : n % L < L := Nat.mod_lt _ hLp
      obtain ⟨p, hp⟩ : ∃ p, (growS zs j).2[n % L]? = some p := ⟨(growS zs j).2[n % L]'(by omega), List.getElem?_eq_getElem _⟩
      obtain ⟨g, ci, rfl, hgs, hc0, hc1⟩ : ∃ g ci, u4 = .slice (some ⟨g, 0, none⟩) L ci ∧ g < wr.heap.size ∧ wr.cell? ⟨g, n % L * 2, none⟩ = some (.int .u64 p.c) ∧ wr.cell? ⟨g, n % L * 2 + 1, none⟩ = some (.int .u64 p.k) := by
        have h := hins
        unfold OwnAt at h
        rw [hL] at h
        rcases h.2 with ⟨_, e⟩ | ⟨g, cap, cur, rfl, _, hcur, _⟩
        · omega
        · have hx := fun i (hi : i < 2) => flat_get (enc := encIdv) (k := 2) (fun _ => rfl) (growS zs j).2 (n % L) i p hp hi
          have h0 := h.cellAt (n % L * 2) (by omega)
          have h1 := h.cellAt (n % L * 2 + 1) (by omega)
          exact ⟨g, cap, rfl, (Array.getElem?_eq_some_iff.1 hcur).1, h0.trans (hx 0 (by omega)), h1.trans (hx 1 (by omega))⟩
      have hLm : (L : Int) ≤ 41 := by omega
      go_upto_region 7 with fail
      go_cut [7] (fun u wx => NewAt (mkOp ((j : Int) + 1) (1 + (n : Int) / 64 % 5) p (abcAt ((n / 4 : Nat) : Int)) ⟨2, j, 0, ⟨#[]⟩⟩) wr u wx)
      case first =>
        have ic0 : ∀ s : MStep (fun _ => False) wr, s.val.cell? ⟨g, n % L * 2, none⟩ = some (.int .u64 p.c) := MStep.cell hgs id hc0
        have ic1 : ∀ s : MStep (fun _ => False) wr, s.val.cell? ⟨g, n % L * 2 + 1, none⟩ = some (.int .u64 p.k) := MStep.cell hgs id hc1
        refine wp_region_flow4 27 [0, 1, 2, 3, 4, 5, 6, 7, 8, 9, 10, 11, 12, 13, 14, 15, 16, 17, 18, 19, 20, 21, 22, 23, 24] 25 26 [26, 27] [25, 27] (fun w' => ∃ s : MStep (fun _ => False) wr, w' = s.val) (by kernel_rfl) (by kernel_rfl) (fun _ _ d _ _ h => by cases d <;> exact h) (MStep.to (Mods.refl _ _).drew) ?_
        simp only [List.map_cons, List.map_nil, List.getElem?_cons_succ, List.getElem?_cons_zero, Option.getD_some]
        repeat (first | go_big_quiet_skip | (go_big_quiet_want; first | (fail; go_frame; go_big_quiet_on) | (go_big_quiet_op; go_big_quiet_on)))
        refine wpQuiet_nil ?_
        refine ⟨?_, ?_⟩
        · refine wpSeqF_step rfl ?_; simp only [List.getElem_toArray, List.getElem_cons_succ, List.getElem_cons_zero]
          go_wp2_with fail
          rw [abc_cut (n / 4)]
          refine (setOp_any _ _ p (abcAt ((n / 4 : Nat) : Int)) ⟨2, j, 0, ⟨#[]⟩⟩ _).mono ?_
          rintro e w5 ⟨rfl, hb5⟩
          go_wp2_with fail
          have hb5' : Below wr.heap.size wr w5 := ⟨hb5.os, hb5.tape, hb5.output, hb5.size, hb5.block⟩
          refine ⟨MStep.to (Mods.of_below hb5'), ?_⟩
          refine wpSeqF_step rfl ?_; simp only [List.getElem_toArray, List.getElem_cons_succ, List.getElem_cons_zero]
          go_wp2_with fail
          refine ⟨MStep.to (Mods.of_below (hb5'.alloc hb5'.size _)), ?_⟩
          refine wpSeqF_step rfl ?_; simp only [List.getElem_toArray, List.getElem_cons_succ, List.getElem_cons_zero]
          refine wpList_store_eq (T := 41) (v := opV (mkOp ((j : Int) + 1) (1 + (n : Int) / 64 % 5) p (abcAt ((n / 4 : Nat) : Int)) ⟨2, j, 0, ⟨#[]⟩⟩)) rfl rfl rfl rfl (OpBox.store (OpBox.new w5 opZero) _) ?_
          go_frame
          have hfin : NewAt (mkOp ((j : Int) + 1) (1 + (n : Int) / 64 % 5) p (abcAt ((n / 4 : Nat) : Int)) ⟨2, j, 0, ⟨#[]⟩⟩) wr (.pointer (some ⟨w5.heap.size, 0, none⟩)) (putOp (w5.alloc (.cells #[.int .u64 opZero.id.c, .int .u64 opZero.id.k, .int .i64 opZero.kind, .int .u64 opZero.stamp, .int .u64 opZero.left.c, .int .u64 opZero.left.k, .int .u64 opZero.right.c, .int .u64 opZero.right.k, .string opZero.text, .int .i64 opZero.v.kind, .int .i64 opZero.v.n, .float .f64 opZero.v.f, .string opZero.v.s, .string opZero.key, .int .u64 opZero.parent.c, .int .u64 opZero.parent.k, .int .u64 opZero.frm.c, .int .u64 opZero.frm.k, .bool opZero.frmA, .int .u64 opZero.til.c, .int .u64 opZero.til.k, .bool opZero.tilA] 41)) w5.heap.size (mkOp ((j : Int) + 1) (1 + (n : Int) / 64 % 5) p (abcAt ((n / 4 : Nat) : Int)) ⟨2, j, 0, ⟨#[]⟩⟩)) :=
            ⟨_, rfl, (OpBox.new w5 opZero).put _, below_putOp (hb5'.alloc hb5'.size _) hb5'.size _, hb5'.size⟩
          go_wp2_with fail
          refine wpSeqF_nil ?_
          go_wp2_with fail
          go_meet
          exact hfin
        · refine wpSeqF_step rfl ?_; simp only [List.getElem_toArray, List.getElem_cons_succ, List.getElem_cons_zero]
          go_wp2_with fail
          rw [abc_cut (n / 4)]
          have hb4 : Below wr.heap.size wr ((wr.alloc (.cells #[.int .u64 opZero.id.c, .int .u64 opZero.id.k, .int .i64 opZero.kind, .int .u64 opZero.stamp, .int .u64 opZero.left.c, .int .u64 opZero.left.k, .int .u64 opZero.right.c, .int .u64 opZero.right.k, .string opZero.text, .int .i64 opZero.v.kind, .int .i64 opZero.v.n, .float .f64 opZero.v.f, .string opZero.v.s, .string opZero.key, .int .u64 opZero.parent.c, .int .u64 opZero.parent.k, .int .u64 opZero.frm.c, .int .u64 opZero.frm.k, .bool opZero.frmA, .int .u64 opZero.til.c, .int .u64 opZero.til.k, .bool opZero.tilA] 41)).drew) := ((Below.refl _ _).alloc (Nat.le_refl _) _).drew
          have hbz4 : OpBox ((wr.alloc (.cells #[.int .u64 opZero.id.c, .int .u64 opZero.id.k, .int .i64 opZero.kind, .int .u64 opZero.stamp, .int .u64 opZero.left.c, .int .u64 opZero.left.k, .int .u64 opZero.right.c, .int .u64 opZero.right.k, .string opZero.text, .int .i64 opZero.v.kind, .int .i64 opZero.v.n, .float .f64 opZero.v.f, .string opZero.v.s, .string opZero.key, .int .u64 opZero.parent.c, .int .u64 opZero.parent.k, .int .u64 opZero.frm.c, .int .u64 opZero.frm.k, .bool opZero.frmA, .int .u64 opZero.til.c, .int .u64 opZero.til.k, .bool opZero.tilA] 41)).drew) wr.heap.size opZero := OpBox.new wr opZero
          refine ⟨MStep.to (Mods.of_below hb4), ?_⟩
          refine wpSeqF_step rfl ?_; simp only [List.getElem_toArray, List.getElem_cons_succ, List.getElem_cons_zero]
          go_wp2_with fail
          refine (setOp_any _ _ p (abcAt ((n / 4 : Nat) : Int)) ⟨2, j, 0, ⟨#[]⟩⟩ _).mono ?_
          rintro e w5 ⟨rfl, hb5⟩
          have hb5' : Below wr.heap.size wr w5 := hb4.trans (hb5.mono hb4.size)
          have hbz5 : OpBox w5 wr.heap.size opZero := hbz4.below hb5 hbz4.lt
          go_wp2_with fail
          refine ⟨MStep.to (Mods.of_below hb5'), ?_⟩
          refine wpSeqF_step rfl ?_; simp only [List.getElem_toArray, List.getElem_cons_succ, List.getElem_cons_zero]
          refine wpList_store_eq (T := 41) (v := opV (mkOp ((j : Int) + 1) (1 + (n : Int) / 64 % 5) p (abcAt ((n / 4 : Nat) : Int)) ⟨2, j, 0, ⟨#[]⟩⟩)) rfl rfl rfl rfl (OpBox.store hbz5 _) ?_
          go_frame
          have hfin : NewAt (mkOp ((j : Int) + 1) (1 + (n : Int) / 64 % 5) p (abcAt ((n / 4 : Nat) : Int)) ⟨2, j, 0, ⟨#[]⟩⟩) wr (.pointer (some ⟨wr.heap.size, 0, none⟩)) (putOp w5 wr.heap.size (mkOp ((j : Int) + 1) (1 + (n : Int) / 64 % 5) p (abcAt ((n / 4 : Nat) : Int)) ⟨2, j, 0, ⟨#[]⟩⟩)) :=
            ⟨_, rfl, hbz5.put _, below_putOp hb5' (Nat.le_refl _) _, Nat.le_refl _⟩
          go_wp2_with fail
          refine wpSeqF_nil ?_
          go_wp2_with fail
          go_meet
          exact hfin
      case rest =>
        obtain ⟨ob, rfl, hob, hbc, hobl⟩ := hcut
        have o0 : wc.cell? ⟨ob, 0, none⟩ = some (.int .u64 1) := hob.cells 0 _ rfl
        have f0 := hob.f 0
        go_upto_region 9 with fail
        have hob1 := hob.setCl (1 + (n : Int) / 16 % 3)
        have hb3 := below_set (n := 0) hbc hobl (.int .u64 (1 + (n : Int) / 16 % 3))
        generalize wc.setCell ⟨ob, 0, none⟩ (.int .u64 (1 + (n : Int) / 16 % 3)) = wd at hob1 hb3 ⊢
        clear hob hbc o0 f0
        clear wc
        have hbd : Below w.heap.size w wd := hb.trans (hb3.mono hb.size)
        have hout1 : OwnAt w.heap.size 41 22 encOp wd u3 (growS zs j).1 := ownsRow_blk hout fun b e => hb3.block b (World.ownsRow.lt hout b e).2
        have hins1 : OwnAt w.heap.size 34 2 encIdv wd (.slice (some ⟨g, 0, none⟩) L ci) (growS zs j).2 := ownsRow_blk hins fun b e => hb3.block b (World.ownsRow.lt hins b e).2
        have hobw : w.heap.size ≤ ob := Nat.le_trans hlow.size hobl
        clear hb hlow hc0 hc1
        have hz' : (zs.getD j 0).toNat = n := by simp [List.getD, hz]
        have c9 : wd.cell? ⟨ob, 9, none⟩ = some (.int .i64 2) := hob1.cells 9 _ rfl
        have c10 : wd.cell? ⟨ob, 10, none⟩ = some (.int .i64 j) := hob1.cells 10 _ rfl
        have c11 : wd.cell? ⟨ob, 11, none⟩ = some (.float .f64 0) := hob1.cells 11 _ rfl
        have c12 : wd.cell? ⟨ob, 12, none⟩ = some (.string ⟨#[]⟩) := hob1.cells 12 _ rfl
        have hsf := store_float
        have f9 := hob1.f 9
        have f10 := hob1.f 10
        have f11 := hob1.f 11
        have f12 := hob1.f 12
        have hgv : ∀ (v : QVal), growV n j = v → { mkOp ((j : Int) + 1) (1 + (n : Int) / 64 % 5) p (abcAt ((n / 4 : Nat) : Int)) v with id := ⟨1 + (n : Int) / 16 % 3, (j : Int) + 1⟩ } = growOp (growS zs j).2 n j := fun v hv => by
          unfold growOp
          rw [hv, hL, List.getD, hp]
          rfl
        have hS1 : (growS zs (j + 1)).1 = (growS zs j).1 ++ [growOp (growS zs j).2 n j] := by simp only [growS, hz']
        by_cases h0 : n / 1024 % 4 = 0
        · have t0 : (n : Int) / 1024 % 4 = 0 := by omega
          go_upto_region 12 with fail
          have hob2 := hob1.setV kMap
          have hb4 := below_set (n := 12) (below_set (n := 11) (below_set (n := 10) (below_set (n := 9) hbd hobw (.int .i64 5)) hobw (.int .i64 0)) hobw (.float .f64 0)) hobw (.string ⟨#[]⟩)
          have hb5 := below_set (n := 12) (below_set (n := 11) (below_set (n := 10) (below_set (n := 9) hb3 hobl (.int .i64 5)) hobl (.int .i64 0)) hobl (.float .f64 0)) hobl (.string ⟨#[]⟩)
          have hobx : OpBox ((((wd.setCell ⟨ob, 9, none⟩ (.int .i64 5)).setCell ⟨ob, 10, none⟩ (.int .i64 0)).setCell ⟨ob, 11, none⟩ (.float .f64 0)).setCell ⟨ob, 12, none⟩ (.string ⟨#[]⟩)) ob (growOp (growS zs j).2 n j) := by
            rw [← hgv kMap (by unfold growV; rw [if_pos h0])]
            exact hob2
          have hout2 : OwnAt w.heap.size 41 22 encOp ((((wd.setCell ⟨ob, 9, none⟩ (.int .i64 5)).setCell ⟨ob, 10, none⟩ (.int .i64 0)).setCell ⟨ob, 11, none⟩ (.float .f64 0)).setCell ⟨ob, 12, none⟩ (.string ⟨#[]⟩)) u3 (growS zs j).1 := ownsRow_blk hout fun b e => hb5.block b (World.ownsRow.lt hout b e).2
          have hins2 : OwnAt w.heap.size 34 2 encIdv ((((wd.setCell ⟨ob, 9, none⟩ (.int .i64 5)).setCell ⟨ob, 10, none⟩ (.int .i64 0)).setCell ⟨ob, 11, none⟩ (.float .f64 0)).setCell ⟨ob, 12, none⟩ (.string ⟨#[]⟩)) (.slice (some ⟨g, 0, none⟩) L ci) (growS zs j).2 := ownsRow_blk hins fun b e => hb5.block b (World.ownsRow.lt hins b e).2
          have hS2 : (growS zs (j + 1)).2 = (growS zs j).2 ++ [(growOp (growS zs j).2 n j).id] := by simp only [growS, hz', if_pos h0]
          clear hsf c9 c10 c11 c12 f9 f10 f11 f12 hob1 hob2 hout1 hins1 hout hins hgv hb5 hb3 hbd t0 h0
          generalize (((wd.setCell ⟨ob, 9, none⟩ (.int .i64 5)).setCell ⟨ob, 10, none⟩ (.int .i64 0)).setCell ⟨ob, 11, none⟩ (.float .f64 0)).setCell ⟨ob, 12, none⟩ (.string ⟨#[]⟩) = we at hobx hout2 hins2 hb4 ⊢
          clear wd
          generalize growOp (growS zs j).2 n j = O at hobx hS1 hS2
          have o0 : we.cell? ⟨ob, 0, none⟩ = some (.int .u64 O.id.c) := hobx.cells 0 _ rfl
          have o1 : we.cell? ⟨ob, 1, none⟩ = some (.int .u64 O.id.k) := hobx.cells 1 _ rfl
          obtain ⟨i0, hi, hz0, hz1, hz2⟩ := info_parts infoId
          have hlen2 : (growS zs j).2.length ≤ 41 := by omega
          have hlw := hb4.size
          go_upto_region 15 with (at_builtin; refine wpList_append_own_at _ rfl _ _ 64 rfl w.heap.size 34 i0 (.agg #[.int .u64 idZero.c, .int .u64 idZero.k]) 2 16 Try.underlying64 hi hz0 hz1 hz2 rfl (by decide) _ _ _ rfl (hins2.alloc _) ⟨we.heap.size, 0, none⟩ 1 1 (encIdv O.id) rfl rfl ?d1 ?d2 ?d3 ?d4 ?d5 ?_)
          case d1 => intro k u hu; have hk : k < 2 := (List.getElem?_eq_some_iff.1 hu).1; rw [Addr.add_lit, World.cell?, show (⟨we.heap.size, 0 + k, none⟩ : Addr).block = we.heap.size from rfl, heap_alloc_new]; simpa [encIdv] using hu
          case d2 => intro u hu; simp [encIdv] at hu; rcases hu with h | h <;> (subst h; rfl)
          case d3 => unfold maxLen; omega
          case d4 => omega
          case d5 => simp; omega
          intro v' w1 hown' hgrow _ _
          have hgn : ∀ b, b < we.heap.size → b ≠ g → w1.heap[b]? = we.heap[b]? := fun b hb hne => (hgrow.block b (by simp; omega) (fun e => hne (by cases e; rfl))).trans (by rw [alloc_heap_if, if_neg (by omega)])
          have hinsx : OwnAt w.heap.size 34 2 encIdv w1 v' (growS zs (j + 1)).2 := by
            unfold OwnAt
            rw [hS2, List.length_append, List.flatMap_append, hL]
            simpa using hown'
          have hout3 : OwnAt w.heap.size 41 22 encOp w1 u3 (growS zs j).1 := ownsRow_blk hout2 fun b e => hgn b (World.ownsRow.lt hout2 b e).2 (by
            rintro rfl
            have := ownsRow_type hout2 hins2 e rfl
            revert this; decide)
          have hobx2 : OpBox w1 ob O := (hgn ob hobx.lt (by
            rintro rfl
            exact ownsRow_ne hins2 hobx (by decide) rfl)).trans hobx
          have hbz : Below w.heap.size w w1 := (hb4.alloc hlw _).grown hgrow (by simp; omega) (fun b e => (World.ownsRow.lt hins2 b e).1)
          clear hobx hout2 hins2 hb4 o0 o1 hi hz0 hz1 hz2 hown' hgrow hgn hlw hS2
          go_upto_region 15 with fail
          obtain ⟨i0, hi, hz0, hz1, hz2⟩ := info_parts infoOp
          have hlw := hbz.size
          go_wp2_with (first | (refine wpList_load_eq (T := 41) (v := opV O) rfl rfl rfl hobx2.load ?_) | (refine wpList_sliceOp O rfl _ rfl rfl ?_) | (at_builtin; refine wpList_append_own_at _ rfl _ _ 26 rfl w.heap.size 41 i0 (opV opZero) 22 200 Try.underlying26 hi hz0 hz1 hz2 rfl (by decide) _ _ _ rfl (hout3.alloc _) ⟨w1.heap.size, 0, none⟩ 1 1 (encOp O) rfl rfl ?c1 ?c2 ?c3 ?c4 ?c5 ?_))
          case c1 => exact fun k u hu => by rw [Addr.add_lit]; exact (OpBox.new w1 O).cells k u hu
          case c2 => intro u hu; simp [encOp] at hu; rcases hu with h | h | h | h | h | h | h | h | h | h | h | h | h | h | h | h | h | h | h | h | h | h <;> (subst h; rfl)
          case c3 => unfold maxLen; omega
          case c4 => omega
          case c5 => simp; omega
          intro v2 w2 hown2 hgrow2 _ _
          have hgn2 : ∀ b, b < w1.heap.size → u3.ownBlock ≠ some b → w2.heap[b]? = w1.heap[b]? := fun b hb hne => (hgrow2.block b (by simp; omega) (fun e => hne e.symm)).trans (by rw [alloc_heap_if, if_neg (by omega)])
          have houtf : OwnAt w.heap.size 41 22 encOp w2 v2 (growS zs (j + 1)).1 := by
            unfold OwnAt
            rw [hS1, List.length_append, List.flatMap_append, hlen]
            simpa using hown2
          have hinsf : OwnAt w.heap.size 34 2 encIdv w2 v' (growS zs (j + 1)).2 := ownsRow_blk hinsx fun b e => hgn2 b (World.ownsRow.lt hinsx b e).2 (fun e2 => by
            have := ownsRow_type hout3 hinsx e2 e
            revert this; decide)
          have hbf : Below w.heap.size w w2 := (hbz.alloc hlw _).grown hgrow2 (by simp; omega) (fun b e => (World.ownsRow.lt hout3 b e).1)
          clear hown2 hgrow2 hgn2 hS1 hi hz0 hz1 hz2 hlw hobx2 hout3 hinsx hbz
          go_wp2_with fail
          go_roundw
          case rel => exact ⟨j + 1, by omega, by go_num, hbf, houtf, hinsf⟩
          case measure => simp [intOf]; omega
        · have hbd2 := hbd
          by_cases h1 : n / 1024 % 4 = 1
          · have t0 : (n : Int) / 1024 % 4 = 1 := by omega
            go_upto_region 15 with fail
            have hob2 := hob1.setV ⟨0, 0, 0, ⟨#[]⟩⟩
            have hb4 := below_set (n := 12) (below_set (n := 11) (below_set (n := 10) (below_set (n := 9) hbd hobw (.int .i64 0)) hobw (.int .i64 0)) hobw (.float .f64 0)) hobw (.string ⟨#[]⟩)
            have hb5 := below_set (n := 12) (below_set (n := 11) (below_set (n := 10) (below_set (n := 9) hb3 hobl (.int .i64 0)) hobl (.int .i64 0)) hobl (.float .f64 0)) hobl (.string ⟨#[]⟩)
            have hobx : OpBox ((((wd.setCell ⟨ob, 9, none⟩ (.int .i64 0)).setCell ⟨ob, 10, none⟩ (.int .i64 0)).setCell ⟨ob, 11, none⟩ (.float .f64 0)).setCell ⟨ob, 12, none⟩ (.string ⟨#[]⟩)) ob (growOp (growS zs j).2 n j) := by
              rw [← hgv ⟨0, 0, 0, ⟨#[]⟩⟩ (by unfold growV; rw [if_neg h0, if_pos h1])]
              exact hob2
            have hout2 : OwnAt w.heap.size 41 22 encOp ((((wd.setCell ⟨ob, 9, none⟩ (.int .i64 0)).setCell ⟨ob, 10, none⟩ (.int .i64 0)).setCell ⟨ob, 11, none⟩ (.float .f64 0)).setCell ⟨ob, 12, none⟩ (.string ⟨#[]⟩)) u3 (growS zs j).1 := ownsRow_blk hout fun b e => hb5.block b (World.ownsRow.lt hout b e).2
            have hinsx : OwnAt w.heap.size 34 2 encIdv ((((wd.setCell ⟨ob, 9, none⟩ (.int .i64 0)).setCell ⟨ob, 10, none⟩ (.int .i64 0)).setCell ⟨ob, 11, none⟩ (.float .f64 0)).setCell ⟨ob, 12, none⟩ (.string ⟨#[]⟩)) (.slice (some ⟨g, 0, none⟩) L ci) (growS zs (j + 1)).2 := by
              simp only [growS, hz', if_neg h0]
              exact ownsRow_blk hins fun b e => hb5.block b (World.ownsRow.lt hins b e).2
            clear hsf c9 c10 c11 c12 f9 f10 f11 f12 hob1 hob2 hout1 hins1 hout hins hgv hb5 hb3 hbd hbd2 t0 h0 h1
            generalize (((wd.setCell ⟨ob, 9, none⟩ (.int .i64 0)).setCell ⟨ob, 10, none⟩ (.int .i64 0)).setCell ⟨ob, 11, none⟩ (.float .f64 0)).setCell ⟨ob, 12, none⟩ (.string ⟨#[]⟩) = we at hobx hout2 hinsx hb4 ⊢
            clear wd
            generalize growOp (growS zs j).2 n j = O at hobx hS1
            obtain ⟨i0, hi, hz0, hz1, hz2⟩ := info_parts infoOp
            have hlw := hb4.size
            go_wp2_with (first | (refine wpList_load_eq (T := 41) (v := opV O) rfl rfl rfl hobx.load ?_) | (refine wpList_sliceOp O rfl _ rfl rfl ?_) | (at_builtin; refine wpList_append_own_at _ rfl _ _ 26 rfl w.heap.size 41 i0 (opV opZero) 22 200 Try.underlying26 hi hz0 hz1 hz2 rfl (by decide) _ _ _ rfl (hout2.alloc _) ⟨we.heap.size, 0, none⟩ 1 1 (encOp O) rfl rfl ?d1 ?d2 ?d3 ?d4 ?d5 ?_))
            case d1 => exact fun k u hu => by rw [Addr.add_lit]; exact (OpBox.new we O).cells k u hu
            case d2 => intro u hu; simp [encOp] at hu; rcases hu with h | h | h | h | h | h | h | h | h | h | h | h | h | h | h | h | h | h | h | h | h | h <;> (subst h; rfl)
            case d3 => unfold maxLen; omega
            case d4 => omega
            case d5 => simp; omega
            intro v2 w2 hown2 hgrow2 _ _
            have hgn2 : ∀ b, b < we.heap.size → u3.ownBlock ≠ some b → w2.heap[b]? = we.heap[b]? := fun b hb hne => (hgrow2.block b (by simp; omega) (fun e => hne e.symm)).trans (by rw [alloc_heap_if, if_neg (by omega)])
            have houtf : OwnAt w.heap.size 41 22 encOp w2 v2 (growS zs (j + 1)).1 := by
              unfold OwnAt
              rw [hS1, List.length_append, List.flatMap_append, hlen]
              simpa using hown2
            have hinsf : OwnAt w.heap.size 34 2 encIdv w2 (.slice (some ⟨g, 0, none⟩) L ci) (growS zs (j + 1)).2 := ownsRow_blk hinsx fun b e => hgn2 b (World.ownsRow.lt hinsx b e).2 (fun e2 => by
              have := ownsRow_type hout2 hinsx e2 e
              revert this; decide)
            have hbf : Below w.heap.size w w2 := (hb4.alloc hlw _).grown hgrow2 (by simp; omega) (fun b e => (World.ownsRow.lt hout2 b e).1)
            clear hown2 hgrow2 hgn2 hS1 hi hz0 hz1 hz2 hlw hobx hout2 hinsx hb4
            go_wp2_with fail
            go_roundw
            case rel => exact ⟨j + 1, by omega, by go_num, hbf, houtf, hinsf⟩
            case measure => simp [intOf]; omega
          · have t0 : ((n : Int) / 1024 % 4 == 0) = false := by simp; omega
            have t1 : ((n : Int) / 1024 % 4 == 1) = false := by simp; omega
            clear hsf hout hins hb3
            go_upto_region 15 with fail
            have hobx : OpBox wd ob (growOp (growS zs j).2 n j) := by
              rw [← hgv ⟨2, j, 0, ⟨#[]⟩⟩ (by unfold growV; rw [if_neg h0, if_neg h1])]
              exact hob1
            have hinsx : OwnAt w.heap.size 34 2 encIdv wd (.slice (some ⟨g, 0, none⟩) L ci) (growS zs (j + 1)).2 := by
              simp only [growS, hz', if_neg h0]
              exact hins1
            clear c9 c10 c11 c12 f9 f10 f11 f12 hob1 t0 t1 h0 h1 hgv
            generalize growOp (growS zs j).2 n j = O at hobx hS1
            obtain ⟨i0, hi, hz0, hz1, hz2⟩ := info_parts infoOp
            have hlw := hbd.size
            go_wp2_with (first | (refine wpList_load_eq (T := 41) (v := opV O) rfl rfl rfl hobx.load ?_) | (refine wpList_sliceOp O rfl _ rfl rfl ?_) | (at_builtin; refine wpList_append_own_at _ rfl _ _ 26 rfl w.heap.size 41 i0 (opV opZero) 22 200 Try.underlying26 hi hz0 hz1 hz2 rfl (by decide) _ _ _ rfl (hout1.alloc _) ⟨wd.heap.size, 0, none⟩ 1 1 (encOp O) rfl rfl ?b1 ?b2 ?b3 ?b4 ?b5 ?_))
            case b1 => exact fun k u hu => by rw [Addr.add_lit]; exact (OpBox.new wd O).cells k u hu
            case b2 => intro u hu; simp [encOp] at hu; rcases hu with h | h | h | h | h | h | h | h | h | h | h | h | h | h | h | h | h | h | h | h | h | h <;> (subst h; rfl)
            case b3 => unfold maxLen; omega
            case b4 => omega
            case b5 => simp; omega
            intro v2 w2 hown2 hgrow2 _ _
            have hgn2 : ∀ b, b < wd.heap.size → u3.ownBlock ≠ some b → w2.heap[b]? = wd.heap[b]? := fun b hb hne => (hgrow2.block b (by simp; omega) (fun e => hne e.symm)).trans (by rw [alloc_heap_if, if_neg (by omega)])
            have houtf : OwnAt w.heap.size 41 22 encOp w2 v2 (growS zs (j + 1)).1 := by
              unfold OwnAt
              rw [hS1, List.length_append, List.flatMap_append, hlen]
              simpa using hown2
            have hinsf : OwnAt w.heap.size 34 2 encIdv w2 (.slice (some ⟨g, 0, none⟩) L ci) (growS zs (j + 1)).2 := ownsRow_blk hinsx fun b e => hgn2 b (World.ownsRow.lt hinsx b e).2 (fun e2 => by
              have := ownsRow_type hout1 hinsx e2 e
              revert this; decide)
            have hbf : Below w.heap.size w w2 := (hbd.alloc hlw _).grown hgrow2 (by simp; omega) (fun b e => (World.ownsRow.lt hout1 b e).1)
            clear hown2 hgrow2 hgn2 hS1 hi hz0 hz1 hz2 hlw hobx hout1 hinsx hbd
            go_wp2_with fail
            go_roundw
            case rel => exact ⟨j + 1, by omega, by go_num, hbf, houtf, hinsf⟩
            case measure => simp [intOf]; omega
    · obtain rfl : j = zs.length := by omega
      clear hzc hzr
      go_wp2_with fail
      go_ret
      exact ⟨_, rfl, hout, hb⟩
end Go.Proofs.Yteadongdlacgmaa
