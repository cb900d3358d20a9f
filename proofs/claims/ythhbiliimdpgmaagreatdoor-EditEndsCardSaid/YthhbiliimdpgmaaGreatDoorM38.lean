/- Walk: ready's closure where one operation waits and is ready: it is told once; behind it nothing waits. -/
import Derived.Test.YthhbiliimdpgmaaGreatDoorM22
import Derived.Test.YthhbiliimdpgmaaGreatDoorM35
import Derived.Test.YthhbiliimdpgmaaGreatDoorM24
namespace Go.Proofs.YthhbiliimdpgmaaGreatDoor
open Go.RowKit Go.Shelf Go.Lib

theorem cloneRng_any (sv : Value) (l : List QRng) (w : World) (hl : SliceAt 3 encRng w sv l) (hn : l.length ≤ 100000) :
    Calls Tryz.prog 67 #[sv] w (RetW fun v w' => OwnAt w.heap.size 95 3 encRng w' v l ∧ Below w.heap.size w w') := by
  obtain ⟨i0, hi, hz0, hz1, hz2⟩ := info_parts infoRng
  rcases hl with ⟨rfl, rfl⟩ | ⟨b, off, cap, rfl, hln, hb, hc⟩
  · refine (AnyE.slices_Clone_nil Tryz.cloneRng 0 0 w).mono ?_
    rintro e w' ⟨rfl, rfl⟩
    exact ⟨_, rfl, OwnAt.nil, Below.refl _ _⟩
  · refine (AnyE.slices_Clone Tryz.cloneRng i0 (.agg #[.int .u64 0, .int .u64 0, .int .u64 0]) 3 24 hi hz0 hz1 hz2 rfl (by decide) (fun w => by kernel_rfl) b off l.length cap (l.flatMap encRng) w (flat_length (enc := encRng) (k := 3) (fun _ => rfl) l) (by unfold maxLen; omega) (by omega) ?_ ?_).mono ?_
    · intro t u ht
      have htl : t < l.length * 3 := by
        have := (List.getElem?_eq_some_iff.1 ht).1
        rwa [flat_length (enc := encRng) (k := 3) (fun _ => rfl)] at this
      have h1 := flat_get (enc := encRng) (k := 3) (fun _ => rfl) l (t / 3) (t % 3) l[t / 3] (by simp [show t / 3 < l.length by omega]) (Nat.mod_lt _ (by omega))
      rw [show t / 3 * 3 + t % 3 = t by omega, ht] at h1
      have h2 := hc (t / 3) l[t / 3] (by simp [show t / 3 < l.length by omega]) (t % 3) u h1.symm
      rwa [show off + t / 3 * 3 + t % 3 = off + t by omega] at h2
    · intro u hu
      obtain ⟨x, _, hx⟩ := List.mem_flatMap.1 hu
      exact encRng_one x u hx
    · rintro e w' ⟨v, rfl, ho, _, hb⟩
      exact ⟨v, rfl, ho, hb⟩
theorem wpListIn_load_g {n : Nat} {P : Program} {ops : Array Oper} {rest : List Oper} {o : Oper} {a : Act} {w : World} {Q : Exit → Act → World → Prop} (T : TypeId) {x : Operand} (ad : Addr) {v : Value} (ho : o.op = .load T x) (hx : a.eval x = .pointer (some ad))
    (hr : (loadVar T ad).run P w = .ok v w) (hw : Region.wanted o (yielded ops a.tmps) = true) (h : wpListIn Fence.wide n P ops Q rest (a.put o.dst v) w) : wpListIn Fence.wide n P ops Q (o :: rest) a w :=
  wpListIn_step fun K hK => by
    rw [if_pos hw]
    refine ⟨fun _ _ => trivial, ?_⟩
    rw [show Fence.wide.round = none from rfl, Oper.semAt_none]
    unfold execOp
    simp only [ho, hx, Instr.loadAt, Instr.sureAddr, Sem.run_bind, Sem.run_pure, Result.andThen_ok, hr]
    exact hK _ _ h
/-- one operation waits. -/
structure RdA (n N : Nat) (o : QOp) (Bp base : Nat) (hv : Value) (W : World) : Prop where
  d : DocC n W [] [(o.id, opV o)] hv noS 0
  h : OwnAt base 95 3 encRng W hv [⟨o.id.c, 1, 1 + N⟩]
  p : W.cell? ⟨Bp, 0, none⟩ = some (.pointer (some ⟨n + 11, 0, none⟩))
  lt : Bp < W.heap.size
/-- it is known, and nothing waits. -/
structure RdB (n N : Nat) (o : QOp) (Bp : Nat) (W : World) : Prop where
  d : ∃ hv st, DocC n W [(o.id.c, .int .u64 N)] [] hv noS st
  p : W.cell? ⟨Bp, 0, none⟩ = some (.pointer (some ⟨n + 11, 0, none⟩))
  lt : Bp < W.heap.size
set_option maxRecDepth 100000 in
set_option maxHeartbeats 4000000 in
theorem ready1_one (n N : Nat) (o : QOp) (Bp base : Nat) (hv : Value) (m : Nat) (hm : 3 ≤ m) (L : Nat) (G : Nat → Prop) (Bk : World → Prop) (I : List QOp → World → Prop) (hf : o.free) (ho : HoldO o N)
    (hA : ∀ W, I [] W → RdA n N o Bp base hv W) (hB : ∀ W, I [o] W → RdB n N o Bp W)
    (hIb : ∀ pre W W', I pre W → Below W.heap.size W W' → I pre W') (hBb : ∀ W W', Bk W → Below W.heap.size W W' → Bk W') (W : World) (hG : ∀ k, G k → k < W.heap.size)
    (hY : ∀ pre W, I pre W → Bk W → pre.length < 1 → YieldAt Fence.wide (m - 1) Tryz.prog L #[opV o] W fun e W' => e = .returned (.bool true) ∧ I (pre ++ [o]) W' ∧ Bk W' ∧ Mods G W W')
    (h0 : I [] W) (hb0 : Bk W) :
    CallsIn Fence.wide m Tryz.prog 66 #[.func (.yield L) #[] #[], .pointer (some ⟨Bp, 0, none⟩)] W fun e W' => (∃ v, e = .returned v) ∧ ∃ xs, xs = [o] ∧ I xs W' ∧ Bk W' := by
  obtain ⟨hd, hh, hp, hl⟩ := hA W h0
  obtain ⟨p7, c7, rfl⟩ : ∃ p c, hv = .slice p 1 c := ownsRow_len hh
  have hcl := (callsIn_wide (n := m - 1)).2 (cloneRng_any _ _ W (OwnAt.slice (k := 3) (enc := encRng) (fun _ => rfl) hh) (by simp))
  have d5 : W.cell? ⟨n + 11, 5, none⟩ = some (.slice p7 1 c7) := hd.cell 5 _ rfl
  have hfn : Fence.wide.fn 67 := trivial
  have hm1 : 1 ≤ m := by omega
  refine callsIn_of_wp Tryz.func66 rfl trivial ?_ rfl
  simp only [Tryz.ntmps66, List.size_toArray, List.length_cons, List.length_nil, Nat.reduceAdd, Nat.reduceSub, Array.replicate_succ, Array.replicate_zero, List.push_toArray, List.append_toArray, List.nil_append, List.cons_append]
  gi_wp2_with (gi_at_call 67; refine hcl.mono ?_; rintro e w1 ⟨cv, rfl, hco, hb1⟩; obtain ⟨pc, cc, rfl⟩ : ∃ p c, cv = .slice p 1 c := ownsRow_len hco)
  have hx1 := OwnAt.slice (k := 3) (enc := encRng) (fun _ => rfl) hco
  obtain ⟨g7, rfl⟩ : ∃ b, pc = some ⟨b, 0, none⟩ := by
    rcases hco.2 with ⟨e, _⟩ | ⟨g, cap, cur, e, _⟩
    · cases e
    · cases e; exact ⟨_, rfl⟩
  have hI1 := hIb _ _ _ h0 hb1
  have hK1 := hBb _ _ hb0 hb1
  have hWs := hb1.size
  clear hcl d5 hd hh hp hco h0 hb0 hl
  gi_loopw [13] (fun z wx => (z = .int .i64 0 ∧ wx = w1) ∨ (z = .int .i64 1 ∧ I [o] wx ∧ Bk wx)) (fun z _ => 1 - (intOf z).toNat)
  case atStart => exact .inl ⟨rfl, rfl⟩
  case round =>
    rcases hrel with ⟨rfl, rfl⟩ | ⟨rfl, hIr, hKr⟩
    · obtain ⟨hcc, hgl, t0, t1, t2⟩ := SliceAt.cells3 hx1 (k := 0) (x := ⟨o.id.c, 1, 1 + N⟩) rfl
      have c0 : wr.cell? ⟨g7, 0, none⟩ = some (.int .u64 o.id.c) := by simpa using t0
      have c1 : wr.cell? ⟨g7, 1, none⟩ = some (.int .u64 1) := by simpa using t1
      have c2 : wr.cell? ⟨g7, 2, none⟩ = some (.int .u64 (1 + N)) := by simpa using t2
      clear hcc t0 t1 t2
      gi_wp2
      have hr2 : RngBox (wr.alloc (.cells #[.int .u64 o.id.c, .int .u64 1, .int .u64 (1 + N)] 95)) wr.heap.size ⟨o.id.c, 1, 1 + N⟩ := RngBox.new wr ⟨o.id.c, 1, 1 + N⟩
      have hB2 : Below wr.heap.size wr (wr.alloc (.cells #[.int .u64 o.id.c, .int .u64 1, .int .u64 (1 + N)] 95)) := (Below.refl _ _).alloc (Nat.le_refl _) _
      have hI2 := hIb _ _ _ hI1 hB2
      have hK2 := hBb _ _ hK1 hB2
      have hY2 : ¬ G wr.heap.size := fun h => by have := hG _ h; omega
      have hW2 : W.heap.size ≤ (wr.alloc (.cells #[.int .u64 o.id.c, .int .u64 1, .int .u64 (1 + N)] 95)).heap.size := Nat.le_trans hWs hB2.size
      generalize wr.heap.size = Y at hr2 hY2 ⊢
      generalize wr.alloc (.cells #[.int .u64 o.id.c, .int .u64 1, .int .u64 (1 + N)] 95) = W2 at hr2 hI2 hK2 hW2 ⊢
      clear c0 c1 c2 hgl hI1 hK1 hB2 hb1 hx1 hWs
      gi_loopw [] (fun wx => wx = W2 ∨ (I [o] wx ∧ Bk wx ∧ RngBox wx Y ⟨o.id.c, 1, 1 + N⟩ ∧ W2.heap.size < wx.heap.size)) (fun wx => if wx.heap.size ≤ W2.heap.size then 1 else 0)
      case atStart => exact .inl rfl
      case round =>
        rcases hrel with rfl | ⟨hIr, hKr, hrr, hsz⟩
        · obtain ⟨hd, hh, hp, hl⟩ := hA _ hI2
          obtain ⟨r0, r1, r2⟩ := hr2.cells
          have hyl := hr2.lt
          have hdl := hd.lt
          have dm1 : wr.cell? ⟨n + 11, 1, none⟩ = some (.map (some (n + 2))) := hd.cell 1 _ rfl
          have dm4 : wr.cell? ⟨n + 11, 4, none⟩ = some (.map (some (n + 3))) := hd.cell 4 _ rfl
          have x0 : ∀ s : MStep (fun _ => False) wr, s.val.cell? ⟨Bp, 0, none⟩ = some (.pointer (some ⟨n + 11, 0, none⟩)) := MStep.cell hl id hp
          have x1 : ∀ s : MStep (fun _ => False) wr, s.val.cell? ⟨n + 11, 1, none⟩ = some (.map (some (n + 2))) := MStep.cell hdl id dm1
          have x4 : ∀ s : MStep (fun _ => False) wr, s.val.cell? ⟨n + 11, 4, none⟩ = some (.map (some (n + 3))) := MStep.cell hdl id dm4
          have y0 : ∀ s : MStep (fun _ => False) wr, s.val.cell? ⟨Y, 0, none⟩ = some (.int .u64 o.id.c) := MStep.cell hyl id r0
          have k1 : ∀ s : MStep (fun _ => False) wr, (Instr.lookup 58 (.map (some (n + 2))) (.int .u64 o.id.c) false).run Tryz.prog s.val = .ok (.int .u64 0) s.val := fun s => by
            have := run_look u64Key (T := 58) (E := 26) (by kernel_rfl) zeroU (hd.kn.blk (s.h.block _ (by omega) id)) o.id.c false
            exact this
          have hoid : (⟨o.id.c, 1⟩ : QId) = o.id := by cases hi : o.id with | mk c k => have := ho.k; rw [hi] at this; dsimp only at this; rw [this]
          have k2 : ∀ s : MStep (fun _ => False) wr, (Instr.lookup 59 (.map (some (n + 3))) (.agg #[.int .u64 o.id.c, .int .u64 1]) true).run Tryz.prog s.val = .ok (.tuple #[opV o, .bool true]) s.val := fun s => by
            have := run_look idKey (T := 59) (E := 35) (by kernel_rfl) (z := opV opZero) (fun w => by kernel_rfl) (hd.wt.blk (s.h.block _ (by omega) id)) ⟨o.id.c, 1⟩ true
            rw [hoid] at this
            simp [look, idV] at this
            rw [ho.k] at this
            exact this
          clear hoid dm1 dm4 r0 r1 r2
          gi_wp2
          refine wpIn_wide.2 ?_
          refine wp_region_flow3 21 [0, 1, 2, 3, 4, 5, 6, 7, 8, 9, 10, 11, 12, 13, 14, 15, 16, 17, 18] [19, 20, 21] (fun w' => ∃ s : MStep (fun _ => False) wr, w' = s.val) (by kernel_rfl) (by kernel_rfl) (fun _ _ d _ _ h => by cases d <;> exact h) (MStep.to (Mods.refl _ _).drew) ?_
          simp only [List.map_cons, List.map_nil, List.getElem?_cons_succ, List.getElem?_cons_zero, Option.getD_some]
          repeat (first | go_big_quiet_skip | (go_big_quiet_want; first | (fail; go_frame; go_big_quiet_on) | (go_big_quiet_op; go_big_quiet_on)))
          refine wpQuiet_nil ?_
          refine wpSeqF_step rfl ?_; simp only [List.getElem_toArray, List.getElem_cons_succ, List.getElem_cons_zero]
          go_wp2
          have hm3 : Mods (fun _ => False) wr (wr.alloc (.cells (encOp opZero).toArray 35)).drew := ((Mods.refl _ wr).alloc _).drew
          have hb3 : Below wr.heap.size wr (wr.alloc (.cells (encOp opZero).toArray 35)).drew := ((Below.refl _ wr).alloc (Nat.le_refl _) _).drew
          have hbz : OpBox (wr.alloc (.cells (encOp opZero).toArray 35)).drew wr.heap.size opZero := OpBox.drew (OpBox.new wr opZero)
          refine ⟨MStep.to hm3, ?_⟩
          change wpSeqF _ _ _ _ _ _ _ (wr.alloc (.cells (encOp opZero).toArray 35)).drew
          obtain ⟨W3, hW3⟩ : ∃ W3, (wr.alloc (.cells (encOp opZero).toArray 35)).drew = W3 := ⟨_, rfl⟩
          rw [hW3] at hm3 hb3 hbz ⊢
          clear hW3
          refine wpSeqF_step rfl ?_; simp only [List.getElem_toArray, List.getElem_cons_succ, List.getElem_cons_zero]
          go_wp2_with (refine wpList_store_eq (T := 35) (v := opV o) rfl rfl rfl rfl (OpBox.store hbz o) ?_)
          have hb4 : Below wr.heap.size wr (putOp W3 wr.heap.size o) := below_putOp hb3 (Nat.le_refl _) o
          have hbx : OpBox (putOp W3 wr.heap.size o) wr.heap.size o := hbz.put o
          refine ⟨MStep.to (Mods.of_below hb4), ?_⟩
          refine wpSeqF_step rfl ?_; simp only [List.getElem_toArray, List.getElem_cons_succ, List.getElem_cons_zero]
          go_wp2
          refine wpSeqF_nil ?_
          have hI4 := hIb _ _ _ hI2 hb4
          have hK4 := hBb _ _ hK2 hb4
          have hr4 := hr2.below hb4 hyl
          have hsz4 : wr.heap.size < (putOp W3 wr.heap.size o).heap.size := hbx.lt
          have hGX : ¬ G wr.heap.size := fun h => by have := hG _ h; omega
          clear x0 x1 x4 y0 k1 k2 hm3 hb3 hbz hb4 hd hh hp hl hyl hdl hI2 hK2
          generalize putOp W3 wr.heap.size o = W4 at hI4 hK4 hr4 hbx hsz4 ⊢
          unfold Exit.then
          dsimp only
          gi_step
          gi_step
          gi_step
          have hmf : ∀ (fn : Fn) (first cap : Array Value) (w : World), (Instr.makeFunc fn first cap).run Tryz.prog w = .ok (.func fn first cap) w := fun _ _ _ _ => rfl
          refine wpIn_wide.2 ?_
          go_wp2_with (first | (refine wpList_load_g 35 ⟨wr.heap.size, 0, none⟩ rfl rfl hbx.load (by rfl) ?_) | (go_at_call 68; refine (needs_free o hf _).mono ?_; rintro e w5 ⟨nb, rfl, hb5⟩) | (go_at_call 61; refine (containsNo _ nb w5 _ _ rfl).mono ?_; rintro e w6 ⟨rfl, rfl⟩))
          have hI5 := hIb _ _ _ hI4 hb5
          have hK5 := hBb _ _ hK4 hb5
          have hr5 := hr4.below hb5 hr4.lt
          have hbx5 := hbx.below hb5 hbx.lt
          have hsz5 := hb5.size
          clear hI4 hK4 hr4 hbx hb5 hmf
          gi_wp2_with (first | (refine wpListIn_load_g 35 ⟨wr.heap.size, 0, none⟩ rfl rfl hbx5.load (by rfl) ?_) | (obtain ⟨fn, tmps, assign, body, hy, hR⟩ := hY _ w5 hI5 hK5 (Nat.zero_lt_one); clear hY))
          have hr6 := hr5
          clear hr5
          refine hR.mono ?_
          rintro e W6 ⟨rfl, hI6, hK6, hm6⟩
          have hs6 := hm6.size
          have hrr6 : RngBox W6 Y ⟨o.id.c, 1, 1 + N⟩ := (hm6.block Y (RngBox.lt hr6) hY2).trans hr6
          clear hR hm6 hI5 hK5 hbx5 hr6 hy hr2
          gi_wp2
          go_roundw
          case rel => exact .inr ⟨hI6, hK6, hrr6, by omega⟩
          case measure => rw [if_neg (by omega), if_pos (Nat.le_refl _)]; omega
        · obtain ⟨⟨hv2, st2, hd⟩, hp, hl⟩ := hB _ hIr
          have hwp : IntKind.u64.wrap ((N : Int) + 1) = N + 1 := by have := ho.n2; simp [IntKind.wrap, IntKind.bits, IntKind.signed]; omega
          obtain ⟨r0, r1, r2⟩ := hrr.cells
          have hyl := hrr.lt
          have hdl := hd.lt
          have dm1 : wr.cell? ⟨n + 11, 1, none⟩ = some (.map (some (n + 2))) := hd.cell 1 _ rfl
          have dm4 : wr.cell? ⟨n + 11, 4, none⟩ = some (.map (some (n + 3))) := hd.cell 4 _ rfl
          have x0 : ∀ s : MStep (fun _ => False) wr, s.val.cell? ⟨Bp, 0, none⟩ = some (.pointer (some ⟨n + 11, 0, none⟩)) := MStep.cell hl id hp
          have x1 : ∀ s : MStep (fun _ => False) wr, s.val.cell? ⟨n + 11, 1, none⟩ = some (.map (some (n + 2))) := MStep.cell hdl id dm1
          have x4 : ∀ s : MStep (fun _ => False) wr, s.val.cell? ⟨n + 11, 4, none⟩ = some (.map (some (n + 3))) := MStep.cell hdl id dm4
          have y0 : ∀ s : MStep (fun _ => False) wr, s.val.cell? ⟨Y, 0, none⟩ = some (.int .u64 o.id.c) := MStep.cell hyl id r0
          have k1 : ∀ s : MStep (fun _ => False) wr, (Instr.lookup 58 (.map (some (n + 2))) (.int .u64 o.id.c) false).run Tryz.prog s.val = .ok (.int .u64 N) s.val := fun s => by
            have := run_look u64Key (T := 58) (E := 26) (by kernel_rfl) zeroU (hd.kn.blk (s.h.block _ (by omega) id)) o.id.c false
            simp [look] at this
            exact this
          have k2 : ∀ s : MStep (fun _ => False) wr, (Instr.lookup 59 (.map (some (n + 3))) (.agg #[.int .u64 o.id.c, .int .u64 (N + 1)]) true).run Tryz.prog s.val = .ok (.tuple #[opV opZero, .bool false]) s.val := fun s => by
            have := run_look idKey (T := 59) (E := 35) (by kernel_rfl) (z := opV opZero) (fun w => by kernel_rfl) (hd.wt.blk (s.h.block _ (by omega) id)) ⟨o.id.c, N + 1⟩ true
            simp [look, idV] at this
            exact this
          clear dm1 dm4 r0 r1 r2
          gi_wp2
          refine wpIn_wide.2 ?_
          refine wp_region_flow3 21 [0, 1, 2, 3, 4, 5, 6, 7, 8, 9, 10, 11, 12, 13, 14, 15, 16, 17, 18] [19, 20, 21] (fun w' => ∃ s : MStep (fun _ => False) wr, w' = s.val) (by kernel_rfl) (by kernel_rfl) (fun _ _ d _ _ h => by cases d <;> exact h) (MStep.to (Mods.refl _ _).drew) ?_
          simp only [List.map_cons, List.map_nil, List.getElem?_cons_succ, List.getElem?_cons_zero, Option.getD_some]
          repeat (first | go_big_quiet_skip | (go_big_quiet_want; first | (fail; go_frame; go_big_quiet_on) | (go_big_quiet_op; go_big_quiet_on)))
          refine wpQuiet_nil ?_
          refine wpSeqF_step rfl ?_; simp only [List.getElem_toArray, List.getElem_cons_succ, List.getElem_cons_zero]
          go_wp2
          have hm3 : Mods (fun _ => False) wr (wr.alloc (.cells (encOp opZero).toArray 35)).drew := ((Mods.refl _ wr).alloc _).drew
          have hb3 : Below wr.heap.size wr (wr.alloc (.cells (encOp opZero).toArray 35)).drew := ((Below.refl _ wr).alloc (Nat.le_refl _) _).drew
          have hbz : OpBox (wr.alloc (.cells (encOp opZero).toArray 35)).drew wr.heap.size opZero := OpBox.drew (OpBox.new wr opZero)
          refine ⟨MStep.to hm3, ?_⟩
          change wpSeqF _ _ _ _ _ _ _ (wr.alloc (.cells (encOp opZero).toArray 35)).drew
          obtain ⟨W3, hW3⟩ : ∃ W3, (wr.alloc (.cells (encOp opZero).toArray 35)).drew = W3 := ⟨_, rfl⟩
          rw [hW3] at hm3 hb3 hbz ⊢
          clear hW3
          refine wpSeqF_step rfl ?_; simp only [List.getElem_toArray, List.getElem_cons_succ, List.getElem_cons_zero]
          go_wp2_with (refine wpList_store_eq (T := 35) (v := opV opZero) rfl rfl rfl rfl (OpBox.store hbz opZero) ?_)
          have hb4 : Below wr.heap.size wr (putOp W3 wr.heap.size opZero) := below_putOp hb3 (Nat.le_refl _) opZero
          refine ⟨MStep.to (Mods.of_below hb4), ?_⟩
          refine wpSeqF_step rfl ?_; simp only [List.getElem_toArray, List.getElem_cons_succ, List.getElem_cons_zero]
          go_wp2
          refine wpSeqF_nil ?_
          have hI4 := hIb _ _ _ hIr hb4
          have hK4 := hBb _ _ hKr hb4
          clear x0 x1 x4 y0 k1 k2 hm3 hb3 hbz hb4 hd hp hl hyl hdl hIr hKr
          generalize putOp W3 wr.heap.size opZero = W4 at hI4 hK4 ⊢
          unfold Exit.then
          dsimp only
          gi_step
          gi_step
          gi_step
          refine wpIn_wide.2 ?_
          go_wp2
          gi_wp2
          go_roundw
          case rel => exact .inr ⟨rfl, hI4, hK4⟩
          case measure => simp [intOf]
    · gi_wp2
      go_end0
      exact ⟨⟨_, rfl⟩, _, rfl, hIr, hKr⟩
end Go.Proofs.YthhbiliimdpgmaaGreatDoor
/- Walk: ready, and its closure where nothing is held; delete from a map of one entry. -/
namespace Go.Proofs.YthhbiliimdpgmaaGreatDoor
open Go.RowKit Go.Shelf Go.Lib

section
variable {P : Program} {K T E : TypeId} {κ : Type} [DecidableEq κ] {enc : κ → Value}
theorem run_del1 (Q : KeyQ P K enc) (ht : P.underlying T = some (.map K E)) {w : World} {r : Nat} {x : κ} {v : Value} (h : MapK enc w r [(x, v)]) :
    ∃ o, (∀ ty, (Builtin.delete_ #[T, K] ty #[.map (some r), enc x]).run P w = .ok (.tuple #[]) (putMap w r o)) ∧ MapK enc (putMap w r o) r [] := by
  obtain ⟨es, clock, hb, hl, hs⟩ := h
  have hr : r < w.heap.size := (Array.getElem?_eq_some_iff.1 hb).1
  have hf := Q.find w x es.toList [(x, v)] hl
  have hz : es.size = 1 := by have := congrArg List.length hl; simpa using this
  simp only [findIx, if_true] at hf
  refine ⟨.map (es.eraseIdxIfInBounds 0) clock, fun ty => ?_, ⟨_, _, putMap_same hr, ?_, MapKept.stamped_erase hs 0⟩⟩
  · simp [Builtin.delete_, run_underlying ht, MapKept.run_getObj_map hb, Q.check, hf, MapKept.run_setObj_map _ hb, Result.andThen, putMap]
  · have : (es.eraseIdxIfInBounds 0).toList = [] := by
      unfold Array.eraseIdxIfInBounds
      rw [dif_pos (by omega)]
      apply List.eq_nil_of_length_eq_zero
      simp [hz]
    rw [this]
    rfl
theorem wpList_delB {w : World} {ops : Array Oper} {rest : List Oper} {o : Oper} {a : Act} {Q : Exit → Act → World → Prop} (hgd : o.guard = none) (x y : Operand) (t k : TypeId)
    (ho : o.op = .call { callee := .builtin .delete, args := #[x, y], argTypes := #[t, k] }) (v u : Value) (hx : a.eval x = v) (hy : a.eval y = u) {z : Value} {w' : World} (hr : ∀ ty, (Builtin.delete_ #[t, k] ty #[v, u]).run P w = .ok z w') (h : wpList P ops Q rest (a.put o.dst z) w') : wpList P ops Q (o :: rest) a w := by
  refine wpList_plain hgd fun K hK => ?_
  unfold Oper.wp execOp
  simp only [ho, resolve, invoke, builtin, Sem.run_bind, Sem.run_pure, Result.andThen_ok, List.map_toArray, List.map_cons, List.map_nil, hx, hy, hr]
  exact hK _ _ h
end
theorem ready_any (dv : Value) (w : World) (hd : dv.oneCell' = true) : Calls Tryz.prog 35 #[dv] w fun e w' => e = .returned (.func (.func 66) #[] #[.pointer (some ⟨w.heap.size, 0, none⟩)]) ∧ w' = w.alloc (.cells #[dv] 24) := by
  go_enter Tryz.func35, Tryz.ntmps35
  go_wp2
  go_ret
  exact ⟨rfl, rfl⟩
set_option maxRecDepth 100000 in
theorem ready1_none (n Bp : Nat) (kl : List (Int × Value)) (wl : List (QId × Value)) (hv vv : Value) (st : Int) (m : Nat) (hm : 3 ≤ m) (L : Nat) (W : World) (hd : DocC n W kl wl hv vv st) (hh : SliceAt 3 encRng W hv [])
    (hp : W.cell? ⟨Bp, 0, none⟩ = some (.pointer (some ⟨n + 11, 0, none⟩))) :
    CallsIn Fence.wide m Tryz.prog 66 #[.func (.yield L) #[] #[], .pointer (some ⟨Bp, 0, none⟩)] W fun e W' => (∃ v, e = .returned v) ∧ Below W.heap.size W W' := by
  obtain ⟨p7, c7, rfl⟩ : ∃ p c, hv = .slice p 0 c := SliceAt.len hh
  have hcl := (callsIn_wide (n := m - 1)).2 (cloneRng_any _ _ W hh (by simp))
  have d5 : W.cell? ⟨n + 11, 5, none⟩ = some (.slice p7 0 c7) := hd.cell 5 _ rfl
  have hfn : Fence.wide.fn 67 := trivial
  have hm1 : 1 ≤ m := by omega
  refine callsIn_of_wp Tryz.func66 rfl trivial ?_ rfl
  simp only [Tryz.ntmps66, List.size_toArray, List.length_cons, List.length_nil, Nat.reduceAdd, Nat.reduceSub, Array.replicate_succ, Array.replicate_zero, List.push_toArray, List.append_toArray, List.nil_append, List.cons_append]
  gi_wp2_with (gi_at_call 67; refine hcl.mono ?_; rintro e w1 ⟨cv, rfl, hco, hb1⟩; obtain ⟨pc, cc, rfl⟩ : ∃ p c, cv = .slice p 0 c := ownsRow_len hco)
  clear hcl d5 hco hh hp
  gi_loopw [13] (fun z wx => z = .int .i64 0 ∧ wx = w1) (fun _ _ => 0)
  case atStart => exact ⟨rfl, rfl⟩
  case round =>
    obtain ⟨rfl, rfl⟩ := hrel
    gi_wp2
    go_end0
    exact ⟨⟨_, rfl⟩, hb1⟩
end Go.Proofs.YthhbiliimdpgmaaGreatDoor
