/- Walk: slices.Delete of one operation, in place. -/
import Derived.Test.YtaeebgljcdfolaaGreatDoorM35
import Derived.Test.YtaeebgljcdfolaaGreatDoorM24
import Derived.Test.YtaeebgljcdfolaaGreatDoorM07
import Derived.Lib.SlFresh
namespace Go.Proofs.YtaeebgljcdfolaaGreatDoor
open Go.RowKit Go.Lib

theorem slice_lhm_run {T : TypeId} {k : Nat} (hu : Tryz.prog.underlying T = some (.slice (Tryz.prog.elem T))) (hk : ∀ w, (sizeOf (Tryz.prog.elem T)).run Tryz.prog w = .ok k w) (g o n c l h m : Nat) (h1 : l < m) (h0 : l ≤ h) (h2 : h ≤ m) (h3 : m ≤ c) (w : World) :
    (Instr.slice T (.slice (some ⟨g, o, none⟩) n c) (some (.int .i64 (l : Int))) (some (.int .i64 (h : Int))) (some (.int .i64 (m : Int)))).run Tryz.prog w = .ok (.slice (some ⟨g, o + l * k, none⟩) (h - l) (m - l)) w := by
  rw [run_slice_lhm w T _ n c hu .i64 .i64 .i64 l h m (by omega) (by omega) (by omega) (by omega), hk]
  simp [Result.andThen_ok, sliced, show ¬ m = l by omega, Addr.add]

theorem wpList_clear_run {P : Program} {w : World} {ops : Array Oper} {rest : List Oper} {o : Oper} {a : Act} {Q : Exit → Act → World → Prop} (hgd : o.guard = none) (x : Operand) (t : TypeId)
    (ho : o.op = .call { callee := .builtin .clear, args := #[x], argTypes := #[t] }) (v : Value) (hx : a.eval x = v) {u : Value} {w' : World} (hr : ∀ ty, (Builtin.clear_ #[t] ty #[v]).run P w = .ok u w') (h : wpList P ops Q rest (a.put o.dst u) w') : wpList P ops Q (o :: rest) a w := by
  refine wpList_plain hgd fun K hK => ?_
  unfold Oper.wp execOp
  simp only [ho, resolve, invoke, builtin, Sem.run_bind, Sem.run_pure, Result.andThen_ok, List.map_toArray, List.map_cons, List.map_nil, hx, hr]
  exact hK _ _ h
/-- what Delete leaves: the row without the i-th, in the same block. -/
def DelR (base : Nat) (v : Value) (l : List QOp) (w : World) (e : Ending) (w' : World) : Prop :=
  ∃ v', e = .returned v' ∧ v'.ownBlock = v.ownBlock ∧ OwnAt base 35 22 encOp w' v' l ∧ (∀ k, v.ownBlock ≠ some k → w'.heap[k]? = w.heap[k]?) ∧ w'.heap.size = w.heap.size ∧ w'.os = w.os ∧ w'.tape = w.tape ∧ w'.output = w.output
set_option maxRecDepth 100000 in
set_option maxHeartbeats 4000000 in
theorem delete_any (base : Nat) (v : Value) (l : List QOp) (i : Nat) (w : World) (h : OwnAt base 35 22 encOp w v l) (hi : i < l.length) (hl : l.length ≤ 1000000) :
    Calls Tryz.prog 38 #[v, .int .i64 i, .int .i64 ((i + 1 : Nat) : Int)] w (DelR base v (l.eraseIdx i) w) := by
  obtain ⟨ix, hix, hz0, hz1, hz2⟩ := info_parts infoOp
  have hsz : ∀ w, (sizeOf (Tryz.prog.elem 25)).run Tryz.prog w = .ok 22 w := fun w => by kernel_rfl
  rcases h.2 with ⟨_, h0⟩ | ⟨g, cap, cur, rfl, hg, hcur, hn, hm, hcs, ht⟩
  · omega
  obtain ⟨n, hn1⟩ : ∃ n, l.length = n := ⟨_, rfl⟩
  have hcell : ∀ (w' : World), (∃ cur', w'.heap[g]? = some (.cells cur' 35 (0, 0)) ∧ cur'.size = cap * 22) → ∀ p, p < cap * 22 → (w'.cell? ⟨g, p, none⟩).isSome = true ∧ w'.frozen? ⟨g, p, none⟩ = false := by
    rintro w' ⟨cur', h1, h2⟩ p hp
    refine ⟨?_, by simp [World.frozen?, h1]⟩
    rw [World.cell?, h1]
    simp [h2, hp]
  rw [hn1] at hn hi hl h ⊢
  have s1 := slice_lhm_run (T := 25) (by kernel_rfl) hsz g 0 n cap i (i + 1) n (by omega) (by omega) (by omega) (by omega)
  have s2 := slice_h_run (T := 25) (by kernel_rfl) hsz g 0 n cap i (by omega)
  obtain ⟨off, hoff, hif⟩ : ∃ off, (i + 1 < n → off = 0 + (i + 1) * 22) ∧ (if cap = i + 1 then (some ⟨g, 0, none⟩ : Option Addr) else some ⟨g, (i + 1) * 22, none⟩) = some ⟨g, off, none⟩ := by
    by_cases hc : cap = i + 1
    · exact ⟨0, fun h => by omega, if_pos hc⟩
    · exact ⟨(i + 1) * 22, fun _ => by omega, if_neg hc⟩
  have s4 := slice_lh_run (T := 25) (by kernel_rfl) hsz g 0 (n - 1) cap (n - 1) n (by omega) (by omega)
  have hsl := OwnAt.slice (k := 22) (enc := encOp) (fun _ => rfl) h
  have hlc : ∀ (j : Nat) (x : QOp), l[j]? = some x → ∀ (q : Nat) (y : Value), (encOp x)[q]? = some y → w.cell? ⟨g, j * 22 + q, none⟩ = some y := by
    rcases hsl with ⟨e, _⟩ | ⟨b', off', c', e, _, _, hc⟩
    · cases e
    · cases e
      intro j x hj q y hy
      have := hc j x hj q y hy
      rwa [Nat.zero_add] at this
  have hnl : ((l.drop (i + 1)).flatMap encOp).length = (n - (i + 1)) * 22 := by rw [flat_length (enc := encOp) (k := 22) (fun _ => rfl), List.length_drop, hn1]
  have hone : ∀ u ∈ (l.drop (i + 1)).flatMap encOp, u.oneCell' = true := by
    intro u hu
    obtain ⟨x, _, hx⟩ := List.mem_flatMap.1 hu
    simp [encOp] at hx
    rcases hx with h | h | h | h | h | h | h | h | h | h | h | h | h | h | h | h | h | h | h | h | h | h <;> (subst h; rfl)
  have hap : ∀ ty, (Builtin.append_ #[25, 25] ty #[.slice (some ⟨g, 0, none⟩) i cap, .slice (some ⟨g, off, none⟩) (n - (i + 1)) (cap - (i + 1))]).run Tryz.prog w.drew = .ok (.slice (some ⟨g, 0, none⟩) (n - 1) cap) (w.drew.setCells g (i * 22) ((l.drop (i + 1)).flatMap encOp)) := by
    intro ty
    have hall := hcell w.drew ⟨cur, hcur, hcs⟩
    have hb1 : ∀ j, j < ((l.drop (i + 1)).flatMap encOp).length → i * 22 + j < cap * 22 := fun j hj => by rw [hnl] at hj; omega
    have := run_append_room_cells (P := Tryz.prog) w.drew 25 ty 35 ix Tryz.underlying25 hix g 0 i cap ⟨g, off, none⟩ (n - (i + 1)) (cap - (i + 1)) ((l.drop (i + 1)).flatMap encOp) (by rw [hnl, hz1]) ?_ hone (by omega) ?_ ?_
    · rw [hz1, Nat.zero_add, show i + (n - (i + 1)) = n - 1 by omega] at this
      exact this
    · intro p u hu
      have hp : p < (n - (i + 1)) * 22 := by rw [← hnl]; exact (List.getElem?_eq_some_iff.1 hu).1
      have hj : p / 22 < (l.drop (i + 1)).length := by rw [List.length_drop]; omega
      have h1 := flat_get (enc := encOp) (k := 22) (fun _ => rfl) (l.drop (i + 1)) (p / 22) (p % 22) (l.drop (i + 1))[p / 22] (by simp) (Nat.mod_lt _ (by omega))
      rw [show p / 22 * 22 + p % 22 = p by omega, hu] at h1
      have h2 := hlc (i + 1 + p / 22) (l.drop (i + 1))[p / 22] (by rw [List.getElem_drop]; simp) (p % 22) u h1.symm
      rw [Addr.add_lit, hoff (by omega)]
      rw [show 0 + (i + 1) * 22 + p = (i + 1 + p / 22) * 22 + p % 22 by omega]
      exact h2
    · intro j hj
      rw [hz1, Nat.zero_add]
      exact (hall _ (hb1 j hj)).1
    · intro j hj
      rw [hz1, Nat.zero_add]
      exact (hall _ (hb1 j hj)).2
  obtain ⟨W1, hW1⟩ : ∃ W1, w.drew.setCells g (i * 22) ((l.drop (i + 1)).flatMap encOp) = W1 := ⟨_, rfl⟩
  obtain ⟨r1, r2, r3, r4, r5⟩ := setCells_rest g ((l.drop (i + 1)).flatMap encOp) (i * 22) w.drew
  obtain ⟨cur1, hc1, hs1⟩ := setCells_row g ((l.drop (i + 1)).flatMap encOp) (i * 22) w.drew cur hcur
  rw [hW1] at hap r1 r2 r3 r4 r5 hc1
  have hall1 := hcell W1 ⟨cur1, hc1, by rw [hs1, hcs]⟩
  have hcl : ∀ ty, (Builtin.clear_ #[25] ty #[.slice (some ⟨g, 0 + (n - 1) * 22, none⟩) (n - (n - 1)) (cap - (n - 1))]).run Tryz.prog W1 = .ok (.tuple #[]) (W1.setCells g ((n - 1) * 22) (encOp opZero)) := by
    intro ty
    have hst := run_storeCells_cells (P := Tryz.prog) g (0 + (n - 1) * 22) (encOp opZero) 0 W1 (fun j hj => (hall1 _ (by have : j < 22 := hj; omega)).1) (fun j hj => (hall1 _ (by have : j < 22 := hj; omega)).2) (by
      intro u hx
      simp [encOp] at hx
      rcases hx with h | h | h | h | h | h | h | h | h | h | h | h | h | h | h | h | h | h | h | h | h | h <;> (subst h; rfl))
    have hzv : ∀ w, (zeroValue 35).run Tryz.prog w = .ok (opV opZero) w := fun w => by kernel_rfl
    have hzc : (Builtin.zeroCells (opV opZero).cells 1).toList = encOp opZero := by kernel_rfl
    rw [show n - (n - 1) = 0 + 1 by omega]
    simp only [Nat.add_zero, Nat.zero_add] at hst
    rw [Nat.zero_add]
    simp [Builtin.clear_, run_underlying Tryz.underlying25, hzv, hzc, hst]
  obtain ⟨W2, hW2⟩ : ∃ W2, W1.setCells g ((n - 1) * 22) (encOp opZero) = W2 := ⟨_, rfl⟩
  obtain ⟨t1, t2, t3, t4, t5⟩ := setCells_rest g (encOp opZero) ((n - 1) * 22) W1
  obtain ⟨cur2, hc2, hs2⟩ := setCells_row g (encOp opZero) ((n - 1) * 22) W1 cur1 hc1
  rw [hW2] at hcl t1 t2 t3 t4 t5 hc2
  have hel : (l.eraseIdx i).length = n - 1 := by rw [List.length_eraseIdx, hn1, if_pos hi]
  have hfin : OwnAt base 35 22 encOp W2 (.slice (some ⟨g, 0, none⟩) (n - 1) cap) (l.eraseIdx i) := by
    rw [← hel]
    refine OwnAt.of_cells (l := l.eraseIdx i) (k := 22) (enc := encOp) (fun _ => rfl) hg hc2 (by omega) hm (by rw [hs2, hs1, hcs]) fun j x hj q y hy => ?_
    have hjl : j < n - 1 := by rw [← hel]; exact (List.getElem?_eq_some_iff.1 hj).1
    have hq : q < 22 := (List.getElem?_eq_some_iff.1 hy).1
    rw [← hW2, World.cell?_setCells_out g _ _ _ _ (fun _ _ => .inl (by show j * 22 + q < (n - 1) * 22; omega)), ← hW1]
    rw [List.getElem?_eraseIdx] at hj
    by_cases hji : j < i
    · rw [if_pos hji] at hj
      rw [World.cell?_setCells_out g _ _ _ _ (fun _ _ => .inl (by show j * 22 + q < i * 22; omega))]
      exact hlc j x hj q y hy
    · rw [if_neg hji] at hj
      have h1 := flat_get (enc := encOp) (k := 22) (fun _ => rfl) (l.drop (i + 1)) (j - i) q x (by rw [List.getElem?_drop, show i + 1 + (j - i) = j + 1 by omega]; exact hj) hq
      rw [hy] at h1
      have hlt := (List.getElem?_eq_some_iff.1 h1).1
      have h2 := World.cell?_setCells_in g ((l.drop (i + 1)).flatMap encOp) (i * 22) w.drew (fun p hp => by rw [hnl] at hp; exact (hcell w.drew ⟨cur, hcur, hcs⟩ _ (by omega)).1) ((j - i) * 22 + q) hlt
      rw [show i * 22 + ((j - i) * 22 + q) = j * 22 + q by omega] at h2
      rw [h2, ← h1, List.getElem?_eq_getElem hlt]
  obtain ⟨m, rfl⟩ : ∃ m, n = m + 1 := ⟨n - 1, by omega⟩
  simp only [Nat.add_sub_cancel, Nat.zero_add, show m + 1 - m = 1 by omega, show m + 1 - (i + 1) = m - i by omega] at hcl hap hfin
  clear s4
  have hcm : ¬ cap = m := by omega
  have Hif := Lib.hid hif
  clear hif
  have e1 : decide ((i : Int) = ((i + 1 : Nat) : Int)) = false := by simp; omega
  clear hsl hlc hcell hall1 hone hoff ht
  go_enter Tryz.func38, Tryz.ntmps38
  go_upto_region 5 with fail
  have hm1 : Mods (fun b => b = g) w W1 := ⟨r3, r4, r5, Nat.le_of_eq r2.symm, fun k _ hk => r1 k hk⟩
  refine wp_region_flow3 7 [0, 1, 2, 3, 4, 5] [6, 7] (fun w' => ∃ s : MStep (fun b => b = g) w, w' = s.val) (by kernel_rfl) (by kernel_rfl) (fun _ _ d _ _ h => by cases d <;> exact h) (MStep.to (Mods.refl _ _).drew) ?_
  simp only [List.map_cons, List.map_nil, List.getElem?_cons_succ, List.getElem?_cons_zero, Option.getD_some]
  repeat (first | go_big_quiet_skip | (go_big_quiet_want; first | (fail; go_frame; go_big_quiet_on) | (go_big_quiet_op; go_big_quiet_on)))
  refine wpQuiet_nil ?_
  rw [Hif.out]
  refine wpSeqF_step rfl ?_; simp only [List.getElem_toArray, List.getElem_cons_succ, List.getElem_cons_zero]
  refine Lib.wpList_append_run_sl _ rfl _ _ _ rfl _ _ rfl rfl (hap _) ?_
  go_frame
  refine ⟨fun _ => MStep.to hm1, ?_⟩
  refine wpSeqF_step rfl ?_; simp only [List.getElem_toArray, List.getElem_cons_succ, List.getElem_cons_zero]
  go_wp2_with fail
  refine wpSeqF_nil ?_
  clear hap s1 s2 hm1
  have Hcl := Lib.hid hcl
  clear hcl
  go_wp2_with (refine wpList_clear_run rfl _ _ rfl _ rfl Hcl.out ?_)
  go_ret
  have hne : ∀ k, (Value.slice (some (⟨g, 0, none⟩ : Addr)) (m + 1) cap).ownBlock ≠ some k → k ≠ g := fun k hk e => hk (by rw [e]; rfl)
  exact ⟨_, rfl, rfl, hfin, fun k hk => (t1 k (hne k hk)).trans (r1 k (hne k hk)), t2.trans r2, t3.trans r3, t4.trans r4, t5.trans r5⟩
end Go.Proofs.YtaeebgljcdfolaaGreatDoor
