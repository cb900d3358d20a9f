/- Walks: Copy of a map object without sets; maps.Clone. -/
import Derived.Test.YthhbiliimdpgmaaGreatDoorM21
import Derived.Test.YthhbiliimdpgmaaGreatDoorM29
import Derived.Test.YthhbiliimdpgmaaGreatDoorM38
import Derived.Laws.Externs
import Derived.MapKept
namespace Go.Proofs.YthhbiliimdpgmaaGreatDoor
open Go.RowKit Go.Lib Go.Shelf

theorem run_equalMapNil {P : Program} (w : World) (d : Nat) (t k e : TypeId) (p : Option Nat) (h : P.underlying t = some (.map k e)) : (Op.equalIn (d + 1) t (.map p) (.map none)).run P w = .ok p.isNone w := by
  cases p <;> simp [Op.equalIn, run_underlying h]
theorem run_eqlMapNil {P : Program} (w : World) (t k e : TypeId) (p : Option Nat) (h : P.underlying t = some (.map k e)) : (binOp .eql t (.map p) (.map none)).run P w = .ok (.bool p.isNone) w := by
  simp only [binOp]
  simp [show Op.equal t (.map p) (.map none) = Op.equalIn (9999 + 1) t (.map p) (.map none) from rfl, run_equalMapNil w 9999 t k e p h]
theorem run_assertMap {P : Program} (w : World) (t xT k e : TypeId) (v : Value) (h : P.underlying t = some (.map k e)) : (Instr.typeAssert (.iface t v) xT t false).run P w = .ok v w := by
  simp [Instr.typeAssert, run_underlying h, go_sem, Result.andThen]
theorem run_mapsClone {P : Program} (w : World) {r : Nat} {es : Array MapEntry} {clock : Nat} (t : TypeId) (hb : w.heap[r]? = some (.map es clock)) :
    (Extern.MapsClone.clone #[.iface t (.map (some r))]).run P w = .ok (.iface t (.map (some w.heap.size))) (w.alloc (.map es clock)) := by
  have e : Extern.MapsClone.clone #[.iface t (.map (some r))] = (getObj r >>= fun o => match o with
      | .map entries clock => (newObj (.map entries clock) >>= fun n => pure (.iface t (.map (some n))))
      | _ => stuck "maps.clone: a map expected") := rfl
  rw [e]
  simp [MapKept.run_getObj_map hb, Result.andThen, go_sem]
theorem mapsClone_any (b : Nat) (es : Array MapEntry) (clock : Nat) (w : World) (hb : w.heap[b]? = some (.map es clock)) :
    Calls Tryz.prog 138 #[.map (some b)] w fun e w' => e = .returned (.map (some w.heap.size)) ∧ w' = w.alloc (.map es clock) := by
  have hq := fun w => run_eqlMapNil (P := Tryz.prog) w 59 _ _ (some b) Tryz.underlying59
  have hx : (callFunc 176 #[.iface 59 (.map (some b))]).run Tryz.prog w = .ok (.value (.iface 59 (.map (some w.heap.size)))) (w.alloc (.map es clock)) := by
    rw [run_callFunc_extern (e := Extern.MapsClone.clone) (by exact Tryz.func176) (by kernel_rfl) (by kernel_rfl) (by kernel_rfl) (by kernel_rfl), run_mapsClone w 59 hb]
    rfl
  have ha := fun w t v => run_assertMap (P := Tryz.prog) w 59 t _ _ v Tryz.underlying59
  go_enter Tryz.func138, Tryz.ntmps138
  go_wp2
  go_ret
  exact ⟨rfl, rfl⟩
/-- a map object without sets at b. -/
def MapsE (W : World) (b : Nat) : Prop := MapsIn W (fun _ => True) b QMaps.empty
def CopyN (w : World) (u : Value) (wx : World) : Prop := ∃ b m1 m2, u = .pointer (some ⟨b, 0, none⟩) ∧ wx.heap[b]? = some (.cells #[.map (some m1), .map (some m2), .slice none 0 0] 90 (0, 0)) ∧ MapK idV wx m1 [] ∧ MapK idV wx m2 [] ∧ m1 ≠ m2 ∧ Below w.heap.size w wx
theorem mapK_clone {wx : World} {m : Nat} {es : Array MapEntry} {clock : Nat} {κ : Type} {enc : κ → Value} {l : List (κ × Value)} (h : es.toList.map (fun e => (e.key, e.val)) = l.map (fun p => (enc p.1, p.2)) ∧ MapKept.Stamped es clock) (hb : wx.heap[m]? = some (.map es clock)) : MapK enc wx m l := ⟨es, clock, hb, h.1, h.2⟩
set_option maxRecDepth 100000 in
set_option maxHeartbeats 2000000 in
theorem mapsCopy_none (n : Nat) (w : World) (hs : MapsZ n w) :
    Calls Tryz.prog 98 #[.pointer (some ⟨n + 10, 0, none⟩)] w fun e w' => ∃ b, e = .returned (.pointer (some ⟨b, 0, none⟩)) ∧ MapsE w' b ∧ Below w.heap.size w w' := by
  have hmm := @run_makeMap Tryz.prog
  have hst : w.heap[n + 10]? = some (.cells #[.map (some (n + 8)), .map (some (n + 9)), .slice none 0 0] 90 (0, 0)) := hs.st
  obtain ⟨es, clock, hb, hes⟩ := hs.all
  have hb : w.heap[n + 8]? = some (.map es clock) := hb
  obtain ⟨es2, clock2, hb2, hes2⟩ := hs.inn
  have hb2 : w.heap[n + 9]? = some (.map es2 clock2) := hb2
  have hes0 : es2 = #[] := by
    have := hes2.1
    simp [mLay0] at this
    simpa using this
  subst hes0
  have hl := (Array.getElem?_eq_some_iff.1 hst).1
  have hl8 := (Array.getElem?_eq_some_iff.1 hb).1
  have hl9 := (Array.getElem?_eq_some_iff.1 hb2).1
  have hcl := fun W (h : Below w.heap.size w W) => mapsClone_any (n + 8) es clock W ((h.block _ hl8).trans hb)
  have hcr := fun w => AnyE.slices_Clone_nil Tryz.cloneRng 0 0 w
  have HES := Lib.hid hes
  clear hes hes2
  go_enter Tryz.func98, Tryz.ntmps98
  go_upto_region 1 with fail
  go_cut [3] (fun u wx => CopyN w u wx)
  case first =>
    have c0 : ∀ s : MStep (fun _ => False) w, s.val.cell? ⟨n + 10, 0, none⟩ = some (.map (some (n + 8))) := MStep.cell hl id (by simp [World.cell?, hst])
    have c2 : ∀ s : MStep (fun _ => False) w, s.val.cell? ⟨n + 10, 2, none⟩ = some (.slice none 0 0) := MStep.cell hl id (by simp [World.cell?, hst])
    refine wp_region_flow7 (.rd [0, 1, 2, 3, 6, 7, 8, 9] (.two 4 (.two 5 (.one 10 (.rd [11] (.one 12 (.rd [13] .nil)))) 10 (.one 5 (.rd [11] (.one 12 (.rd [13] .nil))))) 5 (.one 4 (.one 10 (.rd [11] (.one 12 (.rd [13] .nil))))))) (fun w' => ∃ s : MStep (fun _ => False) w, w' = s.val) (by kernel_rfl) (by kernel_rfl) (fun _ _ d _ _ h => by cases d <;> exact h) (MStep.to (Mods.refl _ _).drew) ?_
    refine wpRT_rd ?_
    simp only [List.map_cons, List.map_nil, List.getElem?_toArray, List.getElem?_cons_succ, List.getElem?_cons_zero, Option.getD_some]
    repeat (first | go_big_quiet_skip | (go_big_quiet_want; first | (fail; go_frame; go_big_quiet_on) | (go_big_quiet_op; go_big_quiet_on)))
    refine wpQuiet_nil ?_
    have hb0 : Below w.heap.size w w.drew := (Below.refl _ _).drew
    refine wpRT_two ?_ ?_
    · refine wpRT_one rfl ?_; simp only [List.getElem_toArray, List.getElem_cons_succ, List.getElem_cons_zero]
      go_wp2_with (go_at_call 138; refine (hcl _ hb0).mono ?_; rintro e w2 ⟨rfl, rfl⟩)
      have hb2' : Below w.heap.size w (w.alloc (.map es clock)).drew := ((Below.refl _ _).alloc (Nat.le_refl _) _).drew
      have h2 : (w.alloc (.map es clock)).drew.heap[w.heap.size]? = some (.map es clock) := World.alloc_heap_new _ _
      have hz2 : (w.alloc (.map es clock)).drew.heap.size = w.heap.size + 1 := by show (w.alloc (.map es clock)).heap.size = _; simp
      refine ⟨MStep.to (Mods.of_below hb2'), ?_⟩
      generalize (w.alloc (.map es clock)).drew = W2 at hb2' h2 hz2 ⊢
      have HZ2 := Lib.hid hz2
      clear hz2
      refine wpRT_two ?_ ?_
      · refine wpRT_one rfl ?_; simp only [List.getElem_toArray, List.getElem_cons_succ, List.getElem_cons_zero]
        go_wp2
        refine ⟨MStep.to ((Mods.of_below hb2').alloc _), ?_⟩
        refine wpRT_one rfl ?_; simp only [List.getElem_toArray, List.getElem_cons_succ, List.getElem_cons_zero]
        go_wp2_with (go_at_call 67; refine (hcr _).mono ?_; rintro e w3 ⟨rfl, rfl⟩)
        refine ⟨MStep.to ((Mods.of_below hb2').alloc _), ?_⟩
        refine wpRT_rd ?_
        simp only [List.map_cons, List.map_nil, List.getElem?_toArray, List.getElem?_cons_succ, List.getElem?_cons_zero, Option.getD_some]
        repeat (first | go_big_quiet_skip | (go_big_quiet_want; first | (fail; go_frame; go_big_quiet_on) | (go_big_quiet_op; go_big_quiet_on)))
        refine wpQuiet_nil ?_
        refine wpRT_one rfl ?_; simp only [List.getElem_toArray, List.getElem_cons_succ, List.getElem_cons_zero]
        go_wp2
        refine ⟨MStep.to (((Mods.of_below hb2').alloc _).alloc _), ?_⟩
        refine wpRT_rd ?_
        simp only [List.map_cons, List.map_nil, List.getElem?_toArray, List.getElem?_cons_succ, List.getElem?_cons_zero, Option.getD_some]
        repeat (first | go_big_quiet_skip | (go_big_quiet_want; first | (fail; go_frame; go_big_quiet_on) | (go_big_quiet_op; go_big_quiet_on)))
        refine wpQuiet_nil ?_
        refine wpRT_nil ?_
        go_wp2
        go_meet
        have hz2 := HZ2.out
        exact ⟨_, _, _, rfl, by rw [alloc_heap_if, if_pos (by simp)], mapK_clone HES.out (by rw [alloc_heap_if, if_neg (by simp; omega), alloc_heap_if, if_neg (by omega)]; exact h2), MapK.empty (by rw [alloc_heap_if, if_neg (by simp), alloc_heap_if, if_pos rfl]), by omega, (hb2'.alloc (by omega) _).alloc (by simp; omega) _⟩
      · refine wpRT_one rfl ?_; simp only [List.getElem_toArray, List.getElem_cons_succ, List.getElem_cons_zero]
        go_wp2_with (go_at_call 67; refine (hcr _).mono ?_; rintro e w3 ⟨rfl, rfl⟩)
        refine ⟨MStep.to (Mods.of_below hb2'), ?_⟩
        refine wpRT_one rfl ?_; simp only [List.getElem_toArray, List.getElem_cons_succ, List.getElem_cons_zero]
        go_wp2
        refine ⟨MStep.to ((Mods.of_below hb2').alloc _), ?_⟩
        refine wpRT_rd ?_
        simp only [List.map_cons, List.map_nil, List.getElem?_toArray, List.getElem?_cons_succ, List.getElem?_cons_zero, Option.getD_some]
        repeat (first | go_big_quiet_skip | (go_big_quiet_want; first | (fail; go_frame; go_big_quiet_on) | (go_big_quiet_op; go_big_quiet_on)))
        refine wpQuiet_nil ?_
        refine wpRT_one rfl ?_; simp only [List.getElem_toArray, List.getElem_cons_succ, List.getElem_cons_zero]
        go_wp2
        refine ⟨MStep.to (((Mods.of_below hb2').alloc _).alloc _), ?_⟩
        refine wpRT_rd ?_
        simp only [List.map_cons, List.map_nil, List.getElem?_toArray, List.getElem?_cons_succ, List.getElem?_cons_zero, Option.getD_some]
        repeat (first | go_big_quiet_skip | (go_big_quiet_want; first | (fail; go_frame; go_big_quiet_on) | (go_big_quiet_op; go_big_quiet_on)))
        refine wpQuiet_nil ?_
        refine wpRT_nil ?_
        go_wp2
        go_meet
        have hz2 := HZ2.out
        exact ⟨_, _, _, rfl, by rw [alloc_heap_if, if_pos (by simp)], mapK_clone HES.out (by rw [alloc_heap_if, if_neg (by simp; omega), alloc_heap_if, if_neg (by omega)]; exact h2), MapK.empty (by rw [alloc_heap_if, if_neg (by simp), alloc_heap_if, if_pos rfl]), by omega, (hb2'.alloc (by omega) _).alloc (by simp; omega) _⟩
    · refine wpRT_one rfl ?_; simp only [List.getElem_toArray, List.getElem_cons_succ, List.getElem_cons_zero]
      go_wp2
      have hb2' : Below w.heap.size w (w.alloc (.map #[] 0)).drew := ((Below.refl _ _).alloc (Nat.le_refl _) _).drew
      have h2 : (w.alloc (.map #[] 0)).drew.heap[w.heap.size]? = some (.map #[] 0) := World.alloc_heap_new _ _
      have hz2 : (w.alloc (.map #[] 0)).drew.heap.size = w.heap.size + 1 := by show (w.alloc (.map #[] 0)).heap.size = _; simp
      refine ⟨MStep.to (Mods.of_below hb2'), ?_⟩
      generalize (w.alloc (.map #[] 0)).drew = W2 at hb2' h2 hz2 ⊢
      have HZ2 := Lib.hid hz2
      clear hz2
      refine wpRT_one rfl ?_; simp only [List.getElem_toArray, List.getElem_cons_succ, List.getElem_cons_zero]
      go_wp2_with (go_at_call 138; refine (hcl _ hb2').mono ?_; rintro e w3 ⟨rfl, rfl⟩)
      refine ⟨MStep.to ((Mods.of_below hb2').alloc _), ?_⟩
      refine wpRT_one rfl ?_; simp only [List.getElem_toArray, List.getElem_cons_succ, List.getElem_cons_zero]
      go_wp2_with (go_at_call 67; refine (hcr _).mono ?_; rintro e w3 ⟨rfl, rfl⟩)
      refine ⟨MStep.to ((Mods.of_below hb2').alloc _), ?_⟩
      refine wpRT_rd ?_
      simp only [List.map_cons, List.map_nil, List.getElem?_toArray, List.getElem?_cons_succ, List.getElem?_cons_zero, Option.getD_some]
      repeat (first | go_big_quiet_skip | (go_big_quiet_want; first | (fail; go_frame; go_big_quiet_on) | (go_big_quiet_op; go_big_quiet_on)))
      refine wpQuiet_nil ?_
      refine wpRT_one rfl ?_; simp only [List.getElem_toArray, List.getElem_cons_succ, List.getElem_cons_zero]
      go_wp2
      refine ⟨MStep.to (((Mods.of_below hb2').alloc _).alloc _), ?_⟩
      refine wpRT_rd ?_
      simp only [List.map_cons, List.map_nil, List.getElem?_toArray, List.getElem?_cons_succ, List.getElem?_cons_zero, Option.getD_some]
      repeat (first | go_big_quiet_skip | (go_big_quiet_want; first | (fail; go_frame; go_big_quiet_on) | (go_big_quiet_op; go_big_quiet_on)))
      refine wpQuiet_nil ?_
      refine wpRT_nil ?_
      go_wp2
      go_meet
      have hz2 := HZ2.out
      exact ⟨_, _, _, rfl, by rw [alloc_heap_if, if_pos (by simp)], mapK_clone HES.out (by rw [alloc_heap_if, if_neg (by simp), alloc_heap_if, if_pos rfl]), MapK.empty (by rw [alloc_heap_if, if_neg (by simp; omega), alloc_heap_if, if_neg (by omega)]; exact h2), by omega, (hb2'.alloc (by omega) _).alloc (by simp; omega) _⟩
  case rest =>
    obtain ⟨b, m1, m2, rfl, hbb, hm1, hm2, hne, hB⟩ := hcut
    have h9 := (hB.block _ hl9).trans hb2
    have c1 : wc.cell? ⟨n + 10, 1, none⟩ = some (.map (some (n + 9))) := by
      have := (hB.block _ hl).trans hst
      simp [World.cell?, this]
    have hrng := run_range0 (P := Tryz.prog) (T := 88) (K := 28) (E := 206) (by kernel_rfl) h9
    have hnx : ∀ T, (Instr.next (.pointer (some ⟨wc.heap.size, 0, none⟩)) false T).run Tryz.prog (wc.alloc (.mapIter (some (n + 9)) clock2 #[] clock2)) = .ok (.tuple #[.bool false]) (wc.alloc (.mapIter (some (n + 9)) clock2 #[] clock2)) := fun T => run_next0 (by rw [alloc_heap_if, if_pos rfl]) (by rw [alloc_heap_if, if_neg (by have := hB.size; omega)]; exact h9)
    have hB2 : Below w.heap.size w (wc.alloc (.mapIter (some (n + 9)) clock2 #[] clock2)) := hB.alloc hB.size _
    have hb3 : Below wc.heap.size wc (wc.alloc (.mapIter (some (n + 9)) clock2 #[] clock2)) := (Below.refl _ _).alloc (Nat.le_refl _) _
    have hbb2 := (hb3.block b (Array.getElem?_eq_some_iff.1 hbb).1).trans hbb
    have hm12 := hm1.blk (hb3.block m1 hm1.lt)
    have hm22 := hm2.blk (hb3.block m2 hm2.lt)
    clear hcl hcr hb hb2 hst
    go_upto_region 3 with fail
    generalize wc.alloc (.mapIter (some (n + 9)) clock2 #[] clock2) = W2 at hB2 hnx hb3 hbb2 hm12 hm22 ⊢
    generalize wc.heap.size = Z at hnx ⊢
    go_loopw [] (fun ws => ws = W2) (fun _ => 0)
    case atStart => rfl
    case round =>
      obtain rfl := hrel
      go_wp2
      go_ret
      refine ⟨b, rfl, ⟨⟨m1, m2, .slice none 0 0, [], fun _ _ => .slice none 0 0⟩, ?_, fun _ _ => trivial⟩, hB2⟩
      exact { st := hbb2, hid := ⟨[], OwnAt.nil, fun i => rfl⟩, all := hm12, inn := hm22, par := rfl, inner := by simp, rows := fun p k h => absurd rfl h, sep := by simp [hne], rsep := fun p k _ _ h => absurd rfl h }
end Go.Proofs.YthhbiliimdpgmaaGreatDoor
