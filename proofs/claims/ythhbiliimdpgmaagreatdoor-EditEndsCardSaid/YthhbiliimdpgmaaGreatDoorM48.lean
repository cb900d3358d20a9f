/- Walk: Copy of a map object with the law's set. -/
import Derived.Test.YthhbiliimdpgmaaGreatDoorM47
import Derived.Test.YthhbiliimdpgmaaGreatDoorM40
namespace Go.Proofs.YthhbiliimdpgmaaGreatDoor
open Go.RowKit Go.Lib Go.Shelf

theorem cloneOpS (sv : Value) (l : List QOp) (w : World) (hl : SliceAt 22 encOp w sv l) (hn : l.length ≤ 100000) :
    Calls Tryz.prog 139 #[sv] w (RetW fun v w' => OwnAt w.heap.size 35 22 encOp w' v l ∧ Below w.heap.size w w') := by
  obtain ⟨i0, hi, hz0, hz1, hz2⟩ := info_parts infoOp
  rcases hl with ⟨rfl, rfl⟩ | ⟨b, off, cap, rfl, hln, hb, hc⟩
  · refine (AnyE.slices_Clone_nil Tryz.cloneOp 0 0 w).mono ?_
    rintro e w' ⟨rfl, rfl⟩
    exact ⟨_, rfl, OwnAt.nil, Below.refl _ _⟩
  · refine (AnyE.slices_Clone Tryz.cloneOp i0 (opV opZero) 22 200 hi hz0 hz1 hz2 rfl (by decide) (fun w => by kernel_rfl) b off l.length cap (l.flatMap encOp) w (flat_length (enc := encOp) (k := 22) (fun _ => rfl) l) (by unfold maxLen; omega) (by omega) ?_ ?_).mono ?_
    · intro t u ht
      have htl : t < l.length * 22 := by
        have := (List.getElem?_eq_some_iff.1 ht).1
        rwa [flat_length (enc := encOp) (k := 22) (fun _ => rfl)] at this
      have h1 := flat_get (enc := encOp) (k := 22) (fun _ => rfl) l (t / 22) (t % 22) l[t / 22] (by simp [show t / 22 < l.length by omega]) (Nat.mod_lt _ (by omega))
      rw [show t / 22 * 22 + t % 22 = t by omega, ht] at h1
      have h2 := hc (t / 22) l[t / 22] (by simp [show t / 22 < l.length by omega]) (t % 22) u h1.symm
      rwa [show off + t / 22 * 22 + t % 22 = off + t by omega] at h2
    · intro u hu
      obtain ⟨x, _, hx⟩ := List.mem_flatMap.1 hu
      simp [encOp] at hx
      rcases hx with h | h | h | h | h | h | h | h | h | h | h | h | h | h | h | h | h | h | h | h | h | h <;> (subst h; rfl)
    · rintro e w' ⟨v, rfl, ho, _, hb⟩
      exact ⟨v, rfl, ho, hb⟩
theorem below_putObj {n l : Nat} {w w' : World} (h : Below n w w') (hl : n ≤ l) (o : Obj) : Below n w (w'.putObj l o) :=
  ⟨h.os, h.tape, h.output, by simpa [World.putObj] using h.size, fun k hk => (World.putObj_heap_other (by omega)).trans (h.block k hk)⟩
theorem below_putMap {n l : Nat} {w w' : World} (h : Below n w w') (hl : n ≤ l) (o : Obj) : Below n w (putMap w' l o) :=
  ⟨h.os, h.tape, h.output, by rw [putMap_size]; exact h.size, fun k hk => (putMap_other (by omega)).trans (h.block k hk)⟩
/-- the copy's box and its maps, as far as they matter. -/
def CopyS (w : World) (u : Value) (wx : World) : Prop := ∃ b m1 m2, u = .pointer (some ⟨b, 0, none⟩) ∧ wx.heap[b]? = some (.cells #[.map (some m1), .map (some m2), .slice none 0 0] 90 (0, 0)) ∧ MapK idV wx m2 [] ∧ w.heap.size ≤ b ∧ w.heap.size ≤ m2 ∧ Below w.heap.size w wx
set_option maxRecDepth 100000 in
set_option maxHeartbeats 4000000 in
theorem mapsCopy_set (n : Nat) (s : Int) (F : Nat → Prop) (w : World) (hm : MapsIn w F (n + 10) (QMaps.empty.set (setO s))) (hh : w.cell? ⟨n + 10, 2, none⟩ = some noS) :
    Calls Tryz.prog 98 #[.pointer (some ⟨n + 10, 0, none⟩)] w fun e w' => ∃ b, e = .returned (.pointer (some ⟨b, 0, none⟩)) ∧ Below w.heap.size w w' := by
  have hmm := @run_makeMap Tryz.prog
  obtain ⟨L, hL, _⟩ := hm
  have hst := hL.st
  have hhv : L.hv = .slice none 0 0 := by
    simp [World.cell?, hst] at hh
    exact hh
  rw [hhv] at hst
  obtain ⟨r, hPL⟩ : ∃ r, L.PL = [(idZero, r)] := by
    have h1 := hL.par
    have h2 : parents (QMaps.empty.set (setO s)).ops = [idZero] := rfl
    rw [h2] at h1
    match hp : L.PL, h1 with
    | [(a, r)], h1 => simp at h1; exact ⟨r, by rw [h1]⟩
    | [], h1 => simp at h1
    | _ :: _ :: _, h1 => simp at h1
  have hinn := hL.inn
  rw [hPL] at hinn
  obtain ⟨bi, ci, hin⟩ := MapK.one hinn
  have hrr := hL.inner (idZero, r) (by rw [hPL]; simp)
  obtain ⟨bj, cj, hrn⟩ := MapK.one (x := (⟨#[107]⟩ : ByteArray)) (v := L.row idZero (⟨#[107]⟩ : ByteArray)) (show MapK Value.string w r [((⟨#[107]⟩ : ByteArray), L.row idZero (⟨#[107]⟩ : ByteArray))] from hrr)
  obtain ⟨oc, hrow⟩ : ∃ oc, OwnAt 0 35 22 encOp w (L.row idZero (⟨#[107]⟩ : ByteArray)) [oc] := by
    have ho : opsAt (QMaps.empty.set (setO s)).ops idZero (⟨#[107]⟩ : ByteArray) = [{ setO s with v := (setO s).v.clean }] := by
      show List.filter _ [{ setO s with v := (setO s).v.clean }] = _
      simp [setO]
    have := hL.rows idZero (⟨#[107]⟩ : ByteArray) (by rw [ho]; simp)
    rw [ho] at this
    exact ⟨_, this⟩
  obtain ⟨es, clock, hb, hes⟩ := hL.all
  have hl := (Array.getElem?_eq_some_iff.1 hst).1
  have hl8 := (Array.getElem?_eq_some_iff.1 hb).1
  have hl9 := (Array.getElem?_eq_some_iff.1 hin.1).1
  have hlr := (Array.getElem?_eq_some_iff.1 hrn.1).1
  have hcl := fun W (h : Below w.heap.size w W) => mapsClone_any L.all es clock W ((h.block _ hl8).trans hb)
  have hcr := fun w => AnyE.slices_Clone_nil Tryz.cloneRng 0 0 w
  generalize L.row idZero (⟨#[107]⟩ : ByteArray) = rv at hrn hrow
  generalize L.inn = mi at hst hin hl9
  clear hes hPL hinn hrr hhv hh hL
  go_enter Tryz.func98, Tryz.ntmps98
  go_upto_region 1 with fail
  go_cut [3] (fun u wx => CopyS w u wx)
  case first =>
    have c0 : ∀ s : MStep (fun _ => False) w, s.val.cell? ⟨n + 10, 0, none⟩ = some (.map (some L.all)) := MStep.cell hl id (by simp [World.cell?, hst])
    have c2 : ∀ s : MStep (fun _ => False) w, s.val.cell? ⟨n + 10, 2, none⟩ = some (.slice none 0 0) := MStep.cell hl id (by simp [World.cell?, hst])
    refine wp_region_flow7 (.rd [0, 1, 2, 3, 6, 7, 8, 9] (.two 4 (.two 5 (.one 10 (.rd [11] (.one 12 (.rd [13] .nil)))) 10 (.one 5 (.rd [11] (.one 12 (.rd [13] .nil))))) 5 (.one 4 (.one 10 (.rd [11] (.one 12 (.rd [13] .nil))))))) (fun w' => ∃ s : MStep (fun _ => False) w, w' = s.val) (by kernel_rfl) (by kernel_rfl) (fun _ _ d _ _ h => by cases d <;> exact h) (MStep.to (Mods.refl _ _).drew) ?_
    refine wpRT_rd ?_
    simp only [List.map_cons, List.map_nil, List.getElem?_toArray, List.getElem?_cons_succ, List.getElem?_cons_zero, Option.getD_some]
    repeat (first | go_big_quiet_skip | (go_big_quiet_want; first | (fail; go_frame; go_big_quiet_on) | (go_big_quiet_op; go_big_quiet_on)))
    refine wpQuiet_nil ?_
    have hb0 : Below w.heap.size w w.drew := (Below.refl _ _).drew
    refine wpRT_two ?_ ?_
    · refine wpRT_one rfl ?_; simp only [List.getElem_toArray, List.getElem_cons_succ, List.getElem_cons_zero]
      go_wp2_with (go_at_call 138; refine (hcl _ hb0).mono ?_; rintro e w2 ⟨rfl, rfl⟩)
      have hb2' : Below w.heap.size w (w.alloc (.map es clock)).drew := ((Below.refl _ _).alloc (Nat.le_refl _) _).drew
      have h2 : (w.alloc (.map es clock)).drew.heap[w.heap.size]? = some (.map es clock) := World.alloc_heap_new _ _
      have hz2 : (w.alloc (.map es clock)).drew.heap.size = w.heap.size + 1 := by show (w.alloc (.map es clock)).heap.size = _; simp
      refine ⟨MStep.to (Mods.of_below hb2'), ?_⟩
      generalize (w.alloc (.map es clock)).drew = W2 at hb2' h2 hz2 ⊢
      have HZ2 := Lib.hid hz2
      clear hz2
      refine wpRT_two ?_ ?_
      · refine wpRT_one rfl ?_; simp only [List.getElem_toArray, List.getElem_cons_succ, List.getElem_cons_zero]
        go_wp2
        refine ⟨MStep.to ((Mods.of_below hb2').alloc _), ?_⟩
        refine wpRT_one rfl ?_; simp only [List.getElem_toArray, List.getElem_cons_succ, List.getElem_cons_zero]
        go_wp2_with (go_at_call 67; refine (hcr _).mono ?_; rintro e w3 ⟨rfl, rfl⟩)
        refine ⟨MStep.to ((Mods.of_below hb2').alloc _), ?_⟩
        refine wpRT_rd ?_
        simp only [List.map_cons, List.map_nil, List.getElem?_toArray, List.getElem?_cons_succ, List.getElem?_cons_zero, Option.getD_some]
        repeat (first | go_big_quiet_skip | (go_big_quiet_want; first | (fail; go_frame; go_big_quiet_on) | (go_big_quiet_op; go_big_quiet_on)))
        refine wpQuiet_nil ?_
        refine wpRT_one rfl ?_; simp only [List.getElem_toArray, List.getElem_cons_succ, List.getElem_cons_zero]
        go_wp2
        refine ⟨MStep.to (((Mods.of_below hb2').alloc _).alloc _), ?_⟩
        refine wpRT_rd ?_
        simp only [List.map_cons, List.map_nil, List.getElem?_toArray, List.getElem?_cons_succ, List.getElem?_cons_zero, Option.getD_some]
        repeat (first | go_big_quiet_skip | (go_big_quiet_want; first | (fail; go_frame; go_big_quiet_on) | (go_big_quiet_op; go_big_quiet_on)))
        refine wpQuiet_nil ?_
        refine wpRT_nil ?_
        go_wp2
        go_meet
        have hz2 := HZ2.out
        exact ⟨_, _, _, rfl, by rw [alloc_heap_if, if_pos (by simp)], MapK.empty (by rw [alloc_heap_if, if_neg (by simp), alloc_heap_if, if_pos rfl]), by first | omega | (simp; omega), by first | omega | (simp; omega), (hb2'.alloc (by omega) _).alloc (by simp; omega) _⟩
      · refine wpRT_one rfl ?_; simp only [List.getElem_toArray, List.getElem_cons_succ, List.getElem_cons_zero]
        go_wp2_with (go_at_call 67; refine (hcr _).mono ?_; rintro e w3 ⟨rfl, rfl⟩)
        refine ⟨MStep.to (Mods.of_below hb2'), ?_⟩
        refine wpRT_one rfl ?_; simp only [List.getElem_toArray, List.getElem_cons_succ, List.getElem_cons_zero]
        go_wp2
        refine ⟨MStep.to ((Mods.of_below hb2').alloc _), ?_⟩
        refine wpRT_rd ?_
        simp only [List.map_cons, List.map_nil, List.getElem?_toArray, List.getElem?_cons_succ, List.getElem?_cons_zero, Option.getD_some]
        repeat (first | go_big_quiet_skip | (go_big_quiet_want; first | (fail; go_frame; go_big_quiet_on) | (go_big_quiet_op; go_big_quiet_on)))
        refine wpQuiet_nil ?_
        refine wpRT_one rfl ?_; simp only [List.getElem_toArray, List.getElem_cons_succ, List.getElem_cons_zero]
        go_wp2
        refine ⟨MStep.to (((Mods.of_below hb2').alloc _).alloc _), ?_⟩
        refine wpRT_rd ?_
        simp only [List.map_cons, List.map_nil, List.getElem?_toArray, List.getElem?_cons_succ, List.getElem?_cons_zero, Option.getD_some]
        repeat (first | go_big_quiet_skip | (go_big_quiet_want; first | (fail; go_frame; go_big_quiet_on) | (go_big_quiet_op; go_big_quiet_on)))
        refine wpQuiet_nil ?_
        refine wpRT_nil ?_
        go_wp2
        go_meet
        have hz2 := HZ2.out
        exact ⟨_, _, _, rfl, by rw [alloc_heap_if, if_pos (by simp)], MapK.empty (by rw [alloc_heap_if, if_neg (by simp), alloc_heap_if, if_pos rfl]), by first | omega | (simp; omega), by first | omega | (simp; omega), (hb2'.alloc (by omega) _).alloc (by simp; omega) _⟩
    · refine wpRT_one rfl ?_; simp only [List.getElem_toArray, List.getElem_cons_succ, List.getElem_cons_zero]
      go_wp2
      have hb2' : Below w.heap.size w (w.alloc (.map #[] 0)).drew := ((Below.refl _ _).alloc (Nat.le_refl _) _).drew
      have h2 : (w.alloc (.map #[] 0)).drew.heap[w.heap.size]? = some (.map #[] 0) := World.alloc_heap_new _ _
      have hz2 : (w.alloc (.map #[] 0)).drew.heap.size = w.heap.size + 1 := by show (w.alloc (.map #[] 0)).heap.size = _; simp
      refine ⟨MStep.to (Mods.of_below hb2'), ?_⟩
      generalize (w.alloc (.map #[] 0)).drew = W2 at hb2' h2 hz2 ⊢
      have HZ2 := Lib.hid hz2
      clear hz2
      refine wpRT_one rfl ?_; simp only [List.getElem_toArray, List.getElem_cons_succ, List.getElem_cons_zero]
      go_wp2_with (go_at_call 138; refine (hcl _ hb2').mono ?_; rintro e w3 ⟨rfl, rfl⟩)
      refine ⟨MStep.to ((Mods.of_below hb2').alloc _), ?_⟩
      refine wpRT_one rfl ?_; simp only [List.getElem_toArray, List.getElem_cons_succ, List.getElem_cons_zero]
      go_wp2_with (go_at_call 67; refine (hcr _).mono ?_; rintro e w3 ⟨rfl, rfl⟩)
      refine ⟨MStep.to ((Mods.of_below hb2').alloc _), ?_⟩
      refine wpRT_rd ?_
      simp only [List.map_cons, List.map_nil, List.getElem?_toArray, List.getElem?_cons_succ, List.getElem?_cons_zero, Option.getD_some]
      repeat (first | go_big_quiet_skip | (go_big_quiet_want; first | (fail; go_frame; go_big_quiet_on) | (go_big_quiet_op; go_big_quiet_on)))
      refine wpQuiet_nil ?_
      refine wpRT_one rfl ?_; simp only [List.getElem_toArray, List.getElem_cons_succ, List.getElem_cons_zero]
      go_wp2
      refine ⟨MStep.to (((Mods.of_below hb2').alloc _).alloc _), ?_⟩
      refine wpRT_rd ?_
      simp only [List.map_cons, List.map_nil, List.getElem?_toArray, List.getElem?_cons_succ, List.getElem?_cons_zero, Option.getD_some]
      repeat (first | go_big_quiet_skip | (go_big_quiet_want; first | (fail; go_frame; go_big_quiet_on) | (go_big_quiet_op; go_big_quiet_on)))
      refine wpQuiet_nil ?_
      refine wpRT_nil ?_
      go_wp2
      go_meet
      have hz2 := HZ2.out
      exact ⟨_, _, _, rfl, by rw [alloc_heap_if, if_pos (by simp)], MapK.empty (by rw [alloc_heap_if, if_neg (by simp; omega), alloc_heap_if, if_neg (by omega)]; exact h2), by first | omega | (simp; omega), by first | omega | (simp; omega), (hb2'.alloc (by omega) _).alloc (by simp; omega) _⟩
  case rest =>
    obtain ⟨b, m1, m2, rfl, hbb, hm2, hwb, hwm, hB⟩ := hcut
    have c1 : wc.cell? ⟨n + 10, 1, none⟩ = some (.map (some mi)) := by
      have := (hB.block _ hl).trans hst
      simp [World.cell?, this]
    have h9 := (hB.block _ hl9).trans hin.1
    have hrng := run_range0 (P := Tryz.prog) (T := 88) (K := 28) (E := 206) (by kernel_rfl) h9
    have hz := hB.size
    have hb3 : Below wc.heap.size wc (wc.alloc (.mapIter (some mi) ci #[] ci)) := (Below.refl _ _).alloc (Nat.le_refl _) _
    have hI2 : (wc.alloc (.mapIter (some mi) ci #[] ci)).heap[wc.heap.size]? = some (.mapIter (some mi) ci #[] ci) := World.alloc_heap_new _ _
    have hB2 : Below w.heap.size w (wc.alloc (.mapIter (some mi) ci #[] ci)) := hB.alloc hB.size _
    have hbb2 := (hb3.block b (Array.getElem?_eq_some_iff.1 hbb).1).trans hbb
    have hbl := (Array.getElem?_eq_some_iff.1 hbb).1
    have hml := hm2.lt
    have hm22 := hm2.blk (hb3.block m2 hm2.lt)
    clear hcl hcr hb hst
    go_upto_region 3 with fail
    generalize wc.alloc (.mapIter (some mi) ci #[] ci) = W2 at hB2 hI2 hbb2 hm22 ⊢
    generalize wc.heap.size = I at hz hI2 hbl hml ⊢
    clear hb3 hbb hm2 hB c1 h9 hrng
    go_loopw [] (fun wx => wx.heap[b]? = some (.cells #[.map (some m1), .map (some m2), .slice none 0 0] 90 (0, 0)) ∧ Below w.heap.size w wx ∧ I < wx.heap.size ∧ ((wx.heap[I]? = some (.mapIter (some mi) ci #[] ci) ∧ MapK idV wx m2 []) ∨ (wx.heap[I]? = some (.mapIter (some mi) ci #[bi] ci)))) (fun wx => match wx.heap[I]? with | some (.mapIter _ _ a _) => 1 - a.size | _ => 0)
    case atStart => exact ⟨hbb2, hB2, (Array.getElem?_eq_some_iff.1 hI2).1, .inl ⟨hI2, hm22⟩⟩
    case round =>
      obtain ⟨hbx, hBx, hIl, hrel⟩ := hrel
      have hinx : OneAt wr mi (idV idZero) (.map (some r)) bi ci := ⟨(hBx.block _ hl9).trans hin.1, hin.2⟩
      rcases hrel with ⟨hIx, hmx⟩ | hIx
      · have hnx := fun T => run_next1 (P := Tryz.prog) (T := T) hIx hinx
        have hI3 : (wr.putObj I (.mapIter (some mi) ci #[bi] ci)).heap[I]? = some (.mapIter (some mi) ci #[bi] ci) := World.putObj_heap_same hIl
        have hwI : w.heap.size ≤ I := hz
        have hB3 := below_putObj hBx hwI (.mapIter (some mi) ci #[bi] ci)
        have hin3 : OneAt (wr.putObj I (.mapIter (some mi) ci #[bi] ci)) mi (idV idZero) (.map (some r)) bi ci := ⟨(hB3.block _ hl9).trans hin.1, hin.2⟩
        have hen : (Instr.entry (.pointer (some ⟨I, 0, none⟩))).run Tryz.prog (wr.putObj I (.mapIter (some mi) ci #[bi] ci)) = .ok (.tuple #[.agg #[.int .u64 0, .int .u64 0], .map (some r)]) (wr.putObj I (.mapIter (some mi) ci #[bi] ci)) := run_entry1 hI3 hin3
        have hnx2 : ∀ T, (Instr.next (.pointer (some ⟨I, 0, none⟩)) false T).run Tryz.prog wr = .ok (.tuple #[.bool true, .agg #[.int .u64 0, .int .u64 0], .map (some r)]) (wr.putObj I (.mapIter (some mi) ci #[bi] ci)) := hnx
        have hbI : b ≠ I := by omega
        have hmI : m2 ≠ I := by omega
        have hb3 := (World.putObj_heap_other (w := wr) (r := I) (o := .mapIter (some mi) ci #[bi] ci) hbI).trans hbx
        have hm3 := hmx.blk (World.putObj_heap_other (w := wr) (r := I) (o := .mapIter (some mi) ci #[bi] ci) hmI)
        have hz3 : (wr.putObj I (.mapIter (some mi) ci #[bi] ci)).heap.size = wr.heap.size := by simp [World.putObj]
        have HI := Lib.hid hIx
        clear hnx hIx hinx hbx hBx hmx
        generalize wr.putObj I (.mapIter (some mi) ci #[bi] ci) = W3 at hI3 hB3 hin3 hen hnx2 hb3 hm3 hz3
        have HZ3 := Lib.hid hz3
        clear hz3
        go_upto_region 5 with fail
        have hx4 : (W3.alloc (.cells #[.int .u64 0, .int .u64 0] 28)).heap[W3.heap.size]? = some (.cells #[.int .u64 0, .int .u64 0] 28 (0, 0)) := World.alloc_heap_new _ _
        have hb34 : Below W3.heap.size W3 (W3.alloc (.cells #[.int .u64 0, .int .u64 0] 28)) := (Below.refl _ _).alloc (Nat.le_refl _) _
        have hB4 := belowTrans hB3 hb34
        have hbl3 := (Array.getElem?_eq_some_iff.1 hb3).1
        have hIl3 := (Array.getElem?_eq_some_iff.1 hI3).1
        have hb4 := (hb34.block _ hbl3).trans hb3
        have hI4 := (hb34.block _ hIl3).trans hI3
        have hm4 := hm3.blk (hb34.block _ hm3.lt)
        have hz34 := hB3.size
        generalize W3.alloc (.cells #[.int .u64 0, .int .u64 0] 28) = W4 at hx4 hb34 hB4 hb4 hI4 hm4 ⊢
        generalize W3.heap.size = X at hx4 hz34 ⊢
        clear hB3 hI3 hb3 hm3 hen hnx2 hin3 hb34 hbl3 hIl3
        have hxl := (Array.getElem?_eq_some_iff.1 hx4).1
        have hbl4 := (Array.getElem?_eq_some_iff.1 hb4).1
        have s1 : ∀ s : MStep (fun _ => False) W4, s.val.cell? ⟨b, 1, none⟩ = some (.map (some m2)) := MStep.cell hbl4 id (by simp [World.cell?, hb4])
        have s2 : ∀ s : MStep (fun _ => False) W4, s.val.cell? ⟨X, 0, none⟩ = some (.int .u64 0) := MStep.cell hxl id (by simp [World.cell?, hx4])
        have s3 : ∀ s : MStep (fun _ => False) W4, s.val.cell? ⟨X, 1, none⟩ = some (.int .u64 0) := MStep.cell hxl id (by simp [World.cell?, hx4])
        refine wp_region_flow3 6 [0, 1, 2, 3, 4] [5, 6] (fun w' => ∃ s : MStep (fun _ => False) W4, w' = s.val) (by kernel_rfl) (by kernel_rfl) (fun _ _ d _ _ h => by cases d <;> exact h) (MStep.to (Mods.refl _ _).drew) ?_
        simp only [List.map_cons, List.map_nil, List.getElem?_cons_succ, List.getElem?_cons_zero, Option.getD_some]
        repeat (first | go_big_quiet_skip | (go_big_quiet_want; first | (fail; go_frame; go_big_quiet_on) | (go_big_quiet_op; go_big_quiet_on)))
        refine wpQuiet_nil ?_
        refine wpSeqF_step rfl ?_; simp only [List.getElem_toArray, List.getElem_cons_succ, List.getElem_cons_zero]
        go_wp2
        have hb45 : Below W4.heap.size W4 (W4.alloc (.map #[] 0)).drew := ((Below.refl _ _).alloc (Nat.le_refl _) _).drew
        refine ⟨MStep.to (Mods.of_below hb45), ?_⟩
        have hmm5 : MapK Value.string (W4.alloc (.map #[] 0)).drew W4.heap.size [] := MapK.empty (World.alloc_heap_new _ _)
        generalize (W4.alloc (.map #[] 0)).drew = W5 at hb45 hmm5 ⊢
        have hm3n : W4.heap.size ≠ m2 := by have := hm4.lt; omega
        have hz4 := hB4.size
        generalize W4.heap.size = m3 at hmm5 hm3n hz4 ⊢
        refine wpSeqF_step rfl ?_; simp only [List.getElem_toArray, List.getElem_cons_succ, List.getElem_cons_zero]
        refine wpList_putK idKey (T := 88) (E := 206) (by kernel_rfl) rfl _ _ _ rfl (k := idZero) (v := .map (some m3)) rfl rfl rfl (hm4.blk (hb45.block _ hm4.lt)) ?_
        intro ob hkey
        go_wp2
        refine wpSeqF_nil ?_
        have hB5 := belowTrans hB4 hb45
        have hbm : b ≠ m2 := fun e => by
          obtain ⟨es, ck, h1, _⟩ := hm4
          rw [← e, hb4] at h1
          cases h1
        have hXm : X ≠ m2 := fun e => by
          obtain ⟨es, ck, h1, _⟩ := hm4
          rw [← e, hx4] at h1
          cases h1
        have hB6 := below_putMap hB5 hwm ob
        have hb6 := (putMap_other (w := W5) (r := m2) (o := ob) hbm).trans ((hb45.block _ hbl4).trans hb4)
        have hI6 := (putMap_other (w := W5) (r := m2) (o := ob) hmI.symm).trans ((hb45.block _ (Array.getElem?_eq_some_iff.1 hI4).1).trans hI4)
        have hx6 := (putMap_other (w := W5) (r := m2) (o := ob) hXm).trans ((hb45.block _ hxl).trans hx4)
        have hmm6 := hmm5.blk (putMap_other (w := W5) (r := m2) (o := ob) hm3n)
        generalize putMap W5 m2 ob = W6 at hkey hB6 hb6 hI6 hx6 hmm6 ⊢
        clear s1 s2 s3 hB4 hb4 hI4 hm4 hx4 hxl hbl4 hb45 hmm5 hB5
        have h9 := (hB6.block _ hlr).trans hrn.1
        have hrng := run_range0 (P := Tryz.prog) (T := 206) (K := 9) (E := 39) (by kernel_rfl) h9
        have hb67 : Below W6.heap.size W6 (W6.alloc (.mapIter (some r) cj #[] cj)) := (Below.refl _ _).alloc (Nat.le_refl _) _
        have hJ7 : (W6.alloc (.mapIter (some r) cj #[] cj)).heap[W6.heap.size]? = some (.mapIter (some r) cj #[] cj) := World.alloc_heap_new _ _
        have hB7 := belowTrans hB6 hb67
        have hb7 := (hb67.block _ (Array.getElem?_eq_some_iff.1 hb6).1).trans hb6
        have hI7 := (hb67.block _ (Array.getElem?_eq_some_iff.1 hI6).1).trans hI6
        have hx7 := (hb67.block _ (Array.getElem?_eq_some_iff.1 hx6).1).trans hx6
        have hk7 := hkey.blk (hb67.block _ hkey.lt)
        have hmm7 := hmm6.blk (hb67.block _ hmm6.lt)
        have hz6 := hB6.size
        have hJb : b ≠ W6.heap.size ∧ I ≠ W6.heap.size ∧ X ≠ W6.heap.size ∧ m2 ≠ W6.heap.size ∧ m3 ≠ W6.heap.size := ⟨Nat.ne_of_lt (Array.getElem?_eq_some_iff.1 hb6).1, Nat.ne_of_lt (Array.getElem?_eq_some_iff.1 hI6).1, Nat.ne_of_lt (Array.getElem?_eq_some_iff.1 hx6).1, Nat.ne_of_lt hkey.lt, Nat.ne_of_lt hmm6.lt⟩
        clear hb6 hI6 hx6 hkey hmm6 hB6 h9
        go_upto_region 7 with fail
        generalize W6.alloc (.mapIter (some r) cj #[] cj) = W7 at hJ7 hB7 hb7 hI7 hx7 hk7 hmm7 hb67 ⊢
        generalize W6.heap.size = J at hJ7 hz6 hJb ⊢
        clear hb67 hrng
        have HJ := Lib.hid hJb
        clear hJb
        go_loopw [] (fun wx => wx.heap[b]? = some (.cells #[.map (some m1), .map (some m2), .slice none 0 0] 90 (0, 0)) ∧ Below w.heap.size w wx ∧ wx.heap[I]? = some (.mapIter (some mi) ci #[bi] ci) ∧ wx.heap[X]? = some (.cells #[.int .u64 0, .int .u64 0] 28 (0, 0)) ∧ MapK idV wx m2 [(idZero, .map (some m3))] ∧ ((wx.heap[J]? = some (.mapIter (some r) cj #[] cj) ∧ MapK Value.string wx m3 []) ∨ wx.heap[J]? = some (.mapIter (some r) cj #[bj] cj))) (fun wx => match wx.heap[J]? with | some (.mapIter _ _ a _) => 1 - a.size | _ => 0)
        case atStart => exact ⟨hb7, hB7, hI7, hx7, hk7, .inl ⟨hJ7, hmm7⟩⟩
        case round =>
          clear hJ7 hB7 hb7 hI7 hx7 hk7 hmm7
          obtain ⟨hb8, hB8, hI8, hx8, hk8, hrel⟩ := hrel
          have hin8 : OneAt wr r (.string (⟨#[107]⟩ : ByteArray)) rv bj cj := ⟨(hB8.block _ hlr).trans hrn.1, hrn.2⟩
          rcases hrel with ⟨hJ8, hm8⟩ | hJ8
          · have hnx : ∀ T, (Instr.next (.pointer (some ⟨J, 0, none⟩)) false T).run Tryz.prog wr = .ok (.tuple #[.bool true, .string ⟨#[107]⟩, rv]) (wr.putObj J (.mapIter (some r) cj #[bj] cj)) := fun T => run_next1 hJ8 hin8
            have hJl := (Array.getElem?_eq_some_iff.1 hJ8).1
            obtain ⟨j1, j2, j3, j4, j5⟩ := HJ.out
            have hoth : ∀ k, k ≠ J → (wr.putObj J (.mapIter (some r) cj #[bj] cj)).heap[k]? = wr.heap[k]? := fun k hk => World.putObj_heap_other hk
            have hJ9 : (wr.putObj J (.mapIter (some r) cj #[bj] cj)).heap[J]? = some (.mapIter (some r) cj #[bj] cj) := World.putObj_heap_same hJl
            have hB9 := below_putObj hB8 hz6 (.mapIter (some r) cj #[bj] cj)
            have hin9 : OneAt (wr.putObj J (.mapIter (some r) cj #[bj] cj)) r (.string (⟨#[107]⟩ : ByteArray)) rv bj cj := ⟨(hB9.block _ hlr).trans hrn.1, hrn.2⟩
            have hen : (Instr.entry (.pointer (some ⟨J, 0, none⟩))).run Tryz.prog (wr.putObj J (.mapIter (some r) cj #[bj] cj)) = .ok (.tuple #[.string ⟨#[107]⟩, rv]) (wr.putObj J (.mapIter (some r) cj #[bj] cj)) := run_entry1 hJ9 hin9
            have hb9 := (hoth b j1).trans hb8
            have hI9 := (hoth I j2).trans hI8
            have hx9 := (hoth X j3).trans hx8
            have hk9 := hk8.blk (hoth m2 j4)
            have hm9 := hm8.blk (hoth m3 j5)
            have HJ8 := Lib.hid hJ8
            clear hoth hJ8 hb8 hB8 hI8 hx8 hk8 hm8 hin8
            generalize wr.putObj J (.mapIter (some r) cj #[bj] cj) = W9 at hnx hJ9 hB9 hin9 hen hb9 hI9 hx9 hk9 hm9
            have hxl := (Array.getElem?_eq_some_iff.1 hx9).1
            have hbl9 := (Array.getElem?_eq_some_iff.1 hb9).1
            have hrow9 : OwnAt 0 35 22 encOp W9.drew rv [oc] := ownsRow_blk hrow fun k e => hB9.block k (ownsRow_lt hrow k e)
            have hcl9 := cloneOpS rv [oc] W9.drew (OwnAt.slice (k := 22) (enc := encOp) (fun _ => rfl) hrow9) (by simp)
            have s1 : ∀ s : MStep (fun _ => False) W9, s.val.cell? ⟨b, 1, none⟩ = some (.map (some m2)) := MStep.cell hbl9 id (by simp [World.cell?, hb9])
            have s2 : ∀ s : MStep (fun _ => False) W9, s.val.cell? ⟨X, 0, none⟩ = some (.int .u64 0) := MStep.cell hxl id (by simp [World.cell?, hx9])
            have s3 : ∀ s : MStep (fun _ => False) W9, s.val.cell? ⟨X, 1, none⟩ = some (.int .u64 0) := MStep.cell hxl id (by simp [World.cell?, hx9])
            have lk : ∀ s : MStep (fun _ => False) W9, (Instr.lookup 88 (.map (some m2)) (.agg #[.int .u64 0, .int .u64 0]) false).run Tryz.prog s.val = .ok (.map (some m3)) s.val := fun s => by
              have := run_look idKey (T := 88) (E := 206) (by kernel_rfl) (z := .map none) (fun w => by kernel_rfl) (hk9.blk (s.h.block m2 hk9.lt id)) idZero false
              simpa [look, idV, idZero] using this
            go_upto_region 9 with fail
            refine wp_region_flow3 9 [0, 1, 2, 3, 4, 5, 6, 7] [8, 9] (fun w' => ∃ s : MStep (fun _ => False) W9, w' = s.val) (by kernel_rfl) (by kernel_rfl) (fun _ _ d _ _ h => by cases d <;> exact h) (MStep.to (Mods.refl _ _).drew) ?_
            simp only [List.map_cons, List.map_nil, List.getElem?_cons_succ, List.getElem?_cons_zero, Option.getD_some]
            repeat (first | go_big_quiet_skip | (go_big_quiet_want; first | (fail; go_frame; go_big_quiet_on) | (go_big_quiet_op; go_big_quiet_on)))
            refine wpQuiet_nil ?_
            refine wpSeqF_step rfl ?_; simp only [List.getElem_toArray, List.getElem_cons_succ, List.getElem_cons_zero]
            go_wp2_with (go_at_call 139; refine hcl9.mono ?_; rintro e w10 ⟨v10, rfl, ho10, hb10'⟩)
            have hb10 : Below W9.heap.size W9 w10 := belowTrans (Below.refl _ _).drew hb10'
            refine ⟨MStep.to (Mods.of_below hb10), ?_⟩
            have hw3 : w.heap.size ≤ m3 := hz4
            refine wpSeqF_step rfl ?_; simp only [List.getElem_toArray, List.getElem_cons_succ, List.getElem_cons_zero]
            refine wpList_putK strKey (T := 206) (E := 39) (by kernel_rfl) rfl _ _ _ rfl (k := ⟨#[107]⟩) (v := v10) rfl rfl rfl (hm9.blk (hb10.block _ hm9.lt)) ?_
            intro ob2 hkey2
            go_wp2
            refine wpSeqF_nil ?_
            have hoth : ∀ k, k ≠ m3 → (putMap w10 m3 ob2).heap[k]? = w10.heap[k]? := fun k hk => putMap_other hk
            have hB11 := below_putMap (belowTrans hB9 hb10) hw3 ob2
            have hbm3 : b ≠ m3 ∧ I ≠ m3 ∧ X ≠ m3 ∧ m2 ≠ m3 ∧ J ≠ m3 := by
              obtain ⟨es, ck, h1, _⟩ := hm9
              refine ⟨fun e => ?_, fun e => ?_, fun e => ?_, fun e => hm3n e.symm, fun e => ?_⟩
              · rw [← e, hb9] at h1; cases h1
              · rw [← e, hI9] at h1; cases h1
              · rw [← e, hx9] at h1; cases h1
              · rw [← e, hJ9] at h1; cases h1
            have hb11 := (hoth b hbm3.1).trans ((hb10.block _ hbl9).trans hb9)
            have hI11 := (hoth I hbm3.2.1).trans ((hb10.block _ (Array.getElem?_eq_some_iff.1 hI9).1).trans hI9)
            have hx11 := (hoth X hbm3.2.2.1).trans ((hb10.block _ hxl).trans hx9)
            have hk11 := hk9.blk ((hoth m2 hbm3.2.2.2.1).trans (hb10.block _ hk9.lt))
            have hJ11 := (hoth J hbm3.2.2.2.2).trans ((hb10.block _ (Array.getElem?_eq_some_iff.1 hJ9).1).trans hJ9)
            clear hoth s1 s2 s3 lk hcl9 hen hnx
            generalize putMap w10 m3 ob2 = W11 at hB11 hb11 hI11 hx11 hk11 hJ11 ⊢
            go_wp2
            go_roundw
            case rel => exact ⟨hb11, hB11, hI11, hx11, hk11, .inr hJ11⟩
            case measure =>
              rw [hJ11, HJ8.out]
              simp
          · have hnx := fun T => run_next1_end (P := Tryz.prog) (T := T) hJ8 hin8
            clear hin8 hJ8
            go_wp2
            refine ⟨⟨hb8, hB8, (Array.getElem?_eq_some_iff.1 hI8).1, .inr hI8⟩, ?_⟩
            rw [hI8, HI.out]
            simp
      · have hnx := fun T => run_next1_end (P := Tryz.prog) (T := T) hIx hinx
        clear hIx hinx
        go_wp2
        go_ret
        exact ⟨b, rfl, hBx⟩
end Go.Proofs.YthhbiliimdpgmaaGreatDoor
