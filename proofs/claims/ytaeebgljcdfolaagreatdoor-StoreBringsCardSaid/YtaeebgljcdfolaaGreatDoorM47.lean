/-
  Proved: quirelaw10.StoreBrings returns true for every input, and its arguments read behind the call as they read before. Condition: the two listed tables of the library (unicode/utf8.acceptRanges, unicode/utf8.first) read as the program's text lays them; the card ties them to it.
-/
import Derived.Test.YtaeebgljcdfolaaGreatDoorM44
import Derived.SliceStrings
import Derived.Test.YtaeebgljcdfolaaGreatDoorM46
import Derived.Test.YtaeebgljcdfolaaGreatDoorTie
import Derived.Test.YtaeebgljcdfolaaGreatDoorCards
import Derived.WalkKit
import Derived.ProofKit
import Derived.Lib.LaidU8T
import Derived.Lay
import Derived.SevenTiedAt
/- Arguments that came in, as lists: slices of strings, of whole numbers (as XArgs, for rows without values). -/
namespace Go.Proofs.YtaeebgljcdfolaaGreatDoor
open Go.ChangeShapes Go.WideShapes Go.Deep Go.RowKit

/-- an address of which a cell is known. -/
theorem spot_of {w : World} {a : Addr} {v : Value} (h : w.cell? (a.add 0) = some v) : ∃ b off, a = ⟨b, off, none⟩ ∧ b < w.heap.size := by
  have h' : w.cell? a = some v := by simpa [Addr.add] using h
  obtain ⟨b, off, spot⟩ := a
  have hs : spot = none := World.cell?_spot h'
  subst hs
  exact ⟨b, off, rfl, World.block_lt_of_cell? w _ h'⟩
theorem sliceP_ints {H : Type} {enc : TypeId × Value → H} {w : World} {base : Nat} {spare : Nat → Bool} {held : Bool} {fuel : Nat} {t e : TypeId} {k : IntKind} {a : Option Addr} {len cap : Nat} {x : DataW H × List MemPlace}
    (ht : Tryz.prog.underlying t = some (.slice e)) (he : Tryz.prog.underlying e = some (.int k)) (hc : Tryz.prog.cellsOf e = 1) (h : DataW.trod enc Tryz.prog w base spare held fuel t (Value.slice a len cap).cells.toList = some x) :
    ∃ zs : List Int, SliceP 1 (fun n => [.int k n]) w (.slice a len cap) zs ∧ ∀ z ∈ zs, (Lit.int k z).wf = true := by
  rcases open_ints ht he hc h with ⟨hcs, _⟩ | ⟨y, l, c, zs, hcs, _, hl, hm, hz, _, hcell, hwz⟩
  · simp [Value.cells] at hcs
    obtain ⟨rfl, rfl, rfl⟩ := hcs
    exact ⟨[], ⟨none, 0, rfl, by simp, by simp⟩, by simp⟩
  · simp [Value.cells] at hcs
    obtain ⟨rfl, rfl, rfl⟩ := hcs
    have hzl : len ≤ zs.length := by rw [hz]; split <;> omega
    refine ⟨zs.take len, ⟨_, cap, by rw [List.length_take, Nat.min_eq_left hzl], ?_, fun j z hj => ?_⟩, fun z hz' => hwz z (List.mem_of_mem_take hz')⟩
    · rw [List.length_take, Nat.min_eq_left hzl]
      unfold maxLen at hm; omega
    · have hjl : j < len := by have := (List.getElem?_eq_some_iff.1 hj).1; rw [List.length_take] at this; omega
      have hc := hcell j (by omega)
      obtain ⟨b, off, rfl, hb⟩ := spot_of (hcell 0 (by omega))
      rw [List.getElem?_take_of_lt hjl] at hj
      refine ⟨b, off, rfl, hb, fun i u hi => ?_⟩
      cases i with
      | zero =>
        obtain rfl : Value.int k z = u := by simpa using hi
        rw [Addr.add_lit] at hc
        rw [Nat.mul_one, Nat.add_zero, hc]
        simp [List.getD, hj]
      | succ i => simp at hi
theorem sliceP_strs {H : Type} {enc : TypeId × Value → H} {w : World} {base : Nat} {spare : Nat → Bool} {held : Bool} {fuel : Nat} {t e : TypeId} {a : Option Addr} {len cap : Nat} {x : DataW H × List MemPlace}
    (ht : Tryz.prog.underlying t = some (.slice e)) (he : Tryz.prog.underlying e = some .string) (hc : Tryz.prog.cellsOf e = 1) (h : DataW.trod enc Tryz.prog w base spare held fuel t (Value.slice a len cap).cells.toList = some x) :
    ∃ ss : List ByteArray, SliceP 1 encS w (.slice a len cap) ss ∧ ∀ s ∈ ss, s.size ≤ maxLen := by
  rcases open_strings ht he hc h with ⟨hcs, _⟩ | ⟨y, l, c, ss, hcs, _, hl, hm, hz, _, hcell, hws⟩
  · simp [Value.cells] at hcs
    obtain ⟨rfl, rfl, rfl⟩ := hcs
    exact ⟨[], ⟨none, 0, rfl, by simp, by simp⟩, by simp⟩
  · simp [Value.cells] at hcs
    obtain ⟨rfl, rfl, rfl⟩ := hcs
    have hzl : len ≤ ss.length := by rw [hz]; split <;> omega
    refine ⟨ss.take len, ⟨_, cap, by rw [List.length_take, Nat.min_eq_left hzl], ?_, fun j z hj => ?_⟩, fun z hz' => hws z (List.mem_of_mem_take hz')⟩
    · rw [List.length_take, Nat.min_eq_left hzl]
      unfold maxLen at hm; omega
    · have hjl : j < len := by have := (List.getElem?_eq_some_iff.1 hj).1; rw [List.length_take] at this; omega
      have hc := hcell j (by omega)
      obtain ⟨b, off, rfl, hb⟩ := spot_of (hcell 0 (by omega))
      rw [List.getElem?_take_of_lt hjl] at hj
      refine ⟨b, off, rfl, hb, fun i u hi => ?_⟩
      cases i with
      | zero =>
        obtain rfl : Value.string z = u := by simpa [encS] using hi
        rw [Addr.add_lit] at hc
        rw [Nat.mul_one, Nat.add_zero, hc]
        simp [List.getD, hj]
      | succ i => simp [encS] at hi
end Go.Proofs.YtaeebgljcdfolaaGreatDoor
namespace Go.Proofs.YtaeebgljcdfolaaGreatDoor.storeBrings
open Go.ChangeShapes Go.WideShapes Go.ChangeAt Go.RowKit Go.Shelf Go.Lib

theorem own : ownKnob Tryz.prog.godebug = none := by kernel_rfl
theorem laidOut : laidOutB Tryz.prog = true := by kernel_rfl
set_option maxRecDepth 100000 in
theorem first_eq : Rows.laid_unicode_utf8_first = firstData := by kernel_rfl
set_option maxRecDepth 100000 in
theorem accept_eq : (Rows.laid_unicode_utf8_acceptRanges : DataW Unit) = acceptData := by kernel_rfl

set_option maxRecDepth 100000 in
theorem lifted (os : Os) (started : os.Started) (H : Type) (enc : TypeId × Value → H) :
    ReturnsInHanded {} Tryz.checked os 3 .any (fun w args => (Rows.storeBringsSpec.pre enc Tryz.prog Tryz.f3 [] false w args ∧ laidMetH Tryz.prog Rows.storeBringsRow.laid w) ∧ sizedMet enc Tryz.prog Tryz.f3 (OpenSpec.ofChange Rows.storeBringsSpec) false w args)
      (Rows.storeBringsSpec.post enc Tryz.prog Tryz.f3 false true false false) := by
  refine returnsInHanded_of_change_and (C := Tryz.checked) (X := fun w _ => laidMetH Tryz.prog Rows.storeBringsRow.laid w) (fun _ _ _ hh h => h.of_heap hh) own started (by kernel_rfl) Tryz.func3
    (ChangeSpec.witness_shaped (enc := enc) (C := Tryz.checked) (os := os) (X := fun w _ => laidMetH Tryz.prog Rows.storeBringsRow.laid w) false (World.laidAll Tryz.prog os Rows.storeBringsRow.laid) #[.slice none 0 0, .slice none 0 0] 8 (World.laidAll_os _ _ _)
      (World.shaped_of_ZipB (by kernel_rfl) (by kernel_rfl)) (by kernel_rfl) (by kernel_rfl) (by kernel_rfl)
      (by rw [MakeChecks.laidMetH_plain _ _ _ (by kernel_rfl)]; exact laidMet_laidAll _ (by kernel_rfl) (by kernel_rfl))) ?_
  intro W base args ds gs before hval0 hW _ _ hL _
  have hval : ∀ (j : Nat) t v, Tryz.f3.params[j]? = some t → args[j]? = some v → Value.okWide Tryz.prog W .any base t v := hval0
  have hW' := hW
  obtain ⟨p, q, hA0, hV, rfl, _, _⟩ := hW
  have hA : DataW.TrodAll enc Tryz.prog W 0 (fun _ => true) true Tryz.f3.params.toList args.toList ds p := hA0
  rw [Tryz.params3] at hA hval
  obtain ⟨v0, vs0, d0, ds0, p0, q0, hargs, rfl, rfl, h0, r0⟩ := trodAll_cons hA
  obtain ⟨v1, vs1, d1, ds1, p1, q1, rfl, rfl, rfl, h1, r1⟩ := trodAll_cons r0
  obtain ⟨rfl, rfl, rfl⟩ := trodAll_nil r1
  obtain rfl : args = #[v0, v1] := by cases args; simp_all
  obtain ⟨rfl, rfl⟩ := trodVars_none hV
  obtain ⟨a0, len0, cap0, rfl⟩ := okWide_slice Tryz.underlying22 (hval 0 22 v0 rfl rfl)
  obtain ⟨a1, len1, cap1, rfl⟩ := okWide_slice Tryz.underlying23 (hval 1 23 v1 rfl rfl)
  have k0 := h0
  have k1 := h1
  have lt0 : ∀ x ∈ p0, x.block < W.heap.size := by obtain ⟨m, hm⟩ := k0; exact DataW.trod_lt m _ _ _ hm
  have lt1 : ∀ x ∈ p1, x.block < W.heap.size := by obtain ⟨m, hm⟩ := k1; exact DataW.trod_lt m _ _ _ hm
  obtain ⟨ss, hs, hsz⟩ : ∃ ss : List ByteArray, SliceP 1 encS W (.slice a0 len0 cap0) ss ∧ ∀ s ∈ ss, s.size ≤ 9223372036854775807 := by
    obtain ⟨fuel, hf⟩ := h0
    obtain ⟨ss, hs, hw⟩ := sliceP_strs Tryz.underlying22 Tryz.underlying9 (by kernel_rfl) hf
    exact ⟨ss, hs, fun s h => by have := hw s h; unfold maxLen at this; omega⟩
  obtain ⟨zs, hz, hzr⟩ : ∃ zs : List Int, SliceP 1 encU16 W (.slice a1 len1 cap1) zs ∧ ∀ z ∈ zs, 0 ≤ z ∧ z < 65536 := by
    obtain ⟨fuel, hf⟩ := h1
    obtain ⟨zs, hz, hw⟩ := sliceP_ints Tryz.underlying23 Tryz.underlying40 (by kernel_rfl) hf
    exact ⟨zs, hz, fun z hz' => by have := hw z hz'; simp [Lit.wf] at this; have h1 : IntKind.u16.min = 0 := (by decide); have h2 : IntKind.u16.max = 65535 := (by decide); omega⟩
  clear hA0 hval0
  rw [MakeChecks.laidMetH_plain _ _ _ (by kernel_rfl)] at hL
  have hT : Tabs W := utf8Tabs_of_readsT (U8Types.of196 Tryz.valid) ⟨by kernel_rfl, by kernel_rfl, by kernel_rfl, by kernel_rfl, by kernel_rfl, by kernel_rfl, by kernel_rfl⟩
    (first_eq ▸ Lib.laidMet.reads hL (.tail _ (.head _))) (accept_eq ▸ Lib.laidMet.reads hL (.head _))
  refine (storeBrings_any _ _ ss zs W hT hs hz hzr hsz).mono fun e W' ⟨he, bel⟩ => ?_
  subst he
  exact ⟨_, rfl, _, _, _, [], _, [], hW', trodAll_mk1 (shut_bool Tryz.underlying4 _), (trodAll_cons_mk (Below.trod laidOut (by kernel_rfl) (of_decide_eq_true (by kernel_rfl)) k0 bel lt0) (trodAll_cons_mk (Below.trod laidOut (by kernel_rfl) (of_decide_eq_true (by kernel_rfl)) k1 bel lt1) trodAll_mk0)), rfl, bel.frame _, fun h => by cases h⟩

theorem holds : Rows.StoreBringsSaid :=
  OpenClaim.holds_of_wide 3 Tryz.f3 rfl rfl rfl rfl rfl rfl rfl ⟨rfl, rfl, rfl, rfl, rfl⟩ rfl rfl rfl rfl rfl (by kernel_rfl) Tryz.func3 (by kernel_rfl)
    (of_decide_eq_true (by kernel_rfl)) (by unfold Func.isWrapper; first | (rw [if_pos (by decide +kernel)]; kernel_rfl) | (rw [if_neg (by decide +kernel)]; exact ⟨rfl, rfl⟩))
    (fun os started H enc _ => lifted os started H enc)

/-- THE CARD -/
theorem proved : Rows.StoreBringsCardSaid :=
  Claim7.holds_tied_plain_at .later [] [.data, .pinned] true (true, "fe438d4a9d0a6aec95a5215cb1f5552b9e0f1b638b2608e8f53bf358339dc9ca") false holds (fun _ h => by cases h) (by kernel_rfl) (fun _ h => by cases h) storeBrings_row_tie rfl ⟨rfl, rfl⟩ (by kernel_rfl) rfl
    (fun f fn hf hfn => by
      obtain rfl : f = 3 := Option.some.inj ((show Tryz.prog.funcNamed "quire/quirelaw10.StoreBrings" = some 3 by kernel_rfl).symm.trans hf) |>.symm
      obtain rfl : fn = Tryz.f3 := (Option.some.inj (Tryz.func3.symm.trans hfn)).symm
      exact ⟨by kernel_rfl, fun j t ht => by
        rw [Tryz.params3] at ht
        have hm : t ∈ [22, 23] := by simpa using Array.mem_of_getElem? ht
        have hall : ([22, 23].all fun u => !Tryz.prog.wantsStandIn u) = true := by kernel_rfl
        exact (show Tryz.prog.wantsStandIn t = false by simpa using List.all_eq_true.1 hall t hm)⟩)
    (by kernel_rfl)
#print axioms proved
end Go.Proofs.YtaeebgljcdfolaaGreatDoor.storeBrings
