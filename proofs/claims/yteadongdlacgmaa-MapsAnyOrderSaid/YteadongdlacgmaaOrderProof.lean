/-
  Proved: quirelaw12.MapsAnyOrder returns true for every input, and its arguments read behind the call as they read before. No condition.
-/
import Derived.Test.YteadongdlacgmaaOrder
import Derived.WalkKit
import Derived.ProofKit
import Derived.OpenShut
namespace Go.Proofs.Yteadongdlacgmaa.mapsAnyOrder
open Go.ChangeShapes Go.WideShapes Go.ChangeAt Go.RowKit

theorem own : ownKnob Try.prog.godebug = none := by kernel_rfl
theorem laidOut : laidOutB Try.prog = true := by kernel_rfl

set_option maxRecDepth 100000 in
theorem lifted (os : Os) (started : os.Started) (H : Type) (enc : TypeId × Value → H) :
    ReturnsInHanded {} Try.checked os 3 .any (Rows.mapsAnyOrderSpec.pre6 enc Try.prog Try.f3 Rows.mapsAnyOrderRow.domain false) (Rows.mapsAnyOrderSpec.post enc Try.prog Try.f3 false true false false) := by
  refine returnsInHanded_of_change (C := Try.checked) own started (by kernel_rfl) Try.func3
    (ChangeSpec.witness6 (enc := enc) (C := Try.checked) false ⟨#[], #[.slice none 0 0, .slice none 0 0, .slice none 0 0], []⟩ 8 (by kernel_rfl) (by kernel_rfl) (by kernel_rfl) (by kernel_rfl)) ?_
  intro W base args ds gs before hval0 hW hcnd _
  have hval : ∀ (j : Nat) t v, Try.f3.params[j]? = some t → args[j]? = some v → Value.okWide Try.prog W .any base t v := hval0
  have hW' := hW
  obtain ⟨p, q, hA0, hV, rfl, hfz, hnd⟩ := hW
  have hA : DataW.TrodAll enc Try.prog W 0 (fun _ => true) true Try.f3.params.toList args.toList ds p := hA0
  rw [Try.params3] at hA hval
  obtain ⟨v0, vs0, d0, ds0, p0, q0, hargs, rfl, rfl, h0, r0⟩ := trodAll_cons hA
  obtain ⟨v1, vs1, d1, ds1, p1, q1, rfl, rfl, rfl, h1, r1⟩ := trodAll_cons r0
  obtain ⟨v2, vs2, d2, ds2, p2, q2, rfl, rfl, rfl, h2, r2⟩ := trodAll_cons r1
  obtain ⟨rfl, rfl, rfl⟩ := trodAll_nil r2
  obtain rfl : args = #[v0, v1, v2] := by cases args; simp_all
  obtain ⟨rfl, rfl⟩ := trodVars_none hV
  have ok2 := hval 2 24 v2 rfl rfl
  obtain ⟨a0, len0, cap0, rfl⟩ := okWide_slice Try.underlying22 (hval 0 22 v0 rfl rfl)
  obtain ⟨a1, len1, cap1, rfl⟩ := okWide_slice Try.underlying23 (hval 1 23 v1 rfl rfl)
  obtain ⟨a2, len2, cap2, rfl⟩ := okWide_slice Try.underlying24 ok2
  have k0 := h0
  have k1 := h1
  have k2 := h2
  have lt0 : ∀ x ∈ p0, x.block < W.heap.size := by obtain ⟨m, hm⟩ := k0; exact DataW.trod_lt m _ _ _ hm
  have lt1 : ∀ x ∈ p1, x.block < W.heap.size := by obtain ⟨m, hm⟩ := k1; exact DataW.trod_lt m _ _ _ hm
  have lt2 : ∀ x ∈ p2, x.block < W.heap.size := by obtain ⟨m, hm⟩ := k2; exact DataW.trod_lt m _ _ _ hm
  obtain ⟨zs, hz, hzr⟩ : ∃ zs : List Int, SliceP 1 (fun n => [.int .u16 n]) W (.slice a0 len0 cap0) zs ∧ ∀ z ∈ zs, 0 ≤ z ∧ z < 65536 := by
    obtain ⟨fuel, hf⟩ := h0
    obtain ⟨zs, hz, hw⟩ := sliceP_ints Try.underlying22 Try.underlying52 (by kernel_rfl) hf
    exact ⟨zs, hz, fun z hz' => by have := hw z hz'; simp [Lit.wf] at this; have h1 : IntKind.u16.min = 0 := (by decide); have h2 : IntKind.u16.max = 65535 := (by decide); omega⟩
  obtain ⟨ts, ht, htr⟩ : ∃ zs : List Int, SliceP 1 encU8i W (.slice a1 len1 cap1) zs ∧ ∀ z ∈ zs, 0 ≤ z ∧ z < 256 := by
    obtain ⟨fuel, hf⟩ := h1
    obtain ⟨zs, hz, hw⟩ := sliceP_ints Try.underlying23 Try.underlying5 (by kernel_rfl) hf
    exact ⟨zs, hz, fun z hz' => by have := hw z hz'; simp [Lit.wf] at this; have h1 : IntKind.u8.min = 0 := (by decide); have h2 : IntKind.u8.max = 255 := (by decide); omega⟩
  obtain ⟨rs, hr⟩ : ∃ rs : List QRng, SliceAt 3 encRng W (.slice a2 len2 cap2) rs := by
    obtain ⟨fuel, hf⟩ := h2
    exact sliceAt_rngs ok2 hf
  clear hA0 hval0
  refine (order_any _ _ _ zs ts rs W hz hzr ht htr hr).mono fun e W' ⟨he, bel⟩ => ?_
  subst he
  exact ⟨_, rfl, _, _, _, [], _, [], hW', trodAll_mk1 (shut_bool Try.underlying4 _), (trodAll_cons_mk (Below.trod laidOut (by kernel_rfl) (of_decide_eq_true (by kernel_rfl)) k0 bel lt0) (trodAll_cons_mk (Below.trod laidOut (by kernel_rfl) (of_decide_eq_true (by kernel_rfl)) k1 bel lt1) (trodAll_cons_mk (Below.trod laidOut (by kernel_rfl) (of_decide_eq_true (by kernel_rfl)) k2 bel lt2) trodAll_mk0))), rfl, bel.frame _, fun h => by cases h⟩

theorem over : Rows.mapsAnyOrderRow.holds Try.pinned (OpenSpec.ofChange Rows.mapsAnyOrderSpec) :=
  OpenClaim.holds_of_wide 3 Try.f3 rfl rfl rfl rfl rfl rfl rfl ⟨rfl, rfl, rfl, rfl, rfl⟩ rfl rfl rfl rfl rfl (by kernel_rfl) Try.func3 (by kernel_rfl)
    (of_decide_eq_true (by kernel_rfl)) (by unfold Func.isWrapper; first | (rw [if_pos (by decide +kernel)]; kernel_rfl) | (rw [if_neg (by decide +kernel)]; exact ⟨rfl, rfl⟩))
    (fun os started H enc _ => lifted os started H enc)

/-- THE STATEMENT -/
theorem proved : Rows.MapsAnyOrderSaid := over
#print axioms proved
end Go.Proofs.Yteadongdlacgmaa.mapsAnyOrder
