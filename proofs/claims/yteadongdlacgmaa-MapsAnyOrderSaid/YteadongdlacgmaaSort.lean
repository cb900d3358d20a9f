/- The library's sort at ranges, on an owned row. -/
import Derived.Test.YteadongdlacgmaaOwn
import Derived.Test.YteadongdlacgmaaLay
import Derived.Test.YteadongdlacgmaaCleanLaw
import Derived.Shelf.SlSortCmp.NoneTotal
namespace Go.Proofs.Yteadongdlacgmaa
open Go.RowKit Go.Shelf Go.Sort

theorem rng_swo : SWO (ltOf QRng.cmp) where
  irrefl x := by unfold ltOf; simp [rngCmp_lt]
  trans x y z h1 h2 := by unfold ltOf at *; simp [rngCmp_lt] at *; omega
  ntrans x y z h1 h2 := by unfold ltOf at *; simp only [decide_eq_false_iff_not, rngCmp_lt] at *; omega

theorem rng_cmpLays (blk off size : Nat) (w : World) : CmpLays Try.prog 41 #[] encRng 3 QRng.cmp blk off size w :=
  fun _ _ _ _ x y => rngCmp_any x y _

theorem encRng_one (x : QRng) : ∀ v ∈ encRng x, v.oneCell' = true := by
  intro v hv; simp [encRng] at hv; rcases hv with rfl | rfl | rfl <;> rfl

theorem sortRng_any (base : Nat) (v : Value) (l : List QRng) (W : World) (h : OwnAt base 54 3 encRng W v l) (hl : l.length * 24 ≤ 140737488355328) :
    Calls Try.prog 40 #[v, .func (.func 41) #[] #[]] W fun e w' => e = .returned (.tuple #[]) ∧ ∃ d : List QRng, d.Perm l ∧ SortedRngs d ∧ OwnAt base 54 3 encRng w' v d ∧ W.grownBy w' v.ownBlock := by
  have h' := h
  rcases h'.2 with ⟨rfl, h0⟩ | ⟨g, cap, cur, rfl, _⟩
  · have hl0 : l = [] := List.eq_nil_of_length_eq_zero h0
    subst hl0
    refine (AnyF.slices_SortFunc_none { Try.sortRng with } none 0 (.func (.func 41) #[] #[]) W).mono ?_
    rintro e w' ⟨he, rfl⟩
    exact ⟨he, [], List.Perm.refl _, (List.Pairwise.nil : SortedRngs []), h, ⟨rfl, rfl, rfl, Nat.le_refl _, fun _ _ _ => rfl⟩⟩
  · obtain ⟨_, _, hg, hb, hH⟩ := OwnAt.holds (k := 3) (enc := encRng) (fun _ => rfl) h
    have eg : ∀ args w, (callFunc 41 args).run Try.prog w = .ok (.enter 41 args) w := enters_of Try.func41 (by kernel_rfl) rfl
    have hcon := AnyQ.slices_SortFunc Try.sortRng 3 (fun w => by kernel_rfl) (fun w => by kernel_rfl) encRng (fun _ => rfl) encRng_one QRng.cmp rng_swo 41 #[] g 0 cap l.toArray W eg (rng_cmpLays g 0 _ W) hH hg (by simp; omega)
    refine hcon.mono ?_
    rintro e w' ⟨he, d', n, os, hp, hs, rfl⟩
    have hsz : d'.size = l.length := by simpa using hp.1
    obtain ⟨h1, h2⟩ := OwnAt.sorted (k := 3) (enc := encRng) (m := n) (os := os) (fun _ => rfl) h hsz
    refine ⟨he, d'.toList, ?_, ?_, h1, h2⟩
    · have := hp.2.2
      rw [show l.toArray.size = d'.size by simp [hsz], Array.extract_size] at this
      simp at this
      rwa [List.take_of_length_le (by omega)] at this
    · unfold SortedRngs
      rw [List.pairwise_iff_getElem]
      intro i j hi hj hij
      have := hs i j (Nat.zero_le _) hij (by simpa [← hsz] using hj)
      unfold ltOf at this
      simp at hi hj
      simpa [hi, hj] using this
end Go.Proofs.Yteadongdlacgmaa
