/- Plain law: ranges cleaned (the right ones, in order, overlapping or touching ones joined) name the same ids. -/
import Derived.Test.YthhbiliimdpgmaaGreatDoorM01
import Derived.Test.YthhbiliimdpgmaaGreatDoorM02
import Derived.Shelf.SlSortCmp.NoneTotal
namespace Go.Proofs.YthhbiliimdpgmaaGreatDoor

def hasRngs (l : List QRng) (i : QId) : Bool := i.rightB && l.any fun r => r.hasB i
/-- one more range behind the joined ones. -/
def mergeRng (out : List QRng) (r : QRng) : List QRng :=
  match out.getLast? with
  | some x => if x.c = r.c ∧ r.a ≤ x.b then out.dropLast ++ [⟨x.c, x.a, max x.b r.b⟩] else out ++ [r]
  | none => [r]
def joinRngs (l : List QRng) : List QRng := l.foldl mergeRng []

def anyHas (l : List QRng) (i : QId) : Bool := l.any fun r => r.hasB i

/-- the last one may be joined with what comes behind it. -/
theorem hasB_join {x r : QRng} {i : QId} (hx : x.rightB = true) (hr : r.rightB = true) (hc : x.c = r.c) (ha : x.a ≤ r.a) (hb : r.a ≤ x.b) :
    (⟨x.c, x.a, max x.b r.b⟩ : QRng).rightB = true ∧ (⟨x.c, x.a, max x.b r.b⟩ : QRng).hasB i = (x.hasB i || r.hasB i) := by
  have hR : (⟨x.c, x.a, max x.b r.b⟩ : QRng).rightB = true := by
    simp [QRng.rightB, numB] at *; omega
  refine ⟨hR, ?_⟩
  unfold QRng.hasB
  rw [hR, hx, hr, Bool.eq_iff_iff]
  simp
  omega

/-- what is kept while the joined ones grow: all right, the last one's beginning no later than what is still to come of its client. -/
def Joined (out rest : List QRng) : Prop := (∀ r ∈ out, r.rightB = true) ∧ (∀ r ∈ rest, r.rightB = true) ∧ ∀ x, out.getLast? = some x → ∀ r ∈ rest, x.c = r.c → x.a ≤ r.a

theorem merge_step {out : List QRng} {r : QRng} {rest : List QRng} {i : QId} (hJ : Joined out (r :: rest)) (hs : ∀ y ∈ rest, r.c = y.c → r.a ≤ y.a) :
    Joined (mergeRng out r) rest ∧ anyHas (mergeRng out r) i = (anyHas out i || r.hasB i) := by
  obtain ⟨h1, h2, h3⟩ := hJ
  have hr := h2 r (by simp)
  unfold mergeRng
  cases hl : out.getLast? with
  | none =>
    have : out = [] := by simpa using hl
    subst this
    refine ⟨⟨by simpa using hr, fun y hy => h2 y (by simp [hy]), ?_⟩, by simp [anyHas]⟩
    intro x hx y hy hc
    obtain rfl : r = x := by simpa using hx
    exact hs y hy hc
  | some x =>
    have ho : out = out.dropLast ++ [x] := by
      obtain ⟨ys, hys⟩ := List.getLast?_eq_some_iff.1 hl
      rw [hys]; simp
    dsimp only
    split
    · rename_i hc
      have hx : x.rightB = true := h1 x (List.mem_of_getLast? hl)
      have hj := hasB_join (i := i) hx hr hc.1 (h3 x hl r (by simp) hc.1) hc.2
      refine ⟨⟨?_, fun y hy => h2 y (by simp [hy]), ?_⟩, ?_⟩
      · intro y hy
        rcases List.mem_append.1 hy with hy | hy
        · exact h1 y ((List.dropLast_sublist out).subset hy)
        · obtain rfl : y = _ := by simpa using hy
          exact hj.1
      · intro z hz y hy hcc
        obtain rfl : _ = z := by simpa using hz
        exact h3 x hl y (by simp [hy]) hcc
      · rw [show anyHas out i = anyHas (out.dropLast ++ [x]) i by rw [← ho]]
        simp [anyHas, hj.2, Bool.or_assoc]
    · refine ⟨⟨?_, fun y hy => h2 y (by simp [hy]), ?_⟩, ?_⟩
      · intro y hy
        rcases List.mem_append.1 hy with hy | hy
        · exact h1 y hy
        · obtain rfl : y = _ := by simpa using hy
          exact hr
      · intro z hz y hy hcc
        obtain rfl : r = z := by simpa using hz
        exact hs y hy hcc
      · simp [anyHas]

theorem join_from {i : QId} : ∀ (l out : List QRng), Joined out l → l.Pairwise (fun x y => x.c = y.c → x.a ≤ y.a) → anyHas (l.foldl mergeRng out) i = (anyHas out i || anyHas l i)
  | [], out, _, _ => by simp [anyHas]
  | r :: l, out, hJ, hp => by
    obtain ⟨hp1, hp2⟩ := List.pairwise_cons.1 hp
    obtain ⟨hJ', he⟩ := merge_step (i := i) hJ hp1
    rw [List.foldl_cons, join_from l _ hJ' hp2, he, Bool.or_assoc]
    simp [anyHas]

theorem mergeRng_length (out : List QRng) (r : QRng) : (mergeRng out r).length ≤ out.length + 1 := by
  unfold mergeRng
  split
  · split
    · simp
    · simp
  · simp
theorem merge_length : ∀ (l out : List QRng), (l.foldl mergeRng out).length ≤ out.length + l.length
  | [], out => by simp
  | r :: l, out => by
    rw [List.foldl_cons, List.length_cons]
    have := merge_length l (mergeRng out r)
    have := mergeRng_length out r
    omega
theorem joinRngs_length (l : List QRng) : (joinRngs l).length ≤ l.length := by
  have := merge_length l []
  simpa [joinRngs] using this

theorem anyHas_right (l : List QRng) (i : QId) : anyHas (l.filter QRng.rightB) i = anyHas l i := by
  unfold anyHas
  rw [List.any_filter]
  congr 1
  funext r
  unfold QRng.hasB
  cases r.rightB <;> simp

theorem anyHas_perm {l l' : List QRng} (h : l.Perm l') (i : QId) : anyHas l i = anyHas l' i := by
  unfold anyHas
  rw [Bool.eq_iff_iff, List.any_eq_true, List.any_eq_true]
  exact ⟨fun ⟨x, hx, hh⟩ => ⟨x, h.mem_iff.1 hx, hh⟩, fun ⟨x, hx, hh⟩ => ⟨x, h.mem_iff.2 hx, hh⟩⟩

theorem cmpU_lt {x y : Int} : cmpU x y < 0 ↔ x < y := by unfold cmpU; split <;> (try split) <;> omega
theorem cmpU_zero {x y : Int} : cmpU x y = 0 ↔ x = y := by unfold cmpU; split <;> (try split) <;> omega
theorem rngCmp_lt {x y : QRng} : x.cmp y < 0 ↔ x.c < y.c ∨ (x.c = y.c ∧ x.a < y.a) := by
  unfold QRng.cmp orI
  by_cases h : x.c = y.c
  · have : cmpU y.c y.c = 0 := cmpU_zero.2 rfl
    simp [h, this, cmpU_lt]
  · have h0 : cmpU x.c y.c ≠ 0 := fun e => h (cmpU_zero.1 e)
    simp [h0, cmpU_lt, h]

/-- in the order of clients and beginnings. -/
def SortedRngs (d : List QRng) : Prop := d.Pairwise (fun x y => ¬ y.cmp x < 0)

/-- sorted right ranges, joined, name the ids of the list. -/
theorem join_has {l d : List QRng} (hp : d.Perm (l.filter QRng.rightB)) (hs : SortedRngs d) (i : QId) : hasRngs (joinRngs d) i = hasRngs l i := by
  have hr : ∀ r ∈ d, r.rightB = true := fun r hr => (List.mem_filter.1 (hp.mem_iff.1 hr)).2
  have hs' : d.Pairwise (fun x y => x.c = y.c → x.a ≤ y.a) := hs.imp fun {x y} h hc => by
    rw [rngCmp_lt] at h
    omega
  have := join_from (i := i) d [] ⟨by simp, hr, by simp⟩ hs'
  have e : anyHas (joinRngs d) i = anyHas l i := by
    rw [joinRngs, this, anyHas_perm hp, anyHas_right]; simp [anyHas]
  unfold hasRngs
  exact congrArg (i.rightB && ·) e
end Go.Proofs.YthhbiliimdpgmaaGreatDoor
/- The library's sort at ranges, on an owned row. -/
namespace Go.Proofs.YthhbiliimdpgmaaGreatDoor
open Go.RowKit Go.Shelf Go.Sort

theorem rng_swo : SWO (ltOf QRng.cmp) where
  irrefl x := by unfold ltOf; simp [rngCmp_lt]
  trans x y z h1 h2 := by unfold ltOf at *; simp [rngCmp_lt] at *; omega
  ntrans x y z h1 h2 := by unfold ltOf at *; simp only [decide_eq_false_iff_not, rngCmp_lt] at *; omega

theorem rng_cmpLays (blk off size : Nat) (w : World) : CmpLays Tryz.prog 87 #[] encRng 3 QRng.cmp blk off size w :=
  fun _ _ _ _ x y => rngCmp_any x y _

theorem encRng_one (x : QRng) : ∀ v ∈ encRng x, v.oneCell' = true := by
  intro v hv; simp [encRng] at hv; rcases hv with rfl | rfl | rfl <;> rfl

theorem sortRng_any (base : Nat) (v : Value) (l : List QRng) (W : World) (h : OwnAt base 95 3 encRng W v l) (hl : l.length * 24 ≤ 140737488355328) :
    Calls Tryz.prog 86 #[v, .func (.func 87) #[] #[]] W fun e w' => e = .returned (.tuple #[]) ∧ ∃ d : List QRng, d.Perm l ∧ SortedRngs d ∧ OwnAt base 95 3 encRng w' v d ∧ W.grownBy w' v.ownBlock := by
  have h' := h
  rcases h'.2 with ⟨rfl, h0⟩ | ⟨g, cap, cur, rfl, _⟩
  · have hl0 : l = [] := List.eq_nil_of_length_eq_zero h0
    subst hl0
    refine (AnyF.slices_SortFunc_none { Tryz.sortRng with } none 0 (.func (.func 87) #[] #[]) W).mono ?_
    rintro e w' ⟨he, rfl⟩
    exact ⟨he, [], List.Perm.refl _, (List.Pairwise.nil : SortedRngs []), h, ⟨rfl, rfl, rfl, Nat.le_refl _, fun _ _ _ => rfl⟩⟩
  · obtain ⟨_, _, hg, hb, hH⟩ := OwnAt.holds (k := 3) (enc := encRng) (fun _ => rfl) h
    have eg : ∀ args w, (callFunc 87 args).run Tryz.prog w = .ok (.enter 87 args) w := enters_of Tryz.func87 (by kernel_rfl) rfl
    have hcon := AnyQ.slices_SortFunc Tryz.sortRng 3 (fun w => by kernel_rfl) (fun w => by kernel_rfl) encRng (fun _ => rfl) encRng_one QRng.cmp rng_swo 87 #[] g 0 cap l.toArray W eg (rng_cmpLays g 0 _ W) hH hg (by simp; omega)
    refine hcon.mono ?_
    rintro e w' ⟨he, d', n, os, hp, hs, rfl⟩
    have hsz : d'.size = l.length := by simpa using hp.1
    obtain ⟨h1, h2⟩ := OwnAt.sorted (k := 3) (enc := encRng) (m := n) (os := os) (fun _ => rfl) h hsz
    refine ⟨he, d'.toList, ?_, ?_, h1, h2⟩
    · have := hp.2.2
      rw [show l.toArray.size = d'.size by simp [hsz], Array.extract_size] at this
      simp at this
      rwa [List.take_of_length_le (by omega)] at this
    · unfold SortedRngs
      rw [List.pairwise_iff_getElem]
      intro i j hi hj hij
      have := hs i j (Nat.zero_le _) hij (by simpa [← hsz] using hj)
      unfold ltOf at this
      simp at hi hj
      simpa [hi, hj] using this
end Go.Proofs.YthhbiliimdpgmaaGreatDoor
