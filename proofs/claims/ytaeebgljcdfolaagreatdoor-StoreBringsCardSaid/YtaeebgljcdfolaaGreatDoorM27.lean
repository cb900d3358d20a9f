/- Walks: slices.Sort of at most 12 numbers (insertion). -/
import Derived.Test.YtaeebgljcdfolaaGreatDoorM22
import Derived.Test.YtaeebgljcdfolaaGreatDoorM11
import Derived.RegionTactic
import Derived.ChangeAlike
namespace Go.Proofs.YtaeebgljcdfolaaGreatDoor
open Go.RowKit Go.Lib

def encU (c : Int) : List Value := [.int .u64 c]
theorem infoU : (Tryz.prog.info? 26).map (fun i => (i.zero, i.size, i.bytes)) = some (some (.int .u64 0), 1, 8) := by kernel_rfl
set_option maxHeartbeats 400000 in
theorem lessU_any (x y : Int) (w : World) :
    Calls Tryz.prog 129 #[.int .u64 x, .int .u64 y] w fun e w' => e = .returned (.bool (decide (x < y))) ∧ w = w' := by
  go_enter Tryz.func129, Tryz.ntmps129
  go_wp2_with go_in
  all_goals go_ret
  all_goals exact ⟨ret_bool (by simp_all), rfl⟩

/-- in order, but for what stands at j among the first m. -/
def SortedBut (l : List Int) (m j : Nat) : Prop := ∀ a b, a < b → b < m → b ≠ j → l.getD a 0 ≤ l.getD b 0
def SortedTo (l : List Int) (m : Nat) : Prop := ∀ a b, a < b → b < m → l.getD a 0 ≤ l.getD b 0
/-- one exchange with the one ahead. -/
def swapAt (l : List Int) (j : Nat) : List Int := (l.set j (l.getD (j - 1) 0)).set (j - 1) (l.getD j 0)
theorem swapAt_getD {l : List Int} {j : Nat} (hj : 0 < j) (hl : j < l.length) (a : Nat) : (swapAt l j).getD a 0 = if a = j - 1 then l.getD j 0 else if a = j then l.getD (j - 1) 0 else l.getD a 0 := by
  unfold swapAt
  simp only [List.getD_eq_getElem?_getD, List.getElem?_set, List.length_set]
  by_cases h1 : a = j - 1
  · subst h1
    simp [show j - 1 < l.length by omega]
  · by_cases h2 : a = j
    · subst h2
      simp [h1, Ne.symm h1, hl]
    · simp [h1, h2, Ne.symm h1, Ne.symm h2]
theorem swapAt_length (l : List Int) (j : Nat) : (swapAt l j).length = l.length := by simp [swapAt]
theorem swapAt_perm {l : List Int} {j : Nat} (hj : 0 < j) (hl : j < l.length) : (swapAt l j).Perm l := by
  obtain ⟨i, rfl⟩ : ∃ i, j = i + 1 := ⟨j - 1, by omega⟩
  have e1 : l = l.take i ++ l[i] :: l[i + 1] :: l.drop (i + 2) := by
    have h1 := List.take_append_drop i l
    have h2 : l.drop i = l[i] :: l[i + 1] :: l.drop (i + 2) := by
      rw [← List.getElem_cons_drop (show i < l.length by omega), ← List.getElem_cons_drop (show i + 1 < l.length by omega)]
    rw [h2] at h1
    exact h1.symm
  have e2 : swapAt l (i + 1) = l.take i ++ l[i + 1] :: l[i] :: l.drop (i + 2) := by
    apply List.ext_getElem?
    intro k
    unfold swapAt
    simp only [List.getElem?_set, List.length_set, Nat.add_sub_cancel, List.getD_eq_getElem?_getD]
    by_cases h1 : k < i
    · rw [if_neg (by omega), if_neg (by omega), List.getElem?_append_left (by simp; omega), List.getElem?_take_of_lt h1]
    · rw [List.getElem?_append_right (by simp; omega), List.length_take, Nat.min_eq_left (by omega)]
      by_cases h2 : k = i
      · subst h2; simp [hl, show k < l.length by omega]
      · by_cases h3 : k = i + 1
        · subst h3; simp [hl, show i < l.length by omega]
        · rw [if_neg (by omega), if_neg (by omega)]
          obtain ⟨m, rfl⟩ : ∃ m, k = i + 2 + m := ⟨k - (i + 2), by omega⟩
          rw [show i + 2 + m - i = m + 1 + 1 by omega, List.getElem?_cons_succ, List.getElem?_cons_succ, List.getElem?_drop]
  rw [e2]
  conv => rhs; rw [e1]
  exact (List.Perm.swap _ _ _).append_left _
theorem SortedBut.swap {l : List Int} {m j : Nat} (h : SortedBut l m j) (hj : 0 < j) (hm : j < m) (hl : m ≤ l.length) (hlt : l.getD j 0 < l.getD (j - 1) 0) : SortedBut (swapAt l j) m (j - 1) := by
  intro a b hab hb hne
  rw [swapAt_getD hj (by omega), swapAt_getD hj (by omega), if_neg hne]
  by_cases h1 : b = j
  · subst h1
    rw [if_pos rfl]
    by_cases h2 : a = b - 1
    · rw [if_pos h2]; omega
    · rw [if_neg h2, if_neg (by omega)]
      exact h a (b - 1) (by omega) (by omega) (by omega)
  · rw [if_neg h1]
    by_cases h2 : a = j - 1
    · rw [if_pos h2]
      by_cases h3 : j < b
      · exact h j b h3 hb h1
      · exfalso; omega
    · rw [if_neg h2]
      by_cases h3 : a = j
      · rw [if_pos h3]
        exact h (j - 1) b (by omega) hb h1
      · rw [if_neg h3]
        exact h a b hab hb h1
theorem SortedBut.done {l : List Int} {m j : Nat} (h : SortedBut l m j) (he : j = 0 ∨ l.getD (j - 1) 0 ≤ l.getD j 0) : SortedTo l m := by
  intro a b hab hb
  by_cases h1 : b = j
  · subst h1
    rcases he with he | he
    · omega
    · by_cases h2 : a = b - 1
      · subst h2; exact he
      · exact Int.le_trans (h a (b - 1) (by omega) (by omega) (by omega)) he
  · exact h a b hab hb h1
theorem SortedTo.pairwise {l : List Int} (h : SortedTo l l.length) : l.Pairwise (· ≤ ·) := by
  rw [List.pairwise_iff_getElem]
  intro i j hi hj hij
  have := h i j hij hj
  simpa [List.getD_eq_getElem?_getD, hi, hj] using this

/-- what a sort in place leaves. -/
def SortedR (base g cap : Nat) (l : List Int) (w : World) (e : Ending) (w' : World) : Prop :=
  e = .returned (.tuple #[]) ∧ ∃ d, d.Perm l ∧ d.Pairwise (· ≤ ·) ∧ OwnAt base 26 1 encU w' (.slice (some ⟨g, 0, none⟩) l.length cap) d ∧ Mods (fun b => b = g) w w'
set_option maxRecDepth 100000 in
set_option maxHeartbeats 4000000 in
theorem insU_any (base g cap : Nat) (l : List Int) (w : World) (h : OwnAt base 26 1 encU w (.slice (some ⟨g, 0, none⟩) l.length cap) l) (hl : l.length ≤ 1000000) :
    Calls Tryz.prog 123 #[.slice (some ⟨g, 0, none⟩) l.length cap, .int .i64 0, .int .i64 l.length] w (SortedR base g cap l w) := by
  obtain ⟨n, hn⟩ : ∃ n, l.length = n := ⟨_, rfl⟩
  rw [hn] at h hl ⊢
  have HN := Lib.hid hn
  clear hn
  go_enter Tryz.func123, Tryz.ntmps123
  go_wp2
  go_loopw [6] (fun i wr => ∃ (k : Nat) (d : List Int), 1 ≤ k ∧ k ≤ n + 1 ∧ i = .int .i64 k ∧ d.Perm l ∧ SortedTo d k ∧ OwnAt base 26 1 encU wr (.slice (some ⟨g, 0, none⟩) n cap) d ∧ Mods (fun b => b = g) w wr) (fun i _ => n + 1 - (intOf i).toNat)
  case atStart => exact ⟨1, l, Nat.le_refl _, by omega, rfl, List.Perm.refl _, fun a b h1 h2 => by omega, h, Mods.refl _ _⟩
  case round =>
    obtain ⟨k, d, hk1, hk2, rfl, hp, hs, ho, hm⟩ := hrel
    have Hp := Lib.hid hp
    have Hs := Lib.hid hs
    clear hp hs
    by_cases hlt : k < n
    · have hltz : (k : Int) < (n : Int) := by omega
      go_upto_region 3 with fail
      go_wp2_with fail
      obtain ⟨wo, rfl⟩ : ∃ wo, wo = wr := ⟨_, rfl⟩
      go_loopw [7] (fun jv wx => ∃ (j : Nat) (d2 : List Int), j ≤ k ∧ jv = .int .i64 j ∧ d2.Perm l ∧ SortedBut d2 (k + 1) j ∧ OwnAt base 26 1 encU wx (.slice (some ⟨g, 0, none⟩) n cap) d2 ∧ Mods (fun b => b = g) w wx) (fun jv _ => (intOf jv).toNat)
      case atStart => exact ⟨k, d, Nat.le_refl _, rfl, Hp.out, fun a b h1 h2 h3 => Hs.out a b h1 (by omega), ho, hm⟩
      case round =>
        obtain ⟨j, d2, hj, rfl, hp2, hs2, ho2, hm2⟩ := hrel
        clear ho hm
        have hd2 : d2.length = n := by rw [hp2.length_eq]; exact HN.out
        have Hp2 := Lib.hid hp2
        have Hs2 := Lib.hid hs2
        clear hp2 hs2
        obtain ⟨cur, hcur⟩ := ownsRow_obj ho2 (b := g) rfl
        have hgl : g < wr.heap.size := (Array.getElem?_eq_some_iff.1 hcur).1
        have hcell : ∀ i : Nat, i < n → wr.cell? ⟨g, i, none⟩ = some (.int .u64 (d2.getD i 0)) := fun i hi => by
          rcases OwnAt.slice (k := 1) (enc := encU) (fun _ => rfl) ho2 with ⟨e, _⟩ | ⟨b', off', c', e, _, _, hc⟩
          · cases e
          · cases e
            have := hc i (d2.getD i 0) (by simp [List.getD_eq_getElem?_getD, show i < d2.length by omega]) 0 _ rfl
            rwa [Nat.zero_add, Nat.mul_one, Nat.add_zero] at this
        have Hd2 := Lib.hid hd2
        clear hd2
        rcases Nat.eq_zero_or_pos j with rfl | hjp
        · have d1 : decide ((0 : Int) < ((0 : Nat) : Int)) = false := rfl
          clear hcell
          go_wp2_with fail
          refine wp_region_b (by kernel_rfl) (by kernel_rfl) ?_
          repeat (first | go_big_quiet_skip | (go_big_quiet_want; first | (fail; go_frame; go_big_quiet_on) | (go_big_quiet_op; first | go_big_quiet_on | go_big_quiet_call (fail))))
          refine wpQuiet_nil ?_
          intro W' hC'
          have hBW' := BStep.of hC'
          have hm3 : Mods (fun b => b = g) w W' := hm2.trans (Mods.of_below hBW')
          have ho3 : OwnAt base 26 1 encU W' (.slice (some ⟨g, 0, none⟩) n cap) d2 := ownsRow_blk ho2 fun b e => hBW'.block b (ownsRow_lt ho2 b e)
          clear hC' hBW' ho2 hm2 hcur hgl
          go_wp2_with fail
          go_roundw
          case rel => exact ⟨k + 1, d2, by omega, by omega, by go_num, Hp2.out, Hs2.out.done (.inl rfl), ho3, hm3⟩
          case measure => simp [intOf]; omega
        · obtain ⟨i, rfl⟩ : ∃ i, j = i + 1 := ⟨j - 1, by omega⟩
          have d1 : decide ((0 : Int) < ((i + 1 : Nat) : Int)) = true := by simp
          have c1 := hcell (i + 1) (by omega)
          have c0 := hcell i (by omega)
          have hib : i + 1 < n := by omega
          obtain ⟨x, hx⟩ : ∃ x, d2.getD (i + 1) 0 = x := ⟨_, rfl⟩
          obtain ⟨y, hy⟩ : ∃ y, d2.getD i 0 = y := ⟨_, rfl⟩
          rw [hx] at c1
          rw [hy] at c0
          have HX := Lib.hid hx
          have HY := Lib.hid hy
          clear hcell hx hy
          have q1 : ∀ s : BStep wr, s.val.cell? ⟨g, i + 1, none⟩ = some (.int .u64 x) := BStep.cell hgl c1
          have q0 : ∀ s : BStep wr, s.val.cell? ⟨g, i, none⟩ = some (.int .u64 y) := BStep.cell hgl c0
          have hless := lessU_any x y
          have hi0 : (0 : Int) ≤ (i : Int) := by omega
          go_wp2_with fail
          refine wp_region_b (by kernel_rfl) (by kernel_rfl) ?_
          repeat (first | go_big_quiet_skip | (go_big_quiet_want; first | (fail; go_frame; go_big_quiet_on) | (go_big_quiet_op; first | go_big_quiet_on | go_big_quiet_call ((go_at_call 129; exact callsB ((hless _).mono fun _ _ ⟨h1, h2⟩ => ⟨h1, by subst h2; exact Below.refl _ _⟩))))))
          refine wpQuiet_nil ?_
          intro W' hC'
          have hBW' := BStep.of hC'
          have hm3 : Mods (fun b => b = g) w W' := hm2.trans (Mods.of_below hBW')
          have ho3 : OwnAt base 26 1 encU W' (.slice (some ⟨g, 0, none⟩) n cap) d2 := ownsRow_blk ho2 fun b e => hBW'.block b (ownsRow_lt ho2 b e)
          have hcur3 := (hBW'.block g hgl).trans hcur
          have c1' := (hBW'.cell (p := ⟨g, i + 1, none⟩) hgl).trans c1
          have c0' := (hBW'.cell (p := ⟨g, i, none⟩) hgl).trans c0
          have f1' : W'.frozen? ⟨g, i + 1, none⟩ = false := by simp [World.frozen?, hcur3]
          have f0' : W'.frozen? ⟨g, i, none⟩ = false := by simp [World.frozen?, hcur3]
          clear hC' hBW' ho2 hm2 hcur hgl q0 q1 c0 c1 hless d1
          clear wr
          by_cases hxy : x < y
          · have hdt : decide (x < y) = true := by simpa using hxy
            go_wp2_with fail
            go_region
            have hdl : d2.length = n := Hd2.out
            have hsw : swapAt d2 (i + 1) = (d2.set (i + 1) y).set i x := by
              unfold swapAt
              rw [HX.out, show i + 1 - 1 = i by omega, HY.out]
            have g1 := OwnAt.set (k := 1) (enc := encU) (i := 0) (z := y) (x := x) (u := .int .u64 y) (fun _ => rfl) ho3 (j := i + 1) (by rw [← HX.out]; simp [List.getD_eq_getElem?_getD, show i + 1 < d2.length by omega]) (by decide) rfl
            have g2 := OwnAt.set (k := 1) (enc := encU) (i := 0) (z := x) (x := y) (u := .int .u64 x) (fun _ => rfl) g1 (j := i) (by rw [← HY.out, List.getElem?_set, if_neg (by omega)]; simp [List.getD_eq_getElem?_getD, show i < d2.length by omega]) (by decide) rfl
            simp only [Nat.mul_one, Nat.add_zero] at g2
            have hp4 := (swapAt_perm (l := d2) (j := i + 1) (by omega) (by omega)).trans Hp2.out
            have hs4 := Hs2.out.swap (by omega) (by omega) (by omega) (by rw [HX.out, show i + 1 - 1 = i by omega, HY.out]; exact hxy)
            rw [show i + 1 - 1 = i by omega] at hs4
            rw [hsw] at hp4 hs4
            have hne : ∀ b, b ≠ g → (((W'.setCell ⟨g, i + 1, none⟩ (.int .u64 y)).setCell ⟨g, i, none⟩ (.int .u64 x)).drew).heap[b]? = W'.heap[b]? := fun b hb => (Below.heap_setCell _ _ _ _ hb).trans (Below.heap_setCell _ _ _ _ hb)
            have hm4 : Mods (fun b => b = g) w (((W'.setCell ⟨g, i + 1, none⟩ (.int .u64 y)).setCell ⟨g, i, none⟩ (.int .u64 x)).drew) := ⟨hm3.os, hm3.tape, hm3.output, by have := hm3.size; simpa using this, fun b hb hg => (hne b hg).trans (hm3.block b hb hg)⟩
            have HP4 := Lib.hid hp4
            have HS4 := Lib.hid hs4
            clear hp4 hs4 hsw hne g1 hdl ho3 hm3 hcur3 c1' c0' f1' f0'
            go_wp2_with fail
            go_roundw
            case rel => exact ⟨i, _, by omega, by go_num, HP4.out, HS4.out, g2, hm4⟩
            case measure => simp [intOf]
          · have hdt : decide (x < y) = false := by simpa using hxy
            go_wp2_with fail
            go_roundw
            case rel => exact ⟨k + 1, d2, by omega, by omega, by go_num, Hp2.out, Hs2.out.done (.inr (by rw [HX.out, show i + 1 - 1 = i by omega, HY.out]; omega)), ho3, hm3⟩
            case measure => simp [intOf]; omega
    · go_wp2_with fail
      go_end0
      refine ⟨rfl, d, Hp.out, ?_, by rw [HN.out]; exact ho, hm⟩
      have hdl : d.length = n := by rw [Hp.out.length_eq]; exact HN.out
      exact SortedTo.pairwise fun a b h1 h2 => Hs.out a b h1 (by omega)
set_option maxRecDepth 100000 in
set_option maxHeartbeats 1000000 in
theorem len64_some (n : Nat) (w : World) (hn : n ≤ 12) : Calls Tryz.prog 133 #[.int .u64 n] w fun e w' => (∃ v : Int, e = .returned (.int .i64 v)) ∧ w = w' := by
  have d1 : decide ((4294967296 : Int) ≤ (n : Int)) = false := by simp; omega
  have d2 : decide ((65536 : Int) ≤ (n : Int)) = false := by simp; omega
  have d3 : decide ((256 : Int) ≤ (n : Int)) = false := by simp; omega
  go_enter Tryz.func133, Tryz.ntmps133
  go_upto_region 1 with fail
  go_upto_region 4 with fail
  go_upto_region 7 with fail
  go_upto_region 10 with fail
  clear d1 d2 d3
  rcases (by omega : n = 0 ∨ n = 1 ∨ n = 2 ∨ n = 3 ∨ n = 4 ∨ n = 5 ∨ n = 6 ∨ n = 7 ∨ n = 8 ∨ n = 9 ∨ n = 10 ∨ n = 11 ∨ n = 12) with h | h | h | h | h | h | h | h | h | h | h | h | h <;> subst h
  all_goals
    go_wp2
    go_ret
    exact ⟨⟨_, rfl⟩, rfl⟩
def SomeI (w : World) (e : Ending) (w' : World) : Prop := (∃ v : Int, e = .returned (.int .i64 v)) ∧ w = w'
set_option maxRecDepth 100000 in
set_option maxHeartbeats 400000 in
theorem bitsLen_some (n : Nat) (w : World) (hn : n ≤ 12) : Calls Tryz.prog 107 #[.int .u64 n] w (SomeI w) := by
  go_enter Tryz.func107, Tryz.ntmps107
  go_wp2_with (go_at_call 133; refine (len64_some n _ hn).mono ?_; rintro e w' ⟨⟨v, rfl⟩, rfl⟩)
  go_ret
  exact ⟨⟨_, rfl⟩, rfl⟩
set_option maxRecDepth 100000 in
set_option maxHeartbeats 1000000 in
theorem pdqU_any (base g cap : Nat) (l : List Int) (v : Int) (w : World) (h : OwnAt base 26 1 encU w (.slice (some ⟨g, 0, none⟩) l.length cap) l) (hl : l.length ≤ 12) :
    Calls Tryz.prog 106 #[.slice (some ⟨g, 0, none⟩) l.length cap, .int .i64 0, .int .i64 l.length, .int .i64 v] w (SortedR base g cap l w) := by
  have hins := insU_any base g cap l w h (by omega)
  have hlz : (l.length : Int) ≤ 12 := by omega
  go_enter Tryz.func106, Tryz.ntmps106
  go_wp2
  go_loopw [1, 2, 3] (fun a b _ wr => a = .int .i64 0 ∧ b = .int .i64 l.length ∧ wr = w) (fun _ _ _ _ => 0)
  case atStart => exact ⟨rfl, rfl, rfl⟩
  case round =>
    obtain ⟨rfl, rfl, rfl⟩ := hrel
    go_wp2_with (go_at_call 123; refine hins.mono ?_; rintro e w' ⟨rfl, h1⟩)
    go_end0
    exact ⟨rfl, h1⟩
set_option maxRecDepth 100000 in
set_option maxHeartbeats 1000000 in
theorem sortU_any (base g cap : Nat) (l : List Int) (w : World) (h : OwnAt base 26 1 encU w (.slice (some ⟨g, 0, none⟩) l.length cap) l) (hl : l.length ≤ 12) :
    Calls Tryz.prog 70 #[.slice (some ⟨g, 0, none⟩) l.length cap] w (SortedR base g cap l w) := by
  have hp := fun v => pdqU_any base g cap l v w h hl
  go_enter Tryz.func70, Tryz.ntmps70
  go_wp2_with (first | (go_at_call 107; refine (bitsLen_some l.length _ hl).mono ?_; rintro e w' ⟨⟨v, rfl⟩, rfl⟩) | (go_at_call 106; refine (hp v).mono ?_; rintro e w' ⟨rfl, h1⟩))
  go_end0
  exact ⟨rfl, h1⟩
end Go.Proofs.YtaeebgljcdfolaaGreatDoor
