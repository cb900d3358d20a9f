/- Walks: Vector of a document that knows nobody, or one client. -/
import Derived.Test.YthhbiliimdpgmaaGreatDoorM17
import Derived.Test.YthhbiliimdpgmaaGreatDoorM16
import Derived.Tactics2
import Derived.Defers
import Derived.Recover
import Derived.Laws.Pointers
import Derived.Test.YthhbiliimdpgmaaGreatDoorM13
import Derived.Test.YthhbiliimdpgmaaGreatDoorM10
import Derived.Test.YthhbiliimdpgmaaGreatDoorM05
import Derived.Test.YthhbiliimdpgmaaGreatDoorM15
namespace Go.Proofs.YthhbiliimdpgmaaGreatDoor
open Go.RowKit Go.Maps Go.Shelf Go.Lib

theorem belowGrown {w w' : World} (h : w.grownBy w' none) : Below w.heap.size w w' := ⟨h.os, h.tape, h.output, h.size, fun k hk => h.block k hk (by intro e; cases e)⟩
def VecR (l : List QId) (w : World) (v : Value) (w' : World) : Prop := OwnAt w.heap.size 78 2 encIdv w' v l ∧ Below w.heap.size w w'
set_option maxRecDepth 100000 in
set_option maxHeartbeats 1000000 in
theorem vector_none (n : Nat) (wl : List (QId × Value)) (hv vv : Value) (st : Int) (w : World) (hd : DocC n w [] wl hv vv st) :
    Calls Tryz.prog 11 #[.pointer (some ⟨n + 11, 0, none⟩)] w (RetW (VecR [] w)) := by
  have c1 := hd.cell 1 _ rfl
  have hlt := hd.lt
  have hown := mapK_ownsC (w := w) (r := n + 2) (kl := []) hd.kn (fun p hp => by cases hp) (by decide)
  have hsz : Maps.size (clkD []) = 0 := rfl
  go_enter Tryz.func11, Tryz.ntmps11
  go_upto_region 3 with (at_range; refine wpList_range_own _ rfl _ 58 rfl 26 26 (int_keyed undC) (by kernel_rfl) (plainElem Tryz.prog 26) (n + 2) 0 (clkD []) rfl hown ?_; intro w0 hrg0 hg0 hs0)
  have hB0 := belowGrown hg0
  rw [hsz] at hrg0
  clear hg0 hown c1
  go_frame
  go_loopw [3] (fun v wr => v = .slice none 0 0 ∧ wr = w0) (fun _ _ => 0)
  case atStart => exact ⟨rfl, rfl⟩
  case round =>
    obtain ⟨rfl, rfl⟩ := hrel
    go_wp2_with (at_next; refine wpList_next_ranges_ii _ rfl _ rfl 26 26 .u64 .u64 (int_keyed undC) undC undC (n + 2) w.heap.size 0 _ _ _ rfl hrg0 ?_ ?_)
    intro _
    have hvc := vclean_any (.slice none 0 0) [] wr (.inl ⟨rfl, rfl⟩) ⟨fun x hx => (by cases hx), List.Pairwise.nil⟩ (by decide)
    go_wp2_with (go_at_call 27; refine hvc.mono ?_; rintro e w5 ⟨v5, rfl, ho5, hb5⟩)
    go_ret
    exact ⟨_, rfl, ownsRow_base ho5 hB0.size, belowTrans hB0 hb5⟩
set_option maxRecDepth 100000 in
set_option maxHeartbeats 2000000 in
theorem vector_one (n : Nat) (c N : Int) (wl : List (QId × Value)) (hv vv : Value) (st : Int) (w : World) (hd : DocC n w [(c, .int .u64 N)] wl hv vv st) (hc1 : 1 ≤ c) (hc2 : c ≤ 9007199254740991) (hN1 : 1 ≤ N) (hN2 : N ≤ 9007199254740991) :
    Calls Tryz.prog 11 #[.pointer (some ⟨n + 11, 0, none⟩)] w (RetW (VecR [⟨c, N⟩] w)) := by
  have c1 := hd.cell 1 _ rfl
  have hlt := hd.lt
  have hown := mapK_ownsC (w := w) (r := n + 2) (kl := [⟨c, N⟩]) hd.kn (fun p hp => by obtain rfl : p = ⟨c, N⟩ := by simpa using hp
                                                                                       unfold u64C; dsimp only; omega) (by show 1 ≤ _; decide)
  have hsz : Maps.size (clkD [⟨c, N⟩]) = 1 := rfl
  have hhas : ∀ x, has (clkD [⟨c, N⟩]) (.int .u64 x) = true → x = c := fun x h => by
    have : has (clkD [⟨c, N⟩]) (.int .u64 x) = (Lit.int .u64 c).sameKey (.int .u64 x) := by simp [clkD, clkL, has_eq, DataW.insert]
    rw [this] at h
    have := (by simpa [Lit.sameKey] using h : c = x)
    exact this.symm
  have hat : ∀ zd, (clkD [⟨c, N⟩]).atKey (.int .u64 c) zd = .lit (.int .u64 N) := fun zd => by simp [clkD, clkL, DataW.atKey, DataW.insert, Lit.sameKey]
  go_enter Tryz.func11, Tryz.ntmps11
  go_upto_region 3 with (at_range; refine wpList_range_own _ rfl _ 58 rfl 26 26 (int_keyed undC) (by kernel_rfl) (plainElem Tryz.prog 26) (n + 2) 1 (clkD [⟨c, N⟩]) rfl hown ?_; intro w0 hrg0 hg0 hs0)
  have hB0 := belowGrown hg0
  rw [hsz] at hrg0
  obtain ⟨i0, hi, hz0, hz1, hz2⟩ := info_parts infoClk
  clear hg0 hown c1 hd
  go_frame
  go_loopw [3] (fun v wr => (v = .slice none 0 0 ∧ wr = w0) ∨ (∃ left b cc, v = .slice (some b) 1 cc ∧ wr.ranges Tryz.prog 26 (plainElem Tryz.prog 26) (n + 2) w.heap.size 1 (clkD [⟨c, N⟩]) left 0 ∧ OwnAt w.heap.size 78 2 encIdv wr v [⟨c, N⟩] ∧ Below w.heap.size w wr)) (fun v _ => match v with | .slice (some _) _ _ => 0 | _ => 1)
  case atStart => exact .inl ⟨rfl, rfl⟩
  case round =>
    rcases hrel with ⟨rfl, rfl⟩ | ⟨left, bb, cc, rfl, hrg, hox, hbx⟩
    · go_wp2_with (at_next; refine wpList_next_ranges_ii _ rfl _ rfl 26 26 .u64 .u64 (int_keyed undC) undC undC (n + 2) w.heap.size 1 _ _ _ rfl hrg0 ?_ ?_)
      intro x y w2 cnt2 _ _ hlk hat2 hrg2 hlt2 hg2 hs2 hen
      obtain rfl : x = c := hhas x hlk
      obtain rfl : y = N := by
        have h1 := hat2 .nil
        rw [hat] at h1
        simpa using h1.symm
      obtain rfl : cnt2 = 0 := by omega
      clear hhas hat hat2 hsz hlk hlt2
      have hw2 : w.heap.size < w2.heap.size := by omega
      have hB2 : Below w.heap.size w w2 := hB0.grown hg2 hB0.size (fun b e => by cases e; exact Nat.le_refl _)
      clear hs0 hs2
      go_wp2_with (at_builtin; refine wpList_append_own_at _ rfl _ _ 50 rfl w.heap.size 78 i0 (.agg #[.int .u64 idZero.c, .int .u64 idZero.k]) 2 16 Tryz.underlying50 hi hz0 hz1 hz2 rfl (by decide) _ 0 [] rfl (OwnAt.nil (α := QId) (k := 2) (enc := encIdv)) ⟨w2.heap.size, 0, none⟩ 1 1 (encIdv ⟨x, y⟩) rfl rfl ?f1 ?f2 ?f3 ?f4 ?f5 ?_)
      case f1 => exact fun j u hu => by rw [Addr.add_lit]; simp only [World.cell?, Option.isSome_none, Bool.false_eq_true, if_false]; rw [World.alloc_heap_new]; simpa [encIdv] using hu
      case f2 => intro u hu; simp [encIdv] at hu; rcases hu with rfl | rfl <;> rfl
      case f3 => unfold maxLen; omega
      case f4 => omega
      case f5 => first | omega | (simp; omega)
      intro v' w3 hown' hgrow _ _
      have hrg3 := (hrg2.alloc _).kept hgrow (by intro e; cases e) (by intro e; cases e)
      have hB3 : Below w.heap.size w w3 := (hB2.alloc (by omega) _).grown hgrow (by simp; omega) (fun b e => by cases e)
      have hox : OwnAt w.heap.size 78 2 encIdv w3 v' [⟨x, y⟩] := by unfold OwnAt; simpa using hown'
      obtain ⟨p, cc, rfl⟩ : ∃ p c, v' = .slice p 1 c := ownsRow_len hox
      obtain ⟨g, rfl⟩ : ∃ b, p = some ⟨b, 0, none⟩ := by
        rcases hox.2 with ⟨e, _⟩ | ⟨g, cap, cur, e, _⟩
        · cases e
        · cases e; exact ⟨_, rfl⟩
      clear hown' hgrow
      go_wp2
      exact ⟨.inr ⟨_, _, _, rfl, hrg3, hox, hB3⟩, Nat.zero_lt_one⟩
    · go_wp2_with (at_next; refine wpList_next_ranges_ii _ rfl _ rfl 26 26 .u64 .u64 (int_keyed undC) undC undC (n + 2) w.heap.size 1 _ _ _ rfl hrg ?_ ?_)
      intro _
      have hvc := vclean_any (.slice (some bb) 1 cc) [⟨c, N⟩] wr (OwnAt.slice (k := 2) (enc := encIdv) (fun _ => rfl) hox) ⟨fun x hx => (by obtain rfl : x = ⟨c, N⟩ := by simpa using hx
                                                                                                                                            exact ⟨hc1, hc2, hN1, hN2⟩), by simp⟩ (by simp)
      go_wp2_with (go_at_call 27; refine hvc.mono ?_; rintro e w5 ⟨v5, rfl, ho5, hb5⟩)
      go_ret
      exact ⟨_, rfl, ownsRow_base ho5 hbx.size, belowTrans hbx hb5⟩
end Go.Proofs.YthhbiliimdpgmaaGreatDoor
/- Walks: doc.right of one right operation, doc.try of what doesn't fail. -/
namespace Go.Proofs.YthhbiliimdpgmaaGreatDoor
open Go.RowKit Go.Lib

theorem OpCells.blo {n : Nat} {w w' : World} {b off : Nat} {o : QOp} (h : OpCells w b off o) (hb : Below n w w') (hl : b < n) : OpCells w' b off o := fun i y hy => (hb.cell (p := ⟨b, off + i, none⟩) hl).trans (h i y hy)
set_option maxRecDepth 100000 in
set_option maxHeartbeats 1000000 in
theorem right_one (o : QOp) (rb cap : Nat) (w : World) (hrb : OpCells w rb 0 o) (hlt : rb < w.heap.size) (hT : Tabs w) (hck : ∀ w, Tabs w → Calls Tryz.prog 30 #[opV o] w fun e w' => e = .returned (.int .i64 0) ∧ Below w.heap.size w w') :
    Calls Tryz.prog 18 #[.agg #[.slice (some ⟨rb, 0, none⟩) 1 cap, .slice none 0 0]] w fun e w' => e = .returned (.tuple #[]) ∧ Below w.heap.size w w' := by
  go_enter Tryz.func18, Tryz.ntmps18
  go_upto_region 4 with fail
  have hB : Below w.heap.size w (w.alloc (.cells #[.slice (some ⟨rb, 0, none⟩) 1 cap, .slice none 0 0] 42)) := by (repeat (first | exact Below.refl _ _ | assumption | refine Below.alloc ?_ (by simp <;> omega) _ | refine Below.drew ?_ | refine below_drewN ?_ _ | refine Below.setCell ?_ (by simp <;> omega) _ | refine belowTrans ?_ (by assumption)))
  generalize w.alloc (.cells #[.slice (some ⟨rb, 0, none⟩) 1 cap, .slice none 0 0] 42) = W at hB ⊢
  go_loopw [20] (fun i wr => ∃ k : Nat, k ≤ 1 ∧ i = .int .i64 k ∧ Below w.heap.size w wr) (fun i _ => 1 - (intOf i).toNat)
  case atStart => exact ⟨0, by omega, rfl, hB⟩
  case round =>
    clear hB
    obtain ⟨k, hk, rfl, hb⟩ := hrel
    by_cases h0 : k = 0
    · subst h0
      have hl := load_op (hrb.blo hb hlt)
      have hwr := hb.size
      have hbc : Below w.heap.size w (putOp (wr.alloc (.cells (encOp opZero).toArray 35)) wr.heap.size o) := below_putOp (hb.alloc hwr _) hwr _
      have hbx : OpBox (putOp (wr.alloc (.cells (encOp opZero).toArray 35)) wr.heap.size o) wr.heap.size o := (OpBox.new wr opZero).put o
      go_upto_region 6 with (first | (refine wpList_load_eq (T := 35) (v := opV o) rfl rfl rfl hl ?_) | (refine wpList_store_eq (T := 35) (v := opV o) rfl rfl rfl rfl (OpBox.store (OpBox.new wr opZero) o) ?_))
      try go_frame
      generalize putOp (wr.alloc (.cells (encOp opZero).toArray 35)) wr.heap.size o = W2 at hbc hbx ⊢
      generalize wr.heap.size = X at hbx ⊢
      have hck2 := hck W2 (hT.below hbc)
      go_wp2_with (first | (refine wpList_load_eq (T := 35) (v := opV o) rfl rfl rfl hbx.load ?_) | (go_at_call 30; refine hck2.mono ?_; rintro e w5 ⟨rfl, hb5⟩))
      exact ⟨⟨1, by omega, by go_num, belowTrans hbc hb5⟩, by simp [intOf]⟩
    · obtain rfl : k = 1 := by omega
      go_wp2_with fail
      go_end0
      exact ⟨rfl, hb⟩
end Go.Proofs.YthhbiliimdpgmaaGreatDoor
/- Walks: doc.try of what doesn't fail: its deferred function finds nothing to recover. -/
namespace Go.Proofs.YthhbiliimdpgmaaGreatDoor
open Go.RowKit Go.Lib

theorem frozen_alloc0 (w : World) (c : Array Value) (t : TypeId) : (w.alloc (.cells c t)).frozen? ⟨w.heap.size, 0, none⟩ = false := by
  have h : (w.alloc (.cells c t)).heap[w.heap.size]? = some (.cells c t) := by rw [alloc_heap_if, if_pos rfl]
  simp only [World.frozen?, h]
  rfl
theorem try1_idle (p : Addr) (w : World) :
    CallsD Tryz.prog 29 #[.pointer (some p)] .returning w fun e u' w' => e = .returned (.tuple #[]) ∧ u' = .returning ∧ w' = w := by
  refine callsD_of_wpS Tryz.func29 rfl fun c₀ cs hu => ?_
  apply wpS_seq
  apply wpS_region
  simp [wpOpsS, go_sem, recoverD, hu, Tryz.ntmps29, Exit.thenS]
  refine wpS_of_wp ?_
  go_wp2
  cases c₀
  simp_all [bodyPostS, results, Tryz.results29]
set_option maxRecDepth 100000 in
theorem apply1_one (o : QOp) (rb cap ub : Nat) (w : World) (hrb : OpCells w rb 0 o) (hlt : rb < w.heap.size) (hT : Tabs w) (hck : ∀ w, Tabs w → Calls Tryz.prog 30 #[opV o] w fun e w' => e = .returned (.int .i64 0) ∧ Below w.heap.size w w')
    (hu0 : w.cell? ⟨ub, 0, none⟩ = some (.slice (some ⟨rb, 0, none⟩) 1 cap)) (hu1 : w.cell? ⟨ub, 1, none⟩ = some (.slice none 0 0)) :
    Calls Tryz.prog 17 #[.pointer (some ⟨ub, 0, none⟩)] w fun e w' => e = .returned (.tuple #[]) ∧ Below w.heap.size w w' := by
  have hr := right_one o rb cap w hrb hlt hT hck
  go_enter Tryz.func17, Tryz.ntmps17
  go_wp2_with (go_at_call 18; refine hr.mono ?_; rintro e w1 ⟨rfl, hb1⟩)
  go_end0
  exact ⟨rfl, hb1⟩
set_option maxRecDepth 100000 in
theorem try_ok (o : QOp) (rb cap ub : Nat) (w : World) (hrb : OpCells w rb 0 o) (hlt : rb < w.heap.size) (hul : ub < w.heap.size) (hT : Tabs w) (hck : ∀ w, Tabs w → Calls Tryz.prog 30 #[opV o] w fun e w' => e = .returned (.int .i64 0) ∧ Below w.heap.size w w')
    (hu0 : w.cell? ⟨ub, 0, none⟩ = some (.slice (some ⟨rb, 0, none⟩) 1 cap)) (hu1 : w.cell? ⟨ub, 1, none⟩ = some (.slice none 0 0)) :
    Calls Tryz.prog 16 #[.func (.func 17) #[] #[.pointer (some ⟨ub, 0, none⟩)]] w fun e w' => e = .returned (.int .i64 0) ∧ Below w.heap.size w w' := by
  have hmf : ∀ (fn : Fn) (first cap : Array Value) (w : World), (Instr.makeFunc fn first cap).run Tryz.prog w = .ok (.func fn first cap) w := fun _ _ _ _ => rfl
  have hB : Below w.heap.size w (w.alloc (.cells #[.int .i64 0] 36)) := by (repeat (first | exact Below.refl _ _ | assumption | refine Below.alloc ?_ (by simp <;> omega) _ | refine Below.drew ?_ | refine below_drewN ?_ _ | refine Below.setCell ?_ (by simp <;> omega) _ | refine belowTrans ?_ (by assumption)))
  have hc0 : (w.alloc (.cells #[.int .i64 0] 36)).cell? ⟨w.heap.size, 0, none⟩ = some (.int .i64 0) := by go_simp
  have hf0 : (w.alloc (.cells #[.int .i64 0] 36)).frozen? ⟨w.heap.size, 0, none⟩ = false := frozen_alloc0 w _ _
  have ha := apply1_one o rb cap ub _ (hrb.blo hB hlt) (Nat.lt_of_lt_of_le hlt hB.size) (hT.below hB) hck ((hB.cell (p := ⟨ub, 0, none⟩) hul).trans hu0) ((hB.cell (p := ⟨ub, 1, none⟩) hul).trans hu1)
  go_enter_defers Tryz.func16, Tryz.ntmps16
  go_wp2_with (go_at_call 17; refine ha.mono ?_; rintro e w1 ⟨rfl, hb1⟩; have e0 : w1.cell? ⟨w.heap.size, 0, none⟩ = some (.int .i64 0) := (hb1.cell (p := ⟨w.heap.size, 0, none⟩) (by simp)).trans hc0; have f0 : w1.frozen? ⟨w.heap.size, 0, none⟩ = false := (hb1.frozen (p := ⟨w.heap.size, 0, none⟩) (by simp)).trans hf0)
  refine leaves_cons (f := 29) (args := #[.pointer (some ⟨w.heap.size, 0, none⟩)]) (by simp) (by simp [go_sem]) ?_
  refine (try1_idle ⟨w.heap.size, 0, none⟩ _).mono ?_
  rintro e u' w'' ⟨rfl, rfl, rfl⟩
  have hB2 : Below w.heap.size w (w1.setCell ⟨w.heap.size, 0, none⟩ (.int .i64 0)) := (belowTrans hB hb1).setCell (p := ⟨w.heap.size, 0, none⟩) (Nat.le_refl _) _
  simp [Leaves, settle, results, Tryz.results16, go_sem, e0]
  exact hB2
end Go.Proofs.YthhbiliimdpgmaaGreatDoor
/- Plain law: pieces of texts. -/
namespace Go.Proofs.YthhbiliimdpgmaaGreatDoor

theorem runesB_ok (s : ByteArray) : ∀ r ∈ runesB s, okRune r := by
  unfold runesB
  cases h : runesL s.data.toList with
  | none => simp
  | some rs => exact (runesL_of h).2
theorem runesB_estr {rs : List Int} (h : ∀ r ∈ rs, okRune r) : runesB (estr rs) = rs ∧ okB (estr rs) = true := by
  unfold runesB okB
  rw [estr_bytes h, runesL_enc h]
  exact ⟨rfl, rfl⟩
theorem runesB_cut (t : ByteArray) (f e : Nat) : runesB (cutB t f e) = ((runesB t).take e).drop f ∧ okB (cutB t f e) = true :=
  runesB_estr fun r hr => runesB_ok t r (List.mem_of_mem_take (List.mem_of_mem_drop hr))
theorem cutB_cutB (t : ByteArray) (f e a b : Nat) (h : f + b ≤ e) : cutB (cutB t f e) a b = cutB t (f + a) (f + b) := by
  unfold cutB
  have h1 := (runesB_cut t f e).1
  unfold cutB at h1
  rw [h1]
  congr 1
  rw [List.take_drop, List.drop_drop, List.take_take, Nat.min_eq_left h]
theorem cutB_all {t : ByteArray} (h : okB t = true) {e : Nat} (he : (runesB t).length ≤ e) : cutB t 0 e = t := by
  unfold okB at h
  obtain ⟨rs, hrs⟩ := Option.isSome_iff_exists.1 h
  have h1 := (text_of_runes hrs).1
  have h2 : runesB t = rs := by unfold runesB; rw [hrs]; rfl
  unfold cutB
  rw [List.take_of_length_le he, List.drop_zero, h2]
  exact h1.symm
theorem cutB_len (t : ByteArray) (f e : Nat) (he : e ≤ (runesB t).length) : (runesB (cutB t f e)).length = e - f := by
  rw [(runesB_cut t f e).1]
  simp; omega
theorem runes_size {t : ByteArray} (h : okB t = true) : t.size ≤ 4 * (runesB t).length ∧ (runesB t).length ≤ t.size := by
  refine ⟨?_, runesB_le t⟩
  unfold okB at h
  obtain ⟨rs, hrs⟩ := Option.isSome_iff_exists.1 h
  obtain ⟨h1, h3⟩ := text_of_runes hrs
  have h2 : runesB t = rs := by unfold runesB; rw [hrs]; rfl
  rw [h2, h1, estr_size h3]
  exact (ebytes_length rs).2
theorem cutB_append (t : ByteArray) {f m e : Nat} (h1 : f ≤ m) (h2 : m ≤ e) : cutB t f m ++ cutB t m e = cutB t f e := by
  unfold cutB
  rw [← estr_append]
  congr 1
  apply List.ext_getElem?
  intro k
  rw [List.getElem?_append]
  simp only [List.length_drop, List.length_take, List.getElem?_drop, List.getElem?_take]
  split
  · rename_i h
    rw [if_pos (by omega), if_pos (by omega)]
  · rename_i h
    by_cases h3 : m ≤ (runesB t).length
    · rw [Nat.min_eq_left h3] at h ⊢
      rw [show m + (k - (m - f)) = f + k by omega]
    · rw [Nat.min_eq_right (by omega)] at h ⊢
      rw [List.getElem?_eq_none (l := runesB t) (by omega), List.getElem?_eq_none (l := runesB t) (by omega)]
      simp

/-- the piece of a client's text. -/
def pc (c : Int) (t : ByteArray) (f e : Nat) : QOp := cutT ⟨c, 1⟩ idZero idZero t f e
def pcL (c : Int) (f : Nat) : QId := if 0 < f then ⟨c, (1 : Int) + f - 1⟩ else idZero
theorem pc_eq (c : Int) (t : ByteArray) (f e : Nat) : pc c t f e = tOp ⟨c, 1 + f⟩ (pcL c f) idZero (cutB t f e) := rfl
theorem pc_cut (c : Int) (t : ByteArray) (f e a b : Nat) (h : f + b ≤ e) : cutT ⟨c, 1 + f⟩ (pcL c f) idZero (cutB t f e) a b = pc c t (f + a) (f + b) := by
  rw [pc_eq]
  unfold cutT pcL
  rw [cutB_cutB t f e a b h]
  have e1 : (1 : Int) + (f : Int) + (a : Int) = 1 + ((f + a : Nat) : Int) := by omega
  dsimp only
  rw [e1]
  by_cases ha : 0 < a
  · rw [if_pos ha, if_pos (show 0 < f + a by omega)]
  · obtain rfl : a = 0 := by omega
    rw [if_neg ha]
    rfl
theorem pc_whole (c : Int) {t : ByteArray} (h : okB t = true) {e : Nat} (he : (runesB t).length ≤ e) : pc c t 0 e = tOp ⟨c, 1⟩ idZero idZero t := by
  rw [pc_eq, cutB_all h he]
  rfl
theorem pc_rng (c : Int) (t : ByteArray) (f e : Nat) (hf : f ≤ e) (he : e ≤ (runesB t).length) : tRng ⟨c, 1 + f⟩ (cutB t f e) = ⟨c, 1 + f, 1 + e⟩ := by
  unfold tRng
  rw [cutB_len t f e he]
  dsimp only
  congr 1
  omega
/-- a text's pieces are right operations. -/
theorem pc_good (c : Int) (t : ByteArray) (f e : Nat) (hc : numB c = true) (hf : f < e) (he : e ≤ (runesB t).length) (hl : (runesB t).length ≤ 4096) : GoodT ⟨c, 1 + f⟩ (pcL c f) idZero (cutB t f e) := by
  have hcl := cutB_len t f e he
  have hok := (runesB_cut t f e).2
  have hsz := runes_size hok
  have hid : ∀ k : Nat, 1 ≤ k → k ≤ 5000 → (⟨c, (k : Int)⟩ : QId).rightB = true := fun k h1 h2 => by
    simp only [numB, Bool.and_eq_true, decide_eq_true_eq] at hc
    simp only [QId.rightB, numB, Bool.and_eq_true, decide_eq_true_eq]; omega
  refine { id := ?_, ok := ?_, fits := ?_, ln := ?_, rn := by simp [QId.namedB], lo := ?_, ro := ?_ }
  · have := hid (1 + f) (by omega) (by omega)
    rwa [show (((1 + f : Nat)) : Int) = 1 + (f : Int) by omega] at this
  · unfold okT
    rw [hok]
    simp; omega
  · show (1 : Int) + f + _ - 1 ≤ _
    omega
  · unfold pcL
    split
    · have := hid f (by omega) (by omega)
      rw [show (f : Int) = 1 + (f : Int) - 1 by omega] at this
      unfold QId.namedB
      rw [this]; simp
    · simp [QId.namedB]
  · rw [pc_rng c t f e (by omega) he]
    unfold pcL
    split
    · simp [hasRngs, QRng.hasB]
      omega
    · simp [hasRngs, QId.rightB, numB, idZero]
  · simp [hasRngs, QId.rightB, numB, idZero]
end Go.Proofs.YthhbiliimdpgmaaGreatDoor
/- Plain law: what a piece that comes to wait leaves. -/
namespace Go.Proofs.YthhbiliimdpgmaaGreatDoor

theorem clean_within {xs : List QRng} {r : QRng} (h : CleanL xs) (hw : ∀ i, hasRngs xs i = true → hasRngs [r] i = true) : ∀ x ∈ xs, x.c = r.c ∧ r.a ≤ x.a ∧ x.a < x.b ∧ x.b ≤ r.b := by
  intro x hx
  have hr := h.1 x hx
  have hl := right_lt hr
  have key : ∀ k : Int, x.a ≤ k → k < x.b → r.inR ⟨x.c, k⟩ := fun k h1 h2 => by
    have hh : x.hasB ⟨x.c, k⟩ = true := (near_has (right_near hr) _).2 ⟨rfl, h1, h2⟩
    have hi : (⟨x.c, k⟩ : QId).rightB = true := by simp [QId.rightB, numB]; omega
    have := hw ⟨x.c, k⟩ (by unfold hasRngs; rw [hi]; simp only [Bool.true_and, List.any_eq_true]; exact ⟨x, hx, hh⟩)
    simp only [hasRngs, List.any_cons, List.any_nil, Bool.or_false, Bool.and_eq_true] at this
    have h3 := this.2
    simp only [QRng.hasB, Bool.and_eq_true, decide_eq_true_eq] at h3
    exact ⟨h3.1.1.2, h3.1.2, h3.2⟩
  have h1 := key x.a (Int.le_refl _) hl.1
  have h2 := key (x.b - 1) (by omega) (by omega)
  obtain ⟨e1, e2, e3⟩ := h1
  obtain ⟨f1, f2, f3⟩ := h2
  dsimp only at *
  exact ⟨e1.symm, e2, hl.1, by omega⟩
theorem clean_len : ∀ (xs : List QRng) (c lo hi : Int), CleanL xs → (∀ x ∈ xs, x.c = c ∧ lo ≤ x.a ∧ x.a < x.b ∧ x.b ≤ hi) → (xs.length : Int) ≤ max (hi - lo) 0
  | [], _, _, _, _, _ => by simp; omega
  | x :: xs, c, lo, hi, h, hb => by
    obtain ⟨h1, h2⟩ := h
    obtain ⟨hp1, hp2⟩ := List.pairwise_cons.1 h2
    have hx := hb x (by simp)
    have := clean_len xs c (lo + 1) hi ⟨fun r hr => h1 r (by simp [hr]), hp2⟩ fun y hy => by
      have := hb y (by simp [hy])
      have := hp1 y hy
      omega
    simp only [List.length_cons]
    omega
/-- the clocks of a piece that aren't known. -/
def waitRng (n : Int) (c I J : Int) : QRng := ⟨c, if I ≤ n then min (n + 1) J else I, J⟩
/-- the piece over a range of clocks. -/
def pcR (t : ByteArray) (x : QRng) : QOp := pc x.c t (x.a - 1).toNat (x.b - 1).toNat
theorem pcR_eq (t : ByteArray) (c : Int) (f a b : Nat) : pcR t ⟨c, 1 + (f : Int) + (a : Int), 1 + (f : Int) + (b : Int)⟩ = pc c t (f + a) (f + b) := by
  unfold pcR
  dsimp only
  congr 1 <;> omega
end Go.Proofs.YthhbiliimdpgmaaGreatDoor
/- A *store.Store's known texts grow: how that lies in memory. -/
namespace Go.Proofs.YthhbiliimdpgmaaGreatDoor
open Go.RowKit Go.Lib

/-- more of a client's text is known. -/
def kadd (K : List (Int × ByteArray)) (c : Int) (u : ByteArray) : List (Int × ByteArray) := match kfind K c with
  | some _ => K.map fun p => if p.1 = c then (p.1, p.2 ++ u) else p
  | none => K ++ [(c, u)]
theorem kfind_none {K : List (Int × ByteArray)} {c : Int} (h : kfind K c = none) : ∀ p ∈ K, p.1 ≠ c := by
  intro p hp e
  unfold kfind at h
  rw [Option.map_eq_none_iff, List.find?_eq_none] at h
  exact h p hp (by simpa using e)
theorem kadd_keys (K : List (Int × ByteArray)) (c : Int) (u : ByteArray) (h : (K.map (·.1)).Nodup) : ((kadd K c u).map (·.1)).Nodup := by
  unfold kadd
  split
  · rw [List.map_map]
    have : ((fun p : Int × ByteArray => p.1) ∘ fun p : Int × ByteArray => if p.1 = c then (p.1, p.2 ++ u) else p) = fun p => p.1 := by
      funext p
      simp only [Function.comp]
      split <;> rfl
    rw [this]; exact h
  · rename_i hn
    rw [List.map_append]
    refine List.nodup_append.2 ⟨h, by simp, fun a ha b hb e => ?_⟩
    obtain ⟨p, hp, rfl⟩ := List.mem_map.1 ha
    have hb2 : b = c := by simpa using hb
    exact kfind_none hn p hp (e.trans hb2)
theorem cells_ne {w : World} {a b : Nat} {c d : Array Value} {t t' : TypeId} {f f' : Nat × Nat} (h1 : w.heap[a]? = some (.cells c t f)) (h2 : w.heap[b]? = some (.cells d t' f')) (hne : t ≠ t') : a ≠ b := by
  rintro rfl
  rw [h1] at h2
  cases h2
  exact hne rfl
theorem ownsRow_obj {w : World} {base e size n : Nat} {v : Value} {xs : List Value} (h : w.ownsRow base e size v n xs) {b : Nat} (hb : v.ownBlock = some b) : ∃ cur, w.heap[b]? = some (.cells cur e (0, 0)) := by
  rcases h.2 with ⟨hv, _⟩ | ⟨g, cap, cur, hv, hg, hcur, _⟩
  · rw [hv] at hb; cases hb
  · rw [hv] at hb; cases hb; exact ⟨_, hcur⟩
theorem MapK.ne_cells {κ : Type} {enc : κ → Value} {w : World} {r b : Nat} {l : List (κ × Value)} {c : Array Value} {t : TypeId} {f : Nat × Nat} (h : MapK enc w r l) (hb : w.heap[b]? = some (.cells c t f)) : r ≠ b := by
  obtain ⟨es, clock, h1, _⟩ := h
  rintro rfl
  rw [h1] at hb; cases hb

theorem StoreAt.merge {w w' : World} {sb : Nat} {L : SLay} {K : List (Int × ByteArray)} {Q : List QOp} {H : List QRng} (h : StoreAt w sb L K Q H) {c : Int} {t0 u : ByteArray} (hc : kfind K c = some t0) {b : Nat} (hb : (L.row c).ownBlock = some b)
    (hw : ∀ k, k ≠ b → w'.heap[k]? = w.heap[k]?) (hn : OwnAt 0 35 22 encOp w' (L.row c) [kOp c (t0 ++ u)]) : StoreAt w' sb L (kadd K c u) Q H := by
  have hm := kfind_mem hc
  obtain ⟨cur, hcur⟩ := ownsRow_obj (h.rows _ hm) hb
  have hk : kadd K c u = K.map fun p => if p.1 = c then (p.1, p.2 ++ u) else p := by unfold kadd; rw [hc]
  have hmem : ∀ p ∈ kadd K c u, ∃ q ∈ K, p.1 = q.1 ∧ (q.1 = c → p.2 = q.2 ++ u) ∧ (q.1 ≠ c → p.2 = q.2) := by
    intro p hp
    rw [hk] at hp
    obtain ⟨q, hq, rfl⟩ := List.mem_map.1 hp
    refine ⟨q, hq, by split <;> rfl, fun e => by rw [if_pos e], fun e => by rw [if_neg e]⟩
  have huniq : ∀ q ∈ K, q.1 = c → q.2 = t0 := by
    intro q hq e
    have h1 := h.keys
    have : ∀ (l : List (Int × ByteArray)), (l.map (·.1)).Nodup → ∀ x ∈ l, ∀ y ∈ l, x.1 = y.1 → x = y := by
      intro l
      induction l with
      | nil => intro _ x hx; simp at hx
      | cons z l ih =>
        intro hnd x hx y hy exy
        rw [List.map_cons, List.nodup_cons] at hnd
        rcases List.mem_cons.1 hx with rfl | hx <;> rcases List.mem_cons.1 hy with rfl | hy
        · rfl
        · exact absurd (List.mem_map.2 ⟨y, ‹y ∈ l›, exy.symm⟩) hnd.1
        · exact absurd (List.mem_map.2 ⟨x, ‹x ∈ l›, exy⟩) hnd.1
        · exact ih hnd.2 x hx y hy exy
    have := this K h1 q hq (c, t0) hm e
    rw [this]
  refine { st := ?_, map := ?_, keys := kadd_keys K c u h.keys, rows := ?_, waits := ?_, held := ?_, rsep := ?_, wsep := ?_ }
  · exact (hw sb (cells_ne h.st hcur (by decide))).trans h.st
  · have e : (kadd K c u).map (fun p => (p.1, L.row p.1)) = K.map fun p => (p.1, L.row p.1) := by
      rw [hk, List.map_map]
      apply List.map_congr_left
      intro p _
      simp only [Function.comp]
      split <;> rfl
    rw [e]
    exact h.map.blk (hw _ (h.map.ne_cells hcur))
  · intro p hp
    obtain ⟨q, hq, e1, e2, e3⟩ := hmem p hp
    by_cases e : q.1 = c
    · rw [e1, e, e2 e, huniq q hq e]
      exact hn
    · rw [e1, e3 e]
      refine ownsRow_blk (h.rows q hq) fun g hg => hw g ?_
      rintro rfl
      exact e (h.rsep q hq _ hm (hg.trans hb.symm))
  · refine ownsRow_blk h.waits fun g hg => hw g ?_
    rintro rfl
    exact h.wsep _ hm (hb.trans hg.symm)
  · refine ownsRow_blk h.held fun g hg => hw g ?_
    obtain ⟨c2, hc2⟩ := ownsRow_obj h.held hg
    exact cells_ne hc2 hcur (by decide)
  · intro p hp q hq e
    obtain ⟨p', hp', e1, _⟩ := hmem p hp
    obtain ⟨q', hq', e2, _⟩ := hmem q hq
    rw [e1, e2] at e ⊢
    exact h.rsep p' hp' q' hq' e
  · intro p hp
    obtain ⟨p', hp', e1, _⟩ := hmem p hp
    rw [e1]
    exact h.wsep p' hp'

def SLay.with (L : SLay) (c : Int) (v : Value) : SLay := { L with row := fun x => if x = c then v else L.row x }
theorem StoreAt.fresh {w w' : World} {sb : Nat} {L : SLay} {K : List (Int × ByteArray)} {Q : List QOp} {H : List QRng} (h : StoreAt w sb L K Q H) {c : Int} {u : ByteArray} (hc : kfind K c = none) {v : Value} {g : Nat} (hv : v.ownBlock = some g) (hg : w.heap.size ≤ g)
    (hw : ∀ k, k < w.heap.size → k ≠ L.m → w'.heap[k]? = w.heap[k]?) (hmap : MapK u64V w' L.m (put (K.map fun p => (p.1, L.row p.1)) c v)) (hn : OwnAt 0 35 22 encOp w' v [kOp c u]) : StoreAt w' sb (L.with c v) (kadd K c u) Q H := by
  have hk : kadd K c u = K ++ [(c, u)] := by unfold kadd; rw [hc]
  have hne := kfind_none hc
  have hrow : ∀ p ∈ K, (L.with c v).row p.1 = L.row p.1 := fun p hp => if_neg (hne p hp)
  have hrc : (L.with c v).row c = v := if_pos rfl
  have hold : ∀ p ∈ K, ∀ b, (L.row p.1).ownBlock = some b → b < w.heap.size ∧ b ≠ L.m := fun p hp b e => by
    obtain ⟨cur, hcur⟩ := ownsRow_obj (h.rows p hp) e
    exact ⟨ownsRow_lt (h.rows p hp) b e, (h.map.ne_cells hcur).symm⟩
  have hsome : ∀ p ∈ K, ∃ b, (L.row p.1).ownBlock = some b := fun p hp => by
    obtain ⟨b, cap, e, _⟩ := OwnAt.one (h.rows p hp)
    rw [e]; exact ⟨b, rfl⟩
  rw [hk]
  refine { st := ?_, map := ?_, keys := ?_, rows := ?_, waits := ?_, held := ?_, rsep := ?_, wsep := ?_ }
  · exact (hw sb (Array.getElem?_eq_some_iff.1 h.st).1 (h.map.ne_cells h.st).symm).trans h.st
  · have e : (K ++ [(c, u)]).map (fun p => (p.1, (L.with c v).row p.1)) = put (K.map fun p => (p.1, L.row p.1)) c v := by
      have hl : look (K.map fun p => (p.1, L.row p.1)) c = none := by rw [look_kfind, hc]; rfl
      unfold put
      rw [hl, List.map_append]
      simp only [List.map_cons, List.map_nil, hrc]
      congr 1
      apply List.map_congr_left
      intro p hp
      rw [hrow p hp]
    rw [e]
    exact hmap
  · have := kadd_keys K c u h.keys
    rwa [hk] at this
  · intro p hp
    rcases List.mem_append.1 hp with hp | hp
    · rw [hrow p hp]
      exact ownsRow_blk (h.rows p hp) fun b e => hw b (hold p hp b e).1 (hold p hp b e).2
    · obtain rfl : p = (c, u) := by simpa using hp
      show OwnAt 0 35 22 encOp w' ((L.with c v).row c) [kOp c u]
      rw [hrc]; exact hn
  · refine ownsRow_blk h.waits fun b e => ?_
    obtain ⟨cur, hcur⟩ := ownsRow_obj h.waits e
    exact hw b (ownsRow_lt h.waits b e) (h.map.ne_cells hcur).symm
  · refine ownsRow_blk h.held fun b e => ?_
    obtain ⟨cur, hcur⟩ := ownsRow_obj h.held e
    exact hw b (ownsRow_lt h.held b e) (h.map.ne_cells hcur).symm
  · intro p hp q hq e
    rcases List.mem_append.1 hp with hp | hp <;> rcases List.mem_append.1 hq with hq | hq
    · rw [hrow p hp, hrow q hq] at e
      exact h.rsep p hp q hq e
    · obtain rfl : q = (c, u) := by simpa using hq
      rw [hrow p hp, hrc, hv] at e
      have := (hold p hp g e).1
      omega
    · obtain rfl : p = (c, u) := by simpa using hp
      rw [hrow q hq, hrc, hv] at e
      have := (hold q hq g e.symm).1
      omega
    · obtain rfl : p = (c, u) := by simpa using hp
      obtain rfl : q = (c, u) := by simpa using hq
      rfl
  · intro p hp
    rcases List.mem_append.1 hp with hp | hp
    · rw [hrow p hp]; exact h.wsep p hp
    · obtain rfl : p = (c, u) := by simpa using hp
      show ((L.with c v).row c).ownBlock ≠ L.wv.ownBlock
      rw [hrc, hv]
      intro e
      have := ownsRow_lt h.waits g e.symm
      omega
theorem SFoot.merge {sb : Nat} {L : SLay} {K : List (Int × ByteArray)} {c : Int} {t0 u : ByteArray} (hc : kfind K c = some t0) {b : Nat} (h : SFoot sb L (kadd K c u) b) : SFoot sb L K b := by
  rcases h with h | h | ⟨p, hp, e⟩ | h
  · exact .inl h
  · exact .inr (.inl h)
  · have hk : kadd K c u = K.map fun p => if p.1 = c then (p.1, p.2 ++ u) else p := by unfold kadd; rw [hc]
    rw [hk] at hp
    obtain ⟨q, hq, rfl⟩ := List.mem_map.1 hp
    refine .inr (.inr (.inl ⟨q, hq, ?_⟩))
    rw [← e]
    split <;> rfl
  · exact .inr (.inr (.inr h))
theorem SFoot.fresh {sb : Nat} {L : SLay} {K : List (Int × ByteArray)} {c : Int} {u : ByteArray} {v : Value} (hc : kfind K c = none) {b : Nat} (h : SFoot sb (L.with c v) (kadd K c u) b) : SFoot sb L K b ∨ v.ownBlock = some b := by
  rcases h with h | h | ⟨p, hp, e⟩ | h
  · exact .inl (.inl h)
  · exact .inl (.inr (.inl h))
  · have hk : kadd K c u = K ++ [(c, u)] := by unfold kadd; rw [hc]
    rw [hk] at hp
    rcases List.mem_append.1 hp with hp | hp
    · refine .inl (.inr (.inr (.inl ⟨p, hp, ?_⟩)))
      rw [← e]
      exact congrArg _ (if_neg (kfind_none hc p hp)).symm
    · obtain rfl : p = (c, u) := by simpa using hp
      exact .inr (by rw [← e]; exact congrArg _ (if_pos rfl).symm)
  · exact .inl (.inr (.inr (.inr h)))
end Go.Proofs.YthhbiliimdpgmaaGreatDoor
