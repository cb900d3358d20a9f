/-
  Proved: quirelaw15.EditEnds returns true for every input, and its arguments read behind the call as they read before. Condition: the two listed tables of the library (unicode/utf8.acceptRanges, unicode/utf8.first) read as the program's text lays them; the card ties them to it.
-/
import Derived.Test.YthhbiliimdpgmaaGreatDoorM47
import Derived.Test.YthhbiliimdpgmaaGreatDoorM49
import Derived.Test.YthhbiliimdpgmaaGreatDoorM34
import Derived.Test.YthhbiliimdpgmaaGreatDoorM07
import Derived.Test.YthhbiliimdpgmaaGreatDoorTie
import Derived.Test.YthhbiliimdpgmaaGreatDoorCards
import Derived.WalkKit
import Derived.ProofKit
import Derived.Lib.LaidU8T
import Derived.Lay
import Derived.SevenTiedAt
/- EditEnds' parts: the document of the law's set, what Make answers in it and in an empty one. -/
namespace Go.Proofs.YthhbiliimdpgmaaGreatDoor
open Go.RowKit Go.Lib

theorem clean41 : CleanClk [⟨4, 1⟩] := by constructor <;> simp <;> decide
def SetDoc (n : Nat) (s : Int) (w : World) : Prop := ∃ hv, DocC n w [(4, .int .u64 1)] [] hv noS s ∧ MapsIn w (fun b => b < w.heap.size) (n + 10) (QMaps.empty.set (setO s)) ∧ SeqZ n w ∧ w.cell? ⟨n + 10, 2, none⟩ = some noS
theorem SetDoc.below {n : Nat} {s : Int} {w w' : World} (h : SetDoc n s w) (hb : Below w.heap.size w w') : SetDoc n s w' := by
  obtain ⟨hv, hd, ⟨L, hm, _⟩, hs, hc⟩ := h
  have hl := hd.lt
  exact ⟨hv, hd.keep fun b g => hb.block b (by omega), ⟨L, hm.below hb, (hm.below hb).foot_lt⟩, hs.keep fun b g => hb.block b (by omega), (World.cell?_of_block (w := w) (hb.block (n + 10) (by omega))).trans hc⟩
theorem next_set (n : Nat) (s : Int) (w : World) (h : SetDoc n s w) :
    Calls Tryz.prog 12 #[.pointer (some ⟨n + 11, 0, none⟩), .int .u64 9] w fun e w' => e = .returned (.int .u64 1) ∧ Below w.heap.size w w' := by
  obtain ⟨hv, hd, hm, hs, hc⟩ := h
  exact editNext_any n 9 [⟨4, 1⟩] w (vector_one n 4 1 [] hv noS s w hd (by decide) (by decide) (by decide) (by decide)) clean41 (by decide) (by decide)
/-- Make's answer with the error x. -/
def MakeX (x : Int) (w : World) (e : Ending) (w' : World) : Prop :=
  ∃ (p1 : Option Addr) (n1 c1 : Nat) (p2 : Option Addr) (n2 c2 : Nat), e = .returned (.tuple #[.agg #[.slice p1 n1 c1, .slice p2 n2 c2], .int .i64 x]) ∧ Below w.heap.size w w'
theorem MakeR.x {Q : Value → Value → World → Prop} {w : World} {e : Ending} {w' : World} (h : MakeR Q w e w') : MakeX 0 w e w' := by
  obtain ⟨p1, n1, c1, p2, n2, c2, he, hb, _⟩ := h
  exact ⟨p1, n1, c1, p2, n2, c2, he, hb⟩
theorem make_s (n : Nat) (s : Int) (w : World) (h : SetDoc n s w) (hT : Tabs w) (hs1 : 1 ≤ s) (hs2 : s ≤ 9007199254740991) :
    Calls Tryz.prog 9 #[.pointer (some ⟨n + 11, 0, none⟩), .int .u64 9, edV 5 0 0 ⟨#[]⟩ valZero bk (.slice none 0 0)] w (MakeX (if s = 9007199254740991 then 155 else 0) w) := by
  have hmd : ∀ w', Below w.heap.size w w' → Calls Tryz.prog 26 #[.pointer (some ⟨n + 11, 0, none⟩), .int .u64 9, edV 5 0 0 ⟨#[]⟩ valZero bk (.slice none 0 0)] w' (MadeS s w') := fun w' hb => by
    have h' := h.below hb
    obtain ⟨hv, hd, hm, hs, hc⟩ := h'
    exact made_set n s _ _ _ hv noS w' hd hs hm (fun _ h => h) hc (hT.below hb) hs1 hs2 fun W hW => next_set n s W ((h.below hb).below hW)
  by_cases he : s = 9007199254740991
  · rw [if_pos he]
    refine (make_fail n 9 155 5 0 0 ⟨#[]⟩ valZero bk none 0 0 w fun w' hb => (hmd w' hb).mono ?_).mono ?_
    · rintro e w2 (⟨hl, _⟩ | ⟨_, he, hb⟩)
      · omega
      · exact ⟨he, hb⟩
    · rintro e w' ⟨he, hb⟩
      exact ⟨_, _, _, _, _, _, he, hb⟩
  · rw [if_neg he]
    refine (make_op w (oS s) n 9 5 0 0 ⟨#[]⟩ valZero bk none 0 0 fun w' hb => (hmd w' hb).mono ?_).mono fun e w' h => h.x
    rintro e w2 (⟨_, h⟩ | ⟨hl, _⟩)
    · exact h
    · exact absurd hl he
theorem make_i (n : Nat) (s : Int) (t : ByteArray) (w : World) (h : SetDoc n s w) (hT : Tabs w) (ht : okT t = true) (hts : t.size ≤ 1000000) :
    Calls Tryz.prog 9 #[.pointer (some ⟨n + 11, 0, none⟩), .int .u64 9, edV 1 0 0 t valZero ⟨#[]⟩ (.slice none 0 0)] w (MakeX 0 w) := by
  refine (make_op w (tOp ⟨9, 1⟩ idZero idZero t) n 9 1 0 0 t valZero ⟨#[]⟩ none 0 0 fun w' hb => ?_).mono fun e w' h => h.x
  have h' := h.below hb
  obtain ⟨hv, hd, hm, hs, hc⟩ := h'
  exact made_insert n 9 t _ _ hv noS s w' hd hs (fun W hW => next_set n s W ((h.below hb).below hW)) (by decide) (by decide) ht hts (hT.below hb)
theorem make_m (n : Nat) (t : ByteArray) (w : World) (h : DocZ n w) (hT : Tabs w) (ht : okT t = true) (hts : t.size ≤ 1000000) :
    Calls Tryz.prog 9 #[.pointer (some ⟨n + 11, 0, none⟩), .int .u64 9007199254740991, edV 1 0 0 t valZero ⟨#[]⟩ (.slice none 0 0)] w (MakeX 0 w) := by
  have hl := h.c.lt
  refine (make_op w (tOp ⟨9007199254740991, 1⟩ idZero idZero t) n 9007199254740991 1 0 0 t valZero ⟨#[]⟩ none 0 0 fun w' hb => ?_).mono fun e w' h => h.x
  have h' : DocZ n w' := h.keep fun b g1 g2 => hb.block b (by omega)
  have hl' := h'.c.lt
  refine made_insert n 9007199254740991 t [] [] noS noS 0 w' h'.c h'.sq (fun W hW => ?_) (by decide) (by decide) ht hts (hT.below hb)
  have hd : DocC n W [] [] noS noS 0 := h'.c.keep fun b g => hW.block b (by omega)
  exact editNext_any n 9007199254740991 [] W (vector_none n [] noS noS 0 W hd) clean_nil (by decide) (by decide)
theorem make_x (n : Nat) (t : ByteArray) (w : World) :
    Calls Tryz.prog 9 #[.pointer (some ⟨n + 11, 0, none⟩), .int .u64 9007199254740992, edV 1 0 0 t valZero ⟨#[]⟩ (.slice none 0 0)] w (MakeX 154 w) := by
  refine (make_fail n 9007199254740992 154 1 0 0 t valZero ⟨#[]⟩ none 0 0 w fun w' _ => made_client n 9007199254740992 1 0 0 t valZero ⟨#[]⟩ none 0 0 w' (by decide) (by decide) (.inr (by decide))).mono ?_
  rintro e w' ⟨he, hb⟩
  exact ⟨_, _, _, _, _, _, he, hb⟩
theorem apply_s (n rb : Nat) (s : Int) (w : World) (hd : DocZ n w) (hT : Tabs w) (hF : TabFree fun b => n ≤ b) (hrb : OpCells w rb 0 (setO s)) (hlt : rb < w.heap.size) (hrn : n + 11 < rb) (hs1 : 1 ≤ s) (hs2 : s ≤ 9007199254740991) :
    Calls Tryz.prog 7 #[.pointer (some ⟨n + 11, 0, none⟩), .agg #[.slice (some ⟨rb, 0, none⟩) 1 1, .slice none 0 0]] w fun e w' => e = .returned (.tuple #[.bool true, .int .i64 0]) ∧ SetDoc n s w' ∧ Mods (fun b => n ≤ b ∧ b < n + 12) w w' := by
  refine (apply_set n rb 1 s w hd hT hF hrb hlt hrn hs1 hs2).mono ?_
  rintro e w' ⟨rfl, hv, hdc, _, ⟨z, _, ⟨L, hm, _⟩, hs, _, hc⟩, hmd⟩
  exact ⟨rfl, ⟨hv, hdc, ⟨L, hm, hm.foot_lt⟩, hs, hc⟩, hmd.mono fun k hk => by unfold WG mF at hk; omega⟩
end Go.Proofs.YthhbiliimdpgmaaGreatDoor
/- Walk: quirelaw15.EditEnds. -/
namespace Go.Proofs.YthhbiliimdpgmaaGreatDoor
open Go.RowKit Go.Lib

def abh : ByteArray := ⟨#[97, 98, 99, 100, 101, 102, 103, 104]⟩
theorem abh_ok (r : Nat) (h : r < 8) : okT (abh.extract 0 (1 + r)) = true ∧ (abh.extract 0 (1 + r)).size ≤ 1000000 := by
  have : r = 0 ∨ r = 1 ∨ r = 2 ∨ r = 3 ∨ r = 4 ∨ r = 5 ∨ r = 6 ∨ r = 7 := by omega
  rcases this with rfl | rfl | rfl | rfl | rfl | rfl | rfl | rfl <;> decide
set_option maxRecDepth 100000 in
set_option maxHeartbeats 4000000 in
theorem editEnds_any (left k : Int) (stamp : Bool) (w : World) (hT : Tabs w) : Calls Tryz.prog 3 #[.int .i64 left, .int .i64 k, .bool stamp] w fun e w' => e = .returned (.bool true) ∧ Below w.heap.size w w' := by
  have hkn := known15_any w hT
  have hp6 := fun w => placeE6 left w
  have hp8 := fun w => placeE8 k w
  go_enter Tryz.func3, Tryz.ntmps3
  go_upto_region 4 with (first | (go_at_call 4; refine hkn.mono ?_; rintro e w1 ⟨rfl, hb1⟩) | (go_at_call_of 5 (Value.int .i64 left); refine (hp6 _).mono ?_; rintro e w2 ⟨r6, rfl, h6, rfl⟩) | (go_at_call_of 5 (Value.int .i64 k); refine (hp8 _).mono ?_; rintro e w3 ⟨r8, rfl, h8, rfl⟩))
  have hT1 := hT.below hb1
  have hnew := docNew_any w1
  have hF := tabFree_new hT1
  have hz := hb1.size
  obtain ⟨n, hn⟩ : ∃ n, n = w1.heap.size := ⟨_, rfl⟩
  rw [← hn] at hnew hF
  have HN := Lib.hid hn
  clear hn hkn hp6 hp8
  go_upto_region 5 with (go_at_call 6; refine hnew.mono ?_; rintro e w2 ⟨rfl, hz2, hs2, hb2⟩)
  have hT2 : Tabs w2 := hT1.below (HN.out ▸ hb2)
  have hb2' : Below w1.heap.size w1 w2 := HN.out ▸ hb2
  have hB2 := belowTrans hb1 hb2'
  have hd8 : (1 + (r8 : Int)) ≤ 8 := by omega
  have hd0 : (0 : Int) ≤ 1 + (r8 : Int) := by omega
  go_upto_region 6 with fail
  obtain ⟨hok, hsz⟩ := abh_ok r8 h8
  unfold abh at hok hsz
  obtain ⟨T, hTx⟩ : ∃ T, T = (⟨#[97, 98, 99, 100, 101, 102, 103, 104]⟩ : ByteArray).extract 0 (1 + r8) := ⟨_, rfl⟩
  rw [← hTx] at hok hsz ⊢
  clear hTx hd8 hd0 hnew
  have hl2 := hz2.c.lt
  cases stamp with
  | false =>
    have hmm := make_m n T w2 hz2 hT2 hok hsz
    have hmx := fun w => make_x n T w
    unfold edV at hmm hmx
    go_upto_region 15 with (go_at_call 9; refine hmm.mono ?_; rintro e w3 ⟨p1, n1, c1, p2, n2, c2, rfl, hb3⟩)
    have hb4 : Below w2.heap.size w2 (w3.alloc (.cells #[.slice p1 n1 c1, .slice p2 n2 c2] 42)) := hb3.alloc hb3.size _
    generalize w3.alloc (.cells #[.slice p1 n1 c1, .slice p2 n2 c2] 42) = W4 at hb4 ⊢
    clear hmm hb3
    go_upto_region 16 with (go_at_call 9; refine (hmx _).mono ?_; rintro e w5 ⟨p3, n3, c3, p4, n4, c4, rfl, hb5⟩)
    have hb6 : Below w2.heap.size w2 (w5.alloc (.cells #[.slice p3 n3 c3, .slice p4 n4 c4] 42)) := (belowTrans hb4 hb5).alloc (belowTrans hb4 hb5).size _
    generalize w5.alloc (.cells #[.slice p3 n3 c3, .slice p4 n4 c4] 42) = W6 at hb6 ⊢
    have hd6 : DocC n W6 [] [] noS noS 0 := hz2.c.keep fun b g => hb6.block b (by omega)
    have hvn := vector_none n [] noS noS 0 W6 hd6
    have hra := fun p c w => refAt_none p c 9 w
    clear hmx hb4 hb5
    go_wp2_with (first | (go_at_call 11; refine hvn.mono ?_; rintro e w7 ⟨v, rfl, ho7, hb7⟩; obtain ⟨p7, c7, rfl⟩ : ∃ p c, v = .slice p 0 c := ownsRow_len ho7) | (go_at_call 10; refine (hra _ _ _).mono ?_; rintro e w8 ⟨rfl, hb8⟩))
    go_ret
    exact ⟨rfl, belowTrans (belowTrans (belowTrans hB2 hb6) hb7) hb8⟩
  | true =>
    have HS2 := Lib.hid hs2
    clear hs2
    have hw1 : IntKind.u64.wrap (r6 : Int) = r6 := by simp [IntKind.wrap, IntKind.bits, IntKind.signed]; omega
    have hw2 : IntKind.u64.wrap (9007199254740991 - (r6 : Int)) = 9007199254740991 - (r6 : Int) := by simp [IntKind.wrap, IntKind.bits, IntKind.signed]; omega
    go_upto_region 8 with (refine wpList_store_eq (T := 35) (v := opV (setO (9007199254740991 - (r6 : Int)))) rfl rfl rfl rfl (OpBox.store (OpBox.new w2 opZero) (setO (9007199254740991 - (r6 : Int)))) ?_)
    have hbx3 : OpBox (putOp (w2.alloc (.cells (encOp opZero).toArray 35)) w2.heap.size (setO (9007199254740991 - (r6 : Int)))) w2.heap.size (setO (9007199254740991 - (r6 : Int))) := (OpBox.new w2 opZero).put _
    have hb3 : Below w2.heap.size w2 (putOp (w2.alloc (.cells (encOp opZero).toArray 35)) w2.heap.size (setO (9007199254740991 - (r6 : Int)))) := below_putOp ((Below.refl _ _).alloc (Nat.le_refl _) _) (Nat.le_refl _) _
    generalize putOp (w2.alloc (.cells (encOp opZero).toArray 35)) w2.heap.size (setO (9007199254740991 - (r6 : Int))) = W3 at hbx3 hb3 ⊢
    obtain ⟨bo, hbo⟩ : ∃ bo, bo = w2.heap.size := ⟨_, rfl⟩
    have hbn : bo = n + 12 := hbo.trans HS2.out
    have hz3 : DocZ n W3 := hz2.keep fun b g1 g2 => hb3.block b (by omega)
    have hT3 := hT2.below hb3
    have hB3 := belowTrans hB2 hb3
    rw [← hbo] at hbx3 ⊢
    have HBN := Lib.hid hbn
    have hw3 : n + 12 ≤ W3.heap.size := by have := hb3.size; omega
    clear hbo hbn
    have hlx := hbx3.lt
    have hbx5 : OpBox (W3.alloc (.cells (encOp (setO (9007199254740991 - (r6 : Int)))).toArray 35)) W3.heap.size (setO (9007199254740991 - (r6 : Int))) := OpBox.new W3 _
    have hb5 : Below W3.heap.size W3 (W3.alloc (.cells (encOp (setO (9007199254740991 - (r6 : Int)))).toArray 35)) := (Below.refl _ _).alloc (Nat.le_refl _) _
    obtain ⟨W5, hW5⟩ : ∃ W5, W3.alloc (.cells (encOp (setO (9007199254740991 - (r6 : Int)))).toArray 35) = W5 := ⟨_, rfl⟩
    rw [hW5] at hbx5 hb5
    have hT5 := hT3.below hb5
    have hB5 := belowTrans hB3 hb5
    have hap := apply_s n W3.heap.size (9007199254740991 - (r6 : Int)) W5 (hz3.keep fun b g1 g2 => hb5.block b (by omega)) hT5 hF (fun i y hy => by have := hbx5.cells i y hy; simpa using this) hbx5.lt (by omega) (by omega) (by omega)
    clear hw3
    go_upto_region 9 with (first | (refine wpList_load_eq (T := 35) (v := opV (setO (9007199254740991 - (r6 : Int)))) rfl rfl rfl hbx3.load ?_) | (refine wpList_sliceOp (setO (9007199254740991 - (r6 : Int))) rfl _ rfl rfl ?_; rw [hW5]; clear hW5) | (go_at_call 7; refine hap.mono ?_; rintro e w6 ⟨rfl, hsd, hm6⟩))
    have hT6 := hT5.mods hm6 ⟨fun h => hF.1 h.1, fun h => hF.2 h.1⟩
    have hn0 : w.heap.size ≤ n := by have := HN.out; omega
    have hB6 : Below w.heap.size w w6 := ⟨hm6.os.trans hB5.os, hm6.tape.trans hB5.tape, hm6.output.trans hB5.output, Nat.le_trans hB5.size hm6.size, fun k hk => (hm6.block k (Nat.lt_of_lt_of_le hk hB5.size) (by omega)).trans (hB5.block k hk)⟩
    have hbx6 : OpBox w6 bo (setO (9007199254740991 - (r6 : Int))) := (hm6.block bo (Nat.lt_of_lt_of_le hlx hb5.size) (by have := HBN.out; omega)).trans ((hb5.block bo hlx).trans hbx3)
    clear hap hbx3 hbx5 hb5 hm6 hB5 hB3
    have x3 : ∀ s : BStep w6, s.val.cell? ⟨bo, 3, none⟩ = some (.int .u64 (9007199254740991 - (r6 : Int))) := BStep.cell hbx6.lt (hbx6.cells 3 _ rfl)
    have hsm : ∀ s : BStep w6, Calls Tryz.prog 8 #[.pointer (some ⟨n + 11, 0, none⟩)] s.val fun e w' => e = .returned (.int .u64 (9007199254740991 - (r6 : Int))) ∧ Below s.val.heap.size s.val w' := fun s => by
      obtain ⟨hv, hd, _⟩ := hsd.below s.h
      exact stamp_any n _ _ hv noS _ s.val hd
    refine wp_region_b (by kernel_rfl) (by kernel_rfl) ?_
    repeat (first | go_big_quiet_skip | (go_big_quiet_want; go_big_quiet_op; first | go_big_quiet_on | go_big_quiet_call ((go_at_call 8; exact callsB (hsm _)))))
    refine wpQuiet_nil ?_
    intro W' hC'
    have hBW' := BStep.of hC'
    have hsd7 := hsd.below hBW'
    have hT7 := hT6.below hBW'
    have hB7 := belowTrans hB6 hBW'
    clear x3 hsm hC' hbx6 hsd hT6 hB6
    have hms := make_s n (9007199254740991 - (r6 : Int)) W' hsd7 hT7 (by omega) (by omega)
    unfold edV bk at hms
    obtain ⟨X, hX⟩ : ∃ X : Int, X = if (9007199254740991 - (r6 : Int)) = 9007199254740991 then 155 else 0 := ⟨_, rfl⟩
    rw [← hX] at hms
    go_upto_region 12 with (go_at_call 9; refine hms.mono ?_; rintro e w8 ⟨p1, n1, c1, p2, n2, c2, rfl, hb8⟩)
    have hb9 : Below W'.heap.size W' (w8.alloc (.cells #[.slice p1 n1 c1, .slice p2 n2 c2] 42)) := hb8.alloc hb8.size _
    generalize w8.alloc (.cells #[.slice p1 n1 c1, .slice p2 n2 c2] 42) = W9 at hb9 ⊢
    have hmi := make_i n (9007199254740991 - (r6 : Int)) T W9 (hsd7.below hb9) (hT7.below hb9) hok hsz
    have hB9 := belowTrans hB7 hb9
    unfold edV at hmi
    clear hms hb8 hb9 hsd7 hT7
    go_upto_region 13 with (go_at_call 9; refine hmi.mono ?_; rintro e w10 ⟨p3, n3, c3, p4, n4, c4, rfl, hb10⟩)
    have hB11 : Below w.heap.size w (w10.alloc (.cells #[.slice p3 n3 c3, .slice p4 n4 c4] 42)) := (belowTrans hB9 hb10).alloc (belowTrans hB9 hb10).size _
    generalize w10.alloc (.cells #[.slice p3 n3 c3, .slice p4 n4 c4] 42) = W11 at hB11 ⊢
    clear hmi hb10
    rcases Nat.eq_zero_or_pos r6 with h0 | h0
    · subst h0
      obtain rfl : X = 155 := by rw [hX]; simp
      clear hX
      go_wp2
      go_ret
      exact ⟨rfl, hB11⟩
    · have hpz : (0 : Int) < (r6 : Int) := by omega
      obtain rfl : X = 0 := by rw [hX, if_neg (by omega)]
      clear hX
      go_wp2
      go_ret
      exact ⟨rfl, hB11⟩
end Go.Proofs.YthhbiliimdpgmaaGreatDoor
namespace Go.Proofs.YthhbiliimdpgmaaGreatDoor.editEnds
open Go.ChangeShapes Go.WideShapes Go.ChangeAt Go.RowKit Go.Shelf Go.Lib

theorem own : ownKnob Tryz.prog.godebug = none := by kernel_rfl
theorem laidOut : laidOutB Tryz.prog = true := by kernel_rfl
set_option maxRecDepth 100000 in
theorem first_eq : Rows.laid_unicode_utf8_first = firstData := by kernel_rfl
set_option maxRecDepth 100000 in
theorem accept_eq : (Rows.laid_unicode_utf8_acceptRanges : DataW Unit) = acceptData := by kernel_rfl

set_option maxRecDepth 100000 in
theorem lifted (os : Os) (started : os.Started) (H : Type) (enc : TypeId × Value → H) :
    ReturnsInHanded {} Tryz.checked os 3 .any (fun w args => (Rows.editEndsSpec.pre enc Tryz.prog Tryz.f3 [] false w args ∧ laidMetH Tryz.prog Rows.editEndsRow.laid w) ∧ sizedMet enc Tryz.prog Tryz.f3 (OpenSpec.ofChange Rows.editEndsSpec) false w args)
      (Rows.editEndsSpec.post enc Tryz.prog Tryz.f3 false true false false) := by
  refine returnsInHanded_of_change_and (C := Tryz.checked) (X := fun w _ => laidMetH Tryz.prog Rows.editEndsRow.laid w) (fun _ _ _ hh h => h.of_heap hh) own started (by kernel_rfl) Tryz.func3
    (ChangeSpec.witness_shaped (enc := enc) (C := Tryz.checked) (os := os) (X := fun w _ => laidMetH Tryz.prog Rows.editEndsRow.laid w) false (World.laidAll Tryz.prog os Rows.editEndsRow.laid) #[.int .i64 0, .int .i64 0, .bool false] 8 (World.laidAll_os _ _ _)
      (World.shaped_of_ZipB (by kernel_rfl) (by kernel_rfl)) (by kernel_rfl) (by kernel_rfl) (by kernel_rfl)
      (by rw [MakeChecks.laidMetH_plain _ _ _ (by kernel_rfl)]; exact laidMet_laidAll _ (by kernel_rfl) (by kernel_rfl))) ?_
  intro W base args ds gs before hval0 hW _ _ hL _
  have hval : ∀ (j : Nat) t v, Tryz.f3.params[j]? = some t → args[j]? = some v → Value.okWide Tryz.prog W .any base t v := hval0
  have hW' := hW
  obtain ⟨p, q, hA0, hV, rfl, _, _⟩ := hW
  have hA : DataW.TrodAll enc Tryz.prog W 0 (fun _ => true) true Tryz.f3.params.toList args.toList ds p := hA0
  rw [Tryz.params3] at hA hval
  obtain ⟨v0, vs0, d0, ds0, p0, q0, hargs, rfl, rfl, h0, r0⟩ := trodAll_cons hA
  obtain ⟨v1, vs1, d1, ds1, p1, q1, rfl, rfl, rfl, h1, r1⟩ := trodAll_cons r0
  obtain ⟨v2, vs2, d2, ds2, p2, q2, rfl, rfl, rfl, h2, r2⟩ := trodAll_cons r1
  obtain ⟨rfl, rfl, rfl⟩ := trodAll_nil r2
  obtain rfl : args = #[v0, v1, v2] := by cases args; simp_all
  obtain ⟨rfl, rfl⟩ := trodVars_none hV
  obtain ⟨z0, rfl⟩ := okWide_int Tryz.underlying3 (hval 0 3 v0 rfl rfl)
  obtain ⟨z1, rfl⟩ := okWide_int Tryz.underlying3 (hval 1 3 v1 rfl rfl)
  obtain ⟨z2, rfl⟩ := okWide_bool Tryz.underlying4 (hval 2 4 v2 rfl rfl)
  have k0 := h0
  have k1 := h1
  have k2 := h2
  have lt0 : ∀ x ∈ p0, x.block < W.heap.size := by obtain ⟨m, hm⟩ := k0; exact DataW.trod_lt m _ _ _ hm
  have lt1 : ∀ x ∈ p1, x.block < W.heap.size := by obtain ⟨m, hm⟩ := k1; exact DataW.trod_lt m _ _ _ hm
  have lt2 : ∀ x ∈ p2, x.block < W.heap.size := by obtain ⟨m, hm⟩ := k2; exact DataW.trod_lt m _ _ _ hm
  clear hA0 hval0
  rw [MakeChecks.laidMetH_plain _ _ _ (by kernel_rfl)] at hL
  have hT : Tabs W := utf8Tabs_of_readsT (U8Types.of196 Tryz.valid) ⟨by kernel_rfl, by kernel_rfl, by kernel_rfl, by kernel_rfl, by kernel_rfl, by kernel_rfl, by kernel_rfl⟩
    (first_eq ▸ Lib.laidMet.reads hL (.tail _ (.head _))) (accept_eq ▸ Lib.laidMet.reads hL (.head _))
  refine (editEnds_any z0 z1 z2 W hT).mono fun e W' ⟨he, bel⟩ => ?_
  subst he
  exact ⟨_, rfl, _, _, _, [], _, [], hW', trodAll_mk1 (shut_bool Tryz.underlying4 _), (trodAll_cons_mk (Below.trod laidOut (by kernel_rfl) (of_decide_eq_true (by kernel_rfl)) k0 bel lt0) (trodAll_cons_mk (Below.trod laidOut (by kernel_rfl) (of_decide_eq_true (by kernel_rfl)) k1 bel lt1) (trodAll_cons_mk (Below.trod laidOut (by kernel_rfl) (of_decide_eq_true (by kernel_rfl)) k2 bel lt2) trodAll_mk0))), rfl, bel.frame _, fun h => by cases h⟩

theorem holds : Rows.EditEndsSaid :=
  OpenClaim.holds_of_wide 3 Tryz.f3 rfl rfl rfl rfl rfl rfl rfl ⟨rfl, rfl, rfl, rfl, rfl⟩ rfl rfl rfl rfl rfl (by kernel_rfl) Tryz.func3 (by kernel_rfl)
    (of_decide_eq_true (by kernel_rfl)) (by unfold Func.isWrapper; first | (rw [if_pos (by decide +kernel)]; kernel_rfl) | (rw [if_neg (by decide +kernel)]; exact ⟨rfl, rfl⟩))
    (fun os started H enc _ => lifted os started H enc)

/-- THE CARD -/
theorem proved : Rows.EditEndsCardSaid :=
  Claim7.holds_tied_plain_at .later [] [.data, .pinned] true (true, "d1d6304fe57cf68f4d43d1eb1880e2606bf5062628af4f7d86a0769a3923f312") true holds (fun _ h => by cases h) (by kernel_rfl) (fun _ h => by cases h) editEnds_row_tie rfl ⟨rfl, rfl⟩ (by kernel_rfl) rfl
    (fun f fn hf hfn => by
      obtain rfl : f = 3 := Option.some.inj ((show Tryz.prog.funcNamed "quire/quirelaw15.EditEnds" = some 3 by kernel_rfl).symm.trans hf) |>.symm
      obtain rfl : fn = Tryz.f3 := (Option.some.inj (Tryz.func3.symm.trans hfn)).symm
      exact ⟨by kernel_rfl, fun j t ht => by
        rw [Tryz.params3] at ht
        have hm : t ∈ [3, 3, 4] := by simpa using Array.mem_of_getElem? ht
        have hall : ([3, 3, 4].all fun u => !Tryz.prog.wantsStandIn u) = true := by kernel_rfl
        exact (show Tryz.prog.wantsStandIn t = false by simpa using List.all_eq_true.1 hall t hm)⟩)
    (by kernel_rfl)
#print axioms proved
end Go.Proofs.YthhbiliimdpgmaaGreatDoor.editEnds
