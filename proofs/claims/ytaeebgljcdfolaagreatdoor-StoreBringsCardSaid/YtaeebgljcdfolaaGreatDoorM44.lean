/- Walk: the law's closed example (quirelaw10.known). -/
import Derived.Test.YtaeebgljcdfolaaGreatDoorM38
import Derived.Test.YtaeebgljcdfolaaGreatDoorM40
import Derived.Test.YtaeebgljcdfolaaGreatDoorM43
namespace Go.Proofs.YtaeebgljcdfolaaGreatDoor
open Go.RowKit Go.Lib

/-- a box of an operation among what a step keeps. -/
theorem Grows.box {F F' : Nat → Prop} {w w' : World} (h : Grows F F' w w') {X : Nat} {o : QOp} (hx : OpBox w X o) (hn : ¬ F X) : OpBox w' X o ∧ ¬ F' X := by
  have hl := hx.lt
  refine ⟨(h.2.block X hl hn).trans hx, fun g => ?_⟩
  rcases h.1 X g with g | g
  · exact hn g
  · omega
theorem k_next_none {F : Nat → Prop} {sb : Nat} {H : List QRng} {w w' : World} {en : Ending} (h : NextS 1 kTx F sb [] [pc 1 sAbc 2 3] H w en w') : ∃ F', en = .returned (.tuple #[opV opZero, .bool false]) ∧ BM F' sb [] [pc 1 sAbc 2 3] H w' ∧ Grows F F' w w' := by
  rcases h with ⟨F', _, rfl, h1, h2⟩ | ⟨F', k, c, f, e, H', h1, h2, h3, h4, h5, h6, _⟩
  · exact ⟨F', rfl, h1, h2⟩
  · exfalso
    have hm := List.mem_of_getElem? h1
    have : pc c (kTx c) f e = pc 1 sAbc 2 3 := by simpa using hm
    refine k_none_ready (pc 1 sAbc 2 3) (by simp) ?_
    rw [← this]
    unfold readyO
    rw [pc_eq]
    show (1 : Int) + f ≤ kcount [] c + 1
    omega
theorem k_next_c {F : Nat → Prop} {sb : Nat} {H : List QRng} (hH : ∀ i, hasRngs H i = hasRngs [(⟨1, 3, 4⟩ : QRng)] i) {w w' : World} {en : Ending} (h : NextS 1 kTx F sb [(1, sAb)] [pc 1 sAbc 2 3] H w en w') :
    ∃ F', en = .returned (.tuple #[opV (pc 1 sAbc 2 3), .bool true]) ∧ BM F' sb [(1, sAb)] [] [] w' ∧ Grows F F' w w' := by
  rcases h with ⟨F', h0, _⟩ | ⟨F', k, c, f, e, H', h1, h2, h3, h4, h5, h6, rfl, h7, h8, h9, h10⟩
  · exact absurd k_ab_ready (h0 _ (by simp))
  · have hc : c = 1 := by omega
    subst hc
    have hf : f = 2 := by have := k_ab_count; omega
    subst hf
    have he : e = 3 := by have := kWhole 1; omega
    subst he
    have hk : k = 0 := by have := (List.getElem?_eq_some_iff.1 h1).1; simp at this; omega
    subst hk
    obtain rfl : H' = [] := clean_none h9 fun i => by
      rw [h10 i, hH i]
      show (hasRngs [(⟨1, 3, 4⟩ : QRng)] i && !hasRngs [(⟨1, 3, 4⟩ : QRng)] i) = false
      simp
    exact ⟨F', rfl, h7, h8⟩
theorem k_ab_small : KSmall [((1 : Int), sAb)] := fun p hp => by
  obtain rfl : p = (1, sAb) := by simpa using hp
  decide
theorem k_ab_few : KFew [((1 : Int), sAb)] := ⟨by decide, fun p hp => by
  obtain rfl : p = (1, sAb) := by simpa using hp
  unfold u64B
  decide⟩
theorem k_ab_ok : ∀ c ∈ ([((1 : Int), sAb)]).map (·.1), 1 ≤ c ∧ c ≤ 9007199254740991 ∧ 1 ≤ kcount [((1 : Int), sAb)] c ∧ kcount [((1 : Int), sAb)] c ≤ 9007199254740991 := fun c hc => by
  obtain rfl : c = 1 := by simpa using hc
  rw [k_ab_count]
  decide
theorem k_add_bc {F : Nat → Prop} {sb : Nat} {w : World} (h : BM F sb [(1, sAb)] [] [] w) :
    Calls Tryz.prog 13 #[.pointer (some ⟨sb, 0, none⟩), opV (tOp ⟨1, 2⟩ ⟨1, 2 - 1⟩ idZero sBc)] w (AddS F sb [(1, sAbc)] [] [] (pc 1 sAbc 2 3) w) := by
  have hg : GoodT ⟨1, 2⟩ ⟨1, 2 - 1⟩ idZero sBc := by
    have := pc_good 1 sAbc 1 3 (by decide) (by decide) (by rw [abc_len]; decide) (by rw [abc_len]; decide)
    rw [abc_13] at this
    exact this
  have hlab : (runesB sAb).length = 2 := by decide +kernel
  have hlc : (runesB sC).length = 1 := by decide +kernel
  have := add_more F sb [(1, sAb)] [] [] ⟨1, 2⟩ ⟨1, 2 - 1⟩ idZero sBc sAb sC 2 w h.st k_ab_small h.tabs hg (by decide) (by decide) (by decide +kernel) (by rw [hlab]; rfl) (by decide) (by rw [hlc]; decide) (fun w2 hst hT => by
    have h9 := rest_cut F sb [(1, sAb)] [] [] ⟨1, 2⟩ ⟨1, 2 - 1⟩ idZero sBc 1 w2 hst k_ab_small hT (by decide) (by decide) (by rw [k_ab_count]; decide) (by rw [k_ab_count]; decide) (by decide) (by rw [bc_len]; decide) (by decide)
    rw [bc_len] at h9
    have e1 : cutT ⟨1, 2⟩ ⟨1, 2 - 1⟩ idZero sBc 1 2 = tOp ⟨1, 1 + 2⟩ ⟨1, 1 + 2 - 1⟩ idZero sC := by
      unfold cutT
      rw [bc_12]
      rfl
    rw [e1] at h9
    exact h9)
  have e2 : tOp ⟨1, 1 + 2⟩ ⟨1, 1 + 2 - 1⟩ idZero sC = pc 1 sAbc 2 3 := k_c
  rw [k_abc_add, e2] at this
  exact this.mono fun en w' hr => AddR.step h hr
theorem k_text23 : (pc 1 sAbc 2 3).text = ⟨#[99]⟩ := abc_23
theorem k_text13 : (pc 1 sAbc 1 3).text = ⟨#[98, 99]⟩ := abc_13
theorem k_abc_small : KSmall [((1 : Int), sAbc)] := fun p hp => by
  obtain rfl : p = (1, sAbc) := by simpa using hp
  decide
theorem k_abc_few : KFew [((1 : Int), sAbc)] := ⟨by decide, fun p hp => by
  obtain rfl : p = (1, sAbc) := by simpa using hp
  unfold u64B
  decide⟩
theorem k_vec (w : World) (k : Int) : SliceAt 2 encIdv (w.alloc (.cells #[.int .u64 1, .int .u64 k] 53)) (.slice (some ⟨w.heap.size, 0, none⟩) 1 1) [(⟨1, k⟩ : QId)] := by
  refine .inr ⟨w.heap.size, 0, 1, rfl, by simp, by simp, fun j x hj i y hi => ?_⟩
  obtain ⟨rfl, rfl⟩ : j = 0 ∧ (⟨1, k⟩ : QId) = x := by
    rcases j with _ | j
    · exact ⟨rfl, by simpa using hj⟩
    · simp at hj
  match i, hi with
  | 0, hi => cases hi; go_simp
  | 1, hi => cases hi; go_simp
theorem k_new : newOf [((1 : Int), sAbc)] [(⟨1, 1⟩ : QId)] 1 = pc 1 sAbc 1 3 := by
  have h1 : (kfind [((1 : Int), sAbc)] 1).getD ⟨#[]⟩ = sAbc := by decide +kernel
  have h2 : (atClk [(⟨1, 1⟩ : QId)] 1).toNat = 1 := by decide +kernel
  unfold newOf
  rw [h1, h2, abc_len]
theorem k_since (F : Nat → Prop) (sb : Nat) (w : World) (h : BM F sb [(1, sAbc)] [] [] w) {v : Value} (hv : SliceAt 2 encIdv w v [(⟨1, 1⟩ : QId)]) :
    Calls Tryz.prog 16 #[.pointer (some ⟨sb, 0, none⟩), v] w (RetW fun v' w' => OwnAt w.heap.size 35 22 encOp w' v' [pc 1 sAbc 1 3] ∧ Below w.heap.size w w') := by
  have hS : KSince [((1 : Int), sAbc)] [(⟨1, 1⟩ : QId)] :=
    ⟨fun p hp => by obtain rfl : p = (1, sAbc) := by simpa using hp
                    exact abc_ok,
     fun p hp => by obtain rfl : p = (1, sAbc) := by simpa using hp
                    decide,
     fun p hp => by obtain rfl : p = (1, sAbc) := by simpa using hp
                    show (runesB sAbc).length ≤ 4096
                    rw [abc_len]; decide,
     fun p hp => by obtain rfl : p = (1, sAbc) := by simpa using hp
                    show atClk _ 1 < ((runesB sAbc).length : Int)
                    rw [abc_len]; decide +kernel⟩
  refine (since_any F sb [(1, sAbc)] [] [] v [⟨1, 1⟩] w h.st k_abc_few hS h.tabs hv ⟨fun x hx => ?_, by simp⟩ (by simp)).mono ?_
  · obtain rfl : x = ⟨1, 1⟩ := by simpa using hx
    decide
  · rintro e w' ⟨v', rfl, ys, hp, _, ho, hb⟩
    have : ys = [1] := List.perm_singleton.1 hp
    subst this
    refine ⟨v', rfl, ?_, hb⟩
    rw [List.map_singleton, k_new] at ho
    exact ho
theorem k_known {w w' : World} {v : Value} (h : KnownR [((1 : Int), sAbc)] w v w') : OwnAt w.heap.size 53 2 encIdv w' v [(⟨1, 3⟩ : QId)] ∧ Below w.heap.size w w' := by
  obtain ⟨ys, hp, _, ho, hb⟩ := h
  have : ys = [1] := List.perm_singleton.1 hp
  subst this
  rw [List.map_singleton, show kcount [((1 : Int), sAbc)] 1 = 3 by decide +kernel] at ho
  exact ⟨ho, hb⟩
theorem Grows.low {F F' : Nat → Prop} {w0 w w' : World} {S : Nat} (h : Grows F F' w w') (hB : Below S w0 w) (hF : ∀ b, F b → S ≤ b) (hS : S ≤ w.heap.size) (hS0 : S ≤ w0.heap.size) : Below S w0 w' ∧ ∀ b, F' b → S ≤ b := by
  obtain ⟨h1, h2⟩ := h
  refine ⟨⟨h2.os.trans hB.os, h2.tape.trans hB.tape, h2.output.trans hB.output, Nat.le_trans hB.size h2.size, fun b hb => (h2.block b (by omega) fun g => by have := hF b g; omega).trans (hB.block b hb)⟩, fun b g => ?_⟩
  rcases h1 b g with g | g
  · exact hF b g
  · omega
set_option maxRecDepth 100000 in
set_option maxHeartbeats 8000000 in
theorem known10_any (w : World) (hT : Tabs w) : Calls Tryz.prog 4 #[] w fun e w' => e = .returned (.bool true) ∧ Below w.heap.size w w' := by
  have hnew := BM.start w hT
  go_enter Tryz.func4, Tryz.ntmps4
  go_upto_region 4 with (go_at_call 7; refine hnew.mono ?_; rintro e w1 ⟨rfl, hM1, hB1⟩)
  clear hnew
  have ht2 := text10_pc 1 3 sC w1 (by decide) (by decide)
  rw [k_c] at ht2
  go_upto_region 5 with (first | (go_at_call 5; refine ht2.mono ?_; rintro e w2 ⟨rfl, hb2⟩; have hM2 := hM1.below hb2; have hB2 := belowTrans hB1 hb2) | (go_at_call 10; refine (hM2.wait kTexts (BInv.start 1 kTx) (c := 1) (f := 2) (e := 3) (by decide) (by decide) (by decide) (by rw [kWhole]; decide)).mono ?_; rintro e w3 ⟨rfl, F3, l, H3, hM3, hI3, hg3, _, hh3⟩))
  rw [List.nil_append] at hM3 hI3
  have hh3' : ∀ i, hasRngs H3 i = hasRngs [(⟨1, 3, 4⟩ : QRng)] i := fun i => by
    rw [hh3 i, show waitRng (kcount [] 1) 1 (1 + ((2 : Nat) : Int)) (1 + ((3 : Nat) : Int)) = ⟨1, 3, 4⟩ by decide +kernel]
    simp [hasRngs]
  obtain rfl := k_wait hI3 hh3'
  have hS2 : w.heap.size ≤ w2.heap.size := hB2.size
  obtain ⟨hB3, hF3⟩ := hg3.low hB2 (fun b g => g.1) hS2 (Nat.le_refl _)
  have HH3 := Lib.hid hh3'
  have HI3 := Lib.hid hI3
  clear hh3 hh3' hg3 hM1 hM2 ht2 hb2 hB1 hB2 hS2
  have hnx := hM3.next kTexts HI3.out
  go_upto_region 6 with (first | (go_at_call 12; refine hnx.mono ?_; rintro e w4 hN4; obtain ⟨F4, rfl, hM4, hg4⟩ := k_next_none hN4) | (refine wpList_store_eq (T := 35) (v := opV opZero) rfl rfl rfl rfl (OpBox.store (OpBox.new w4 opZero) opZero) ?_))
  try go_frame
  have hBc : Below w4.heap.size w4 (putOp (w4.alloc (.cells (encOp opZero).toArray 35)) w4.heap.size opZero) := below_putOp ((Below.refl _ _).alloc (Nat.le_refl _) _) (Nat.le_refl _) _
  obtain ⟨hB4, hF4⟩ := hg4.low hB3 hF3 hB3.size (Nat.le_refl _)
  have hM5 := hM4.below hBc
  have hB5 := belowTrans hB4 hBc
  generalize putOp (w4.alloc (.cells (encOp opZero).toArray 35)) w4.heap.size opZero = w5 at hM5 hB5 ⊢
  clear hBc hM4 hB4 hg4 hnx hM3 hB3 hF3
  have ht5 := text10_one 1 sAb w5
  rw [k_ab] at ht5
  have hadd : ∀ w6, BM F4 (w.heap.size + 1) [] [pc 1 sAbc 2 3] H3 w6 → Calls Tryz.prog 13 #[.pointer (some ⟨w.heap.size + 1, 0, none⟩), opV (pc 1 sAbc 0 2)] w6 (AddS F4 (w.heap.size + 1) [(1, sAb)] [pc 1 sAbc 2 3] H3 (pc 1 sAbc 0 2) w6) := fun w6 hM6 => by
    have := hM6.add kTexts HI3.out (c := 1) (f := 0) (e := 2) (by decide) (by decide) (by decide) (by rw [kWhole]; decide) (by decide +kernel)
    rw [show cutB (kTx 1) 0 2 = sAb from abc_02, k_ab_add] at this
    exact this
  go_upto_region 7 with (first | (go_at_call 5; refine ht5.mono ?_; rintro e w6 ⟨rfl, hb6⟩; have hM6 := hM5.below hb6; have hB6 := belowTrans hB5 hb6) | (go_at_call 13; refine (hadd _ hM6).mono ?_; rintro e w7 ⟨F7, B7, rfl, _, _, _, hM7, hg7⟩))
  obtain ⟨hB7, hF7⟩ := hg7.low hB6 hF4 hB6.size (Nat.le_refl _)
  clear hadd ht5 hM5 hb6 hM6 hB6 hg7 hF4 hB5
  have hnx := hM7.next kTexts (k_ab_inv HI3.out)
  go_upto_region 8 with (first | (go_at_call 12; refine hnx.mono ?_; rintro e w8 hN8; obtain ⟨F8, rfl, hM8, hg8⟩ := k_next_c HH3.out hN8) | (refine wpList_store_eq (T := 35) (v := opV (pc 1 sAbc 2 3)) rfl rfl rfl rfl (OpBox.store (OpBox.new w8 opZero) (pc 1 sAbc 2 3)) ?_))
  try go_frame
  have hBc : Below w8.heap.size w8 (putOp (w8.alloc (.cells (encOp opZero).toArray 35)) w8.heap.size (pc 1 sAbc 2 3)) := below_putOp ((Below.refl _ _).alloc (Nat.le_refl _) _) (Nat.le_refl _) _
  have hx8 : OpBox (putOp (w8.alloc (.cells (encOp opZero).toArray 35)) w8.heap.size (pc 1 sAbc 2 3)) w8.heap.size (pc 1 sAbc 2 3) := (OpBox.new w8 opZero).put _
  obtain ⟨hB8, hF8⟩ := hg8.low hB7 hF7 hB7.size (Nat.le_refl _)
  have hM9 := hM8.below hBc
  have hB9 := belowTrans hB8 hBc
  have hn9 : ¬ F8 w8.heap.size := fun g => Nat.lt_irrefl _ (hM8.lt _ g)
  generalize putOp (w8.alloc (.cells (encOp opZero).toArray 35)) w8.heap.size (pc 1 sAbc 2 3) = w9 at hM9 hB9 hx8 ⊢
  generalize w8.heap.size = X5 at hx8 hn9 ⊢
  clear hBc hM8 hB8 hg8 hnx hM7 hB7 hF7
  have hwt := waiting_none F8 (w.heap.size + 1) [(1, sAb)] [] [] w9 hM9.st k_ab_small k_ab_few hM9.tabs (by simp) (fun i => by simp [hasRngs]) k_ab_ok
  have ht9 := fun w => text10_pc 1 2 sBc w (by decide) (by decide)
  go_upto_region 9 with (go_at_call 14; refine hwt.mono ?_; rintro e w10 ⟨rfl, hb10⟩)
  have hM10 := hM9.below hb10
  have hB10 := belowTrans hB9 hb10
  have hx10 := hx8.below hb10 hx8.lt
  clear hwt hM9 hB9 hx8 hb10
  have hadd : ∀ w6, BM F8 (w.heap.size + 1) [(1, sAb)] [] [] w6 → Calls Tryz.prog 13 #[.pointer (some ⟨w.heap.size + 1, 0, none⟩), opV (tOp ⟨1, 2⟩ ⟨1, 2 - 1⟩ idZero sBc)] w6 (AddS F8 (w.heap.size + 1) [(1, sAbc)] [] [] (pc 1 sAbc 2 3) w6) := fun w6 hM6 => k_add_bc hM6
  go_upto_region 10 with (first | (go_at_call 5; refine (ht9 _).mono ?_; rintro e w11 ⟨rfl, hb11⟩; have hM11 := hM10.below hb11; have hB11 := belowTrans hB10 hb11; have hx11 := hx10.below hb11 hx10.lt) | (go_at_call 13; refine (hadd _ hM11).mono ?_; rintro e w12 ⟨F12, B12, rfl, hy12, hB12, hn12, hM12, hg12⟩))
  obtain ⟨hB12b, hF12⟩ := hg12.low hB11 hF8 hB11.size (Nat.le_refl _)
  obtain ⟨hx12, hnx12⟩ := hg12.box hx11 hn9
  clear hadd ht9 hM10 hB10 hx10 hb11 hM11 hB11 hx11 hg12 hn9 hF8 hB12
  have hget : ∀ w6, BM F12 (w.heap.size + 1) [(1, sAbc)] [] [] w6 → Calls Tryz.prog 18 #[.pointer (some ⟨w.heap.size + 1, 0, none⟩), .agg #[.int .u64 1, .int .u64 3]] w6 fun e w' => e = .returned (.tuple #[opV (pc 1 sAbc 2 3), .bool true]) ∧ Below w6.heap.size w6 w' := fun w6 h6 =>
    get_any F12 (w.heap.size + 1) [(1, sAbc)] [] [] 1 sAbc 2 w6 h6.st h6.tabs (by decide +kernel) (by decide) (by decide) (by rw [abc_len]; decide)
  go_upto_region 11 with (first | (go_at_call 18; refine (hget _ hM12).mono ?_; rintro e w13 ⟨rfl, hb13⟩) | (refine wpList_store_eq (T := 35) (v := opV (pc 1 sAbc 2 3)) rfl rfl rfl rfl (OpBox.store (OpBox.new w13 opZero) (pc 1 sAbc 2 3)) ?_))
  try go_frame
  have hBc : Below w13.heap.size w13 (putOp (w13.alloc (.cells (encOp opZero).toArray 35)) w13.heap.size (pc 1 sAbc 2 3)) := below_putOp ((Below.refl _ _).alloc (Nat.le_refl _) _) (Nat.le_refl _) _
  have hz14 : OpBox (putOp (w13.alloc (.cells (encOp opZero).toArray 35)) w13.heap.size (pc 1 sAbc 2 3)) w13.heap.size (pc 1 sAbc 2 3) := (OpBox.new w13 opZero).put _
  have hb14 := belowTrans hb13 hBc
  have hM14 := hM12.below hb14
  have hB14 := belowTrans hB12b hb14
  have hx14 := hx12.below hb14 hx12.lt
  have hy14 := hy12.below hb14 hy12.lt
  generalize putOp (w13.alloc (.cells (encOp opZero).toArray 35)) w13.heap.size (pc 1 sAbc 2 3) = w14 at hM14 hB14 hx14 hy14 hz14 ⊢
  generalize w13.heap.size = X9 at hz14 ⊢
  clear hBc hb14 hM12 hB12b hx12 hy12 hget hb13
  have hB15 : Below w14.heap.size w14 (w14.alloc (.cells #[.int .u64 1, .int .u64 1] 53)) := (Below.refl _ _).alloc (Nat.le_refl _) _
  have hv15 := k_vec w14 1
  have hsi := k_since F12 (w.heap.size + 1) (w14.alloc (.cells #[.int .u64 1, .int .u64 1] 53)) (hM14.below hB15) hv15
  go_upto_region 12 with (go_at_call 16; refine hsi.mono ?_; rintro e w16 ⟨v16, rfl, ho16, hb16⟩)
  obtain ⟨g16, cap16, rfl, hgl16, hoc16, _⟩ := OwnAt.one ho16
  have hb17 := belowTrans hB15 hb16
  have hM16 := hM14.below hb17
  have hB16 := belowTrans hB14 hb17
  have c5 : w16.cell? ⟨X5, 8, none⟩ = some (.string ⟨#[99]⟩) := by rw [(hx14.below hb17 hx14.lt).cells 8 _ rfl, k_text23]
  have c12 : w16.cell? ⟨B12, 8, none⟩ = some (.string ⟨#[99]⟩) := by rw [(hy14.below hb17 hy14.lt).cells 8 _ rfl, k_text23]
  have c9 : w16.cell? ⟨X9, 8, none⟩ = some (.string ⟨#[99]⟩) := by rw [(hz14.below hb17 hz14.lt).cells 8 _ rfl, k_text23]
  have c16 : w16.cell? ⟨g16, 8, none⟩ = some (.string ⟨#[98, 99]⟩) := by have := hoc16 8 _ rfl; rw [Nat.zero_add] at this; rw [this, k_text13]
  clear hv15 hsi hx14 hy14 hz14 hM14 hB14 hb16 hb17 hB15 ho16 hoc16
  have hkn := knownAll_any F12 (w.heap.size + 1) [(1, sAbc)] [] [] w16 hM16.st k_abc_small k_abc_few hM16.tabs
  go_wp2_with (first | (go_at_call 20; refine hkn.mono ?_; rintro e w17 ⟨v17, rfl, hK17⟩; obtain ⟨ho17, hb17⟩ := k_known hK17; obtain ⟨p17, cap17, rfl⟩ := ownsRow_len ho17) | (go_at_call 19; refine (clocks_self _ _ [⟨1, 3⟩] _ ((OwnAt.slice (k := 2) (enc := encIdv) (fun _ => rfl) ho17).below ((Below.refl _ _).alloc (Nat.le_refl _) _)) (k_vec w17 3) (by simp)).mono ?_; rintro e w18 ⟨rfl, hb18⟩))
  go_ret
  exact ⟨rfl, belowTrans (belowTrans (belowTrans hB16 hb17) ((Below.refl _ _).alloc (Nat.le_refl _) _)) hb18⟩
end Go.Proofs.YtaeebgljcdfolaaGreatDoor
/- Walk: the law (quirelaw10.StoreBrings). -/
namespace Go.Proofs.YtaeebgljcdfolaaGreatDoor
open Go.RowKit Go.Lib

def encS (s : ByteArray) : List Value := [.string s]
/-- the whole texts, numbered from c on. -/
def wholeL : Int → List ByteArray → List QOp
  | _, [] => []
  | c, t :: r => kOp c t :: wholeL (c + 1) r
theorem wholeL_len : ∀ (ts : List ByteArray) (c : Int), (wholeL c ts).length = ts.length
  | [], _ => rfl
  | _ :: r, c => by simp [wholeL, wholeL_len r]
theorem wholeL_get : ∀ (ts : List ByteArray) (c : Int) (k : Nat) (t : ByteArray), ts[k]? = some t → (wholeL c ts)[k]? = some (kOp (c + k) t)
  | [], _, _, _, h => by simp at h
  | x :: r, c, 0, t, h => by
    obtain rfl : x = t := by simpa using h
    simp [wholeL]
  | x :: r, c, k + 1, t, h => by
    have := wholeL_get r (c + 1) k t (by simpa using h)
    rw [wholeL, List.getElem?_cons_succ, this, show c + 1 + (k : Int) = c + ((k + 1 : Nat) : Int) by omega]
theorem wholeL_take (ts : List ByteArray) (c : Int) (k : Nat) (t : ByteArray) (h : ts[k]? = some t) : wholeL c (ts.take (k + 1)) = wholeL c (ts.take k) ++ [kOp (c + k) t] := by
  induction ts generalizing c k with
  | nil => simp at h
  | cons x r ih =>
    cases k with
    | zero =>
      obtain rfl : x = t := by simpa using h
      simp [wholeL]
    | succ k =>
      have := ih (c + 1) k (by simpa using h)
      simp only [List.take_succ_cons, wholeL, this, List.cons_append]
      rw [show c + 1 + (k : Int) = c + ((k + 1 : Nat) : Int) by omega]
/-- client c's text. -/
def txOf (ts : List ByteArray) (c : Int) : ByteArray := ts.getD (c - 1).toNat ⟨#[]⟩
theorem txOf_get {ts : List ByteArray} {k : Nat} {t : ByteArray} (h : ts[k]? = some t) : txOf ts (1 + k) = t := by
  unfold txOf
  rw [show ((1 : Int) + k - 1).toNat = k by omega, List.getD, h]
  rfl
theorem texts_of {ts : List ByteArray} (hn : ts.length ≤ 5) (h : ∀ t ∈ ts, okT t = true ∧ t.size ≤ 60) : Texts ts.length (txOf ts) := ⟨hn, fun c h1 h2 => by
  obtain ⟨k, hk⟩ : ∃ k : Nat, c = 1 + k := ⟨(c - 1).toNat, by omega⟩
  subst hk
  have hlt : k < ts.length := by omega
  rw [txOf_get (t := ts[k]) (by simp [hlt])]
  obtain ⟨g1, g2⟩ := h ts[k] (by simp)
  obtain ⟨k1, k2, k3⟩ := okT_iff g1
  have := runes_size k1
  exact ⟨k1, by omega, by omega⟩⟩
theorem join_of {ts : List ByteArray} (hn : ts.length ≤ 5) (h : ∀ t ∈ ts, okT t = true ∧ t.size ≤ 60) : JoinK (wholeL 1 ts) := by
  refine ⟨fun o ho => ?_, ?_⟩
  · obtain ⟨k, hk⟩ := List.mem_iff_getElem?.1 ho
    have hlt : k < ts.length := by rw [← wholeL_len ts 1]; exact (List.getElem?_eq_some_iff.1 hk).1
    rw [wholeL_get ts 1 k ts[k] (by simp [hlt])] at hk
    obtain ⟨g1, g2⟩ := h ts[k] (by simp)
    exact ⟨1 + k, ts[k], (Option.some.inj hk).symm, by omega, by omega, g1, by omega⟩
  · rw [List.pairwise_iff_getElem]
    intro i j hi hj hij
    rw [wholeL_len] at hi hj
    have e1 := wholeL_get ts 1 i ts[i] (by simp [hi])
    have e2 := wholeL_get ts 1 j ts[j] (by simp [hj])
    obtain ⟨_, e1⟩ := List.getElem?_eq_some_iff.1 e1
    obtain ⟨_, e2⟩ := List.getElem?_eq_some_iff.1 e2
    rw [e1, e2]
    show (1 : Int) + i < 1 + j
    omega
end Go.Proofs.YtaeebgljcdfolaaGreatDoor
