/- A *store.Store's waiting texts and their clocks change: how that lies in memory. -/
import Derived.Test.YtaeebgljcdfolaaGreatDoorM21
import Derived.Test.YtaeebgljcdfolaaGreatDoorM18
import Derived.Test.YtaeebgljcdfolaaGreatDoorM14
import Derived.Test.YtaeebgljcdfolaaGreatDoorM05
namespace Go.Proofs.YtaeebgljcdfolaaGreatDoor
open Go.RowKit Go.Lib

theorem StoreAt.waitsTo {w w' : World} {sb : Nat} {L : SLay} {K : List (Int × ByteArray)} {Q Q' : List QOp} {H : List QRng} (h : StoreAt w sb L K Q H) {v : Value}
    (hst : w'.heap[sb]? = some (.cells #[.map (some L.m), v, L.hv] 67 (0, 0)))
    (hw : ∀ b, b < w.heap.size → b ≠ sb → L.wv.ownBlock ≠ some b → w'.heap[b]? = w.heap[b]?)
    (hown : OwnAt 0 35 22 encOp w' v Q') (hsep : v.ownBlock = L.wv.ownBlock ∨ ∀ b, v.ownBlock = some b → w.heap.size ≤ b) : StoreAt w' sb { L with wv := v } K Q' H := by
  have hrs : ∀ p ∈ K, ∀ b, (L.row p.1).ownBlock = some b → b < w.heap.size ∧ b ≠ sb ∧ L.wv.ownBlock ≠ some b := fun p hp b e => by
    obtain ⟨cur, hcur⟩ := ownsRow_obj (h.rows p hp) e
    exact ⟨ownsRow_lt (h.rows p hp) b e, cells_ne hcur h.st (by decide), fun e2 => h.wsep p hp (e.trans e2.symm)⟩
  refine { st := hst, map := ?_, keys := h.keys, rows := ?_, waits := hown, held := ?_, rsep := h.rsep, wsep := ?_ }
  · refine h.map.blk (hw _ h.map.lt (h.map.ne_cells h.st) fun e => ?_)
    obtain ⟨cur, hcur⟩ := ownsRow_obj h.waits e
    exact h.map.ne_cells hcur rfl
  · intro p hp
    exact ownsRow_blk (h.rows p hp) fun b e => hw b (hrs p hp b e).1 (hrs p hp b e).2.1 (hrs p hp b e).2.2
  · refine ownsRow_blk h.held fun b e => ?_
    obtain ⟨cur, hcur⟩ := ownsRow_obj h.held e
    refine hw b (ownsRow_lt h.held b e) (cells_ne hcur h.st (by decide)) fun e2 => ?_
    obtain ⟨cur2, hcur2⟩ := ownsRow_obj h.waits e2
    exact cells_ne hcur hcur2 (by decide) rfl
  · intro p hp
    show (L.row p.1).ownBlock ≠ v.ownBlock
    rcases hsep with e | hge
    · rw [e]; exact h.wsep p hp
    · intro e
      obtain ⟨b, cap, hv, _⟩ := OwnAt.one (h.rows p hp)
      have e1 : (L.row p.1).ownBlock = some b := by rw [hv]; rfl
      have := (hrs p hp b e1).1
      have := hge b (e ▸ e1)
      omega
theorem StoreAt.heldTo {w w' : World} {sb : Nat} {L : SLay} {K : List (Int × ByteArray)} {Q : List QOp} {H H' : List QRng} (h : StoreAt w sb L K Q H) {v : Value}
    (hst : w'.heap[sb]? = some (.cells #[.map (some L.m), L.wv, v] 67 (0, 0)))
    (hw : ∀ b, b < w.heap.size → b ≠ sb → w'.heap[b]? = w.heap[b]?) (hown : OwnAt 0 72 3 encRng w' v H') : StoreAt w' sb { L with hv := v } K Q H' := by
  refine { st := hst, map := ?_, keys := h.keys, rows := ?_, waits := ?_, held := hown, rsep := h.rsep, wsep := h.wsep }
  · exact h.map.blk (hw _ h.map.lt (h.map.ne_cells h.st))
  · intro p hp
    refine ownsRow_blk (h.rows p hp) fun b e => ?_
    obtain ⟨cur, hcur⟩ := ownsRow_obj (h.rows p hp) e
    exact hw b (ownsRow_lt (h.rows p hp) b e) (cells_ne hcur h.st (by decide))
  · refine ownsRow_blk h.waits fun b e => ?_
    obtain ⟨cur, hcur⟩ := ownsRow_obj h.waits e
    exact hw b (ownsRow_lt h.waits b e) (cells_ne hcur h.st (by decide))
theorem SFoot.waitsTo {sb : Nat} {L : SLay} {K : List (Int × ByteArray)} {v : Value} {b : Nat} (h : SFoot sb { L with wv := v } K b) : SFoot sb L K b ∨ v.ownBlock = some b := by
  rcases h with h | h | h | h | h
  · exact .inl (.inl h)
  · exact .inl (.inr (.inl h))
  · exact .inl (.inr (.inr (.inl h)))
  · exact .inr h
  · exact .inl (.inr (.inr (.inr (.inr h))))
theorem SFoot.heldTo {sb : Nat} {L : SLay} {K : List (Int × ByteArray)} {v : Value} {b : Nat} (h : SFoot sb { L with hv := v } K b) : SFoot sb L K b ∨ v.ownBlock = some b := by
  rcases h with h | h | h | h | h
  · exact .inl (.inl h)
  · exact .inl (.inr (.inl h))
  · exact .inl (.inr (.inr (.inl h)))
  · exact .inl (.inr (.inr (.inr (.inl h))))
  · exact .inr h
/-- blocks other than the tables' are touched. -/
def TabFree (F : Nat → Prop) : Prop := ¬ F (Tryz.valid_ren.g 3) ∧ ¬ F (Tryz.valid_ren.g 4)
theorem Tabs.mods {F : Nat → Prop} {w w' : World} (h : Tabs w) (hm : Mods F w w') (hf : TabFree F) : Tabs w' := by
  have lt : ∀ {a : Addr} {v : Value}, w.cell? a = some v → a.block < w.heap.size := fun {a v} hc => by
    rcases Nat.lt_or_ge a.block w.heap.size with h' | h'
    · exact h'
    · simp [World.cell?, Array.getElem?_eq_none h'] at hc
  have key : ∀ {a : Addr} {v : Value}, w.cell? a = some v → ¬ F a.block → w'.cell? a = some v := fun {a v} hc hn => (World.cell?_of_block (w := w) (hm.block _ (lt hc) hn)).trans hc
  exact ⟨fun c hc => key (h.1 c hc) hf.1, fun i hi => ⟨key (h.2 i hi).1 hf.2, key (h.2 i hi).2 hf.2⟩⟩
/-- the blocks of a store that lie below are no others. -/
theorem StoreIn.low {w : World} {F : Nat → Prop} {sb : Nat} {K : List (Int × ByteArray)} {Q : List QOp} {H : List QRng} (h : StoreIn w F sb K Q H) : StoreIn w (fun b => F b ∧ b < w.heap.size) sb K Q H := by
  obtain ⟨L, h1, h2⟩ := h
  exact ⟨L, h1, fun b hb => ⟨h2 b hb, h1.foot_lt b hb⟩⟩
theorem StoreIn.to {w : World} {F G : Nat → Prop} {sb : Nat} {K : List (Int × ByteArray)} {Q : List QOp} {H : List QRng} (h : StoreIn w F sb K Q H) (hg : ∀ b, F b → b < w.heap.size → G b) : StoreIn w G sb K Q H := by
  obtain ⟨L, h1, h2⟩ := h
  exact ⟨L, h1, fun b hb => hg b (h2 b hb) (h1.foot_lt b hb)⟩
end Go.Proofs.YtaeebgljcdfolaaGreatDoor
/- Plain law: pieces of texts. -/
namespace Go.Proofs.YtaeebgljcdfolaaGreatDoor

theorem runesB_ok (s : ByteArray) : ∀ r ∈ runesB s, okRune r := by
  unfold runesB
  cases h : runesL s.data.toList with
  | none => simp
  | some rs => exact (runesL_of h).2
theorem runesB_estr {rs : List Int} (h : ∀ r ∈ rs, okRune r) : runesB (estr rs) = rs ∧ okB (estr rs) = true := by
  unfold runesB okB
  rw [estr_bytes h, runesL_enc h]
  exact ⟨rfl, rfl⟩
theorem runesB_cut (t : ByteArray) (f e : Nat) : runesB (cutB t f e) = ((runesB t).take e).drop f ∧ okB (cutB t f e) = true :=
  runesB_estr fun r hr => runesB_ok t r (List.mem_of_mem_take (List.mem_of_mem_drop hr))
theorem cutB_cutB (t : ByteArray) (f e a b : Nat) (h : f + b ≤ e) : cutB (cutB t f e) a b = cutB t (f + a) (f + b) := by
  unfold cutB
  have h1 := (runesB_cut t f e).1
  unfold cutB at h1
  rw [h1]
  congr 1
  rw [List.take_drop, List.drop_drop, List.take_take, Nat.min_eq_left h]
theorem cutB_all {t : ByteArray} (h : okB t = true) {e : Nat} (he : (runesB t).length ≤ e) : cutB t 0 e = t := by
  unfold okB at h
  obtain ⟨rs, hrs⟩ := Option.isSome_iff_exists.1 h
  have h1 := (text_of_runes hrs).1
  have h2 : runesB t = rs := by unfold runesB; rw [hrs]; rfl
  unfold cutB
  rw [List.take_of_length_le he, List.drop_zero, h2]
  exact h1.symm
theorem cutB_len (t : ByteArray) (f e : Nat) (he : e ≤ (runesB t).length) : (runesB (cutB t f e)).length = e - f := by
  rw [(runesB_cut t f e).1]
  simp; omega
theorem runes_size {t : ByteArray} (h : okB t = true) : t.size ≤ 4 * (runesB t).length ∧ (runesB t).length ≤ t.size := by
  refine ⟨?_, runesB_le t⟩
  unfold okB at h
  obtain ⟨rs, hrs⟩ := Option.isSome_iff_exists.1 h
  obtain ⟨h1, h3⟩ := text_of_runes hrs
  have h2 : runesB t = rs := by unfold runesB; rw [hrs]; rfl
  rw [h2, h1, estr_size h3]
  exact (ebytes_length rs).2
theorem cutB_append (t : ByteArray) {f m e : Nat} (h1 : f ≤ m) (h2 : m ≤ e) : cutB t f m ++ cutB t m e = cutB t f e := by
  unfold cutB
  rw [← estr_append]
  congr 1
  apply List.ext_getElem?
  intro k
  rw [List.getElem?_append]
  simp only [List.length_drop, List.length_take, List.getElem?_drop, List.getElem?_take]
  split
  · rename_i h
    rw [if_pos (by omega), if_pos (by omega)]
  · rename_i h
    by_cases h3 : m ≤ (runesB t).length
    · rw [Nat.min_eq_left h3] at h ⊢
      rw [show m + (k - (m - f)) = f + k by omega]
    · rw [Nat.min_eq_right (by omega)] at h ⊢
      rw [List.getElem?_eq_none (l := runesB t) (by omega), List.getElem?_eq_none (l := runesB t) (by omega)]
      simp

/-- the piece of a client's text. -/
def pc (c : Int) (t : ByteArray) (f e : Nat) : QOp := cutT ⟨c, 1⟩ idZero idZero t f e
def pcL (c : Int) (f : Nat) : QId := if 0 < f then ⟨c, (1 : Int) + f - 1⟩ else idZero
theorem pc_eq (c : Int) (t : ByteArray) (f e : Nat) : pc c t f e = tOp ⟨c, 1 + f⟩ (pcL c f) idZero (cutB t f e) := rfl
theorem pc_cut (c : Int) (t : ByteArray) (f e a b : Nat) (h : f + b ≤ e) : cutT ⟨c, 1 + f⟩ (pcL c f) idZero (cutB t f e) a b = pc c t (f + a) (f + b) := by
  rw [pc_eq]
  unfold cutT pcL
  rw [cutB_cutB t f e a b h]
  have e1 : (1 : Int) + (f : Int) + (a : Int) = 1 + ((f + a : Nat) : Int) := by omega
  dsimp only
  rw [e1]
  by_cases ha : 0 < a
  · rw [if_pos ha, if_pos (show 0 < f + a by omega)]
  · obtain rfl : a = 0 := by omega
    rw [if_neg ha]
    rfl
theorem pc_whole (c : Int) {t : ByteArray} (h : okB t = true) {e : Nat} (he : (runesB t).length ≤ e) : pc c t 0 e = tOp ⟨c, 1⟩ idZero idZero t := by
  rw [pc_eq, cutB_all h he]
  rfl
theorem pc_rng (c : Int) (t : ByteArray) (f e : Nat) (hf : f ≤ e) (he : e ≤ (runesB t).length) : tRng ⟨c, 1 + f⟩ (cutB t f e) = ⟨c, 1 + f, 1 + e⟩ := by
  unfold tRng
  rw [cutB_len t f e he]
  dsimp only
  congr 1
  omega
/-- a text's pieces are right operations. -/
theorem pc_good (c : Int) (t : ByteArray) (f e : Nat) (hc : numB c = true) (hf : f < e) (he : e ≤ (runesB t).length) (hl : (runesB t).length ≤ 4096) : GoodT ⟨c, 1 + f⟩ (pcL c f) idZero (cutB t f e) := by
  have hcl := cutB_len t f e he
  have hok := (runesB_cut t f e).2
  have hsz := runes_size hok
  have hid : ∀ k : Nat, 1 ≤ k → k ≤ 5000 → (⟨c, (k : Int)⟩ : QId).rightB = true := fun k h1 h2 => by
    simp only [numB, Bool.and_eq_true, decide_eq_true_eq] at hc
    simp only [QId.rightB, numB, Bool.and_eq_true, decide_eq_true_eq]; omega
  refine { id := ?_, ok := ?_, fits := ?_, ln := ?_, rn := by simp [QId.namedB], lo := ?_, ro := ?_ }
  · have := hid (1 + f) (by omega) (by omega)
    rwa [show (((1 + f : Nat)) : Int) = 1 + (f : Int) by omega] at this
  · unfold okT
    rw [hok]
    simp; omega
  · show (1 : Int) + f + _ - 1 ≤ _
    omega
  · unfold pcL
    split
    · have := hid f (by omega) (by omega)
      rw [show (f : Int) = 1 + (f : Int) - 1 by omega] at this
      unfold QId.namedB
      rw [this]; simp
    · simp [QId.namedB]
  · rw [pc_rng c t f e (by omega) he]
    unfold pcL
    split
    · simp [hasRngs, QRng.hasB]
      omega
    · simp [hasRngs, QId.rightB, numB, idZero]
  · simp [hasRngs, QId.rightB, numB, idZero]
end Go.Proofs.YtaeebgljcdfolaaGreatDoor
/- Plain law: what a piece that comes to wait leaves. -/
namespace Go.Proofs.YtaeebgljcdfolaaGreatDoor

theorem clean_within {xs : List QRng} {r : QRng} (h : CleanL xs) (hw : ∀ i, hasRngs xs i = true → hasRngs [r] i = true) : ∀ x ∈ xs, x.c = r.c ∧ r.a ≤ x.a ∧ x.a < x.b ∧ x.b ≤ r.b := by
  intro x hx
  have hr := h.1 x hx
  have hl := right_lt hr
  have key : ∀ k : Int, x.a ≤ k → k < x.b → r.inR ⟨x.c, k⟩ := fun k h1 h2 => by
    have hh : x.hasB ⟨x.c, k⟩ = true := (near_has (right_near hr) _).2 ⟨rfl, h1, h2⟩
    have hi : (⟨x.c, k⟩ : QId).rightB = true := by simp [QId.rightB, numB]; omega
    have := hw ⟨x.c, k⟩ (by unfold hasRngs; rw [hi]; simp only [Bool.true_and, List.any_eq_true]; exact ⟨x, hx, hh⟩)
    simp only [hasRngs, List.any_cons, List.any_nil, Bool.or_false, Bool.and_eq_true] at this
    have h3 := this.2
    simp only [QRng.hasB, Bool.and_eq_true, decide_eq_true_eq] at h3
    exact ⟨h3.1.1.2, h3.1.2, h3.2⟩
  have h1 := key x.a (Int.le_refl _) hl.1
  have h2 := key (x.b - 1) (by omega) (by omega)
  obtain ⟨e1, e2, e3⟩ := h1
  obtain ⟨f1, f2, f3⟩ := h2
  dsimp only at *
  exact ⟨e1.symm, e2, hl.1, by omega⟩
theorem clean_len : ∀ (xs : List QRng) (c lo hi : Int), CleanL xs → (∀ x ∈ xs, x.c = c ∧ lo ≤ x.a ∧ x.a < x.b ∧ x.b ≤ hi) → (xs.length : Int) ≤ max (hi - lo) 0
  | [], _, _, _, _, _ => by simp; omega
  | x :: xs, c, lo, hi, h, hb => by
    obtain ⟨h1, h2⟩ := h
    obtain ⟨hp1, hp2⟩ := List.pairwise_cons.1 h2
    have hx := hb x (by simp)
    have := clean_len xs c (lo + 1) hi ⟨fun r hr => h1 r (by simp [hr]), hp2⟩ fun y hy => by
      have := hb y (by simp [hy])
      have := hp1 y hy
      omega
    simp only [List.length_cons]
    omega
/-- the clocks of a piece that aren't known. -/
def waitRng (n : Int) (c I J : Int) : QRng := ⟨c, if I ≤ n then min (n + 1) J else I, J⟩
/-- the piece over a range of clocks. -/
def pcR (t : ByteArray) (x : QRng) : QOp := pc x.c t (x.a - 1).toNat (x.b - 1).toNat
theorem pcR_eq (t : ByteArray) (c : Int) (f a b : Nat) : pcR t ⟨c, 1 + (f : Int) + (a : Int), 1 + (f : Int) + (b : Int)⟩ = pc c t (f + a) (f + b) := by
  unfold pcR
  dsimp only
  congr 1 <;> omega
end Go.Proofs.YtaeebgljcdfolaaGreatDoor
