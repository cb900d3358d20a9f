/- The closed example's parts (quirelaw15.known): the document of the text "ab", what Make answers in it. -/
import Derived.Test.YthhbiliimdpgmaaGreatDoorM44
import Derived.Test.YthhbiliimdpgmaaGreatDoorM46
import Derived.Test.YthhbiliimdpgmaaGreatDoorM37
import Derived.Test.YthhbiliimdpgmaaGreatDoorM31
import Derived.Test.YthhbiliimdpgmaaGreatDoorM18
import Derived.Test.YthhbiliimdpgmaaGreatDoorM45
import Derived.Test.YthhbiliimdpgmaaGreatDoorM33
import Derived.Test.YthhbiliimdpgmaaGreatDoorM42
import Derived.Test.YthhbiliimdpgmaaGreatDoorM34
namespace Go.Proofs.YthhbiliimdpgmaaGreatDoor
open Go.RowKit Go.Lib

theorem clean_nil : CleanClk [] := by constructor <;> simp
theorem clean72 : CleanClk [⟨7, 2⟩] := by constructor <;> simp <;> decide
def TextDoc (n : Nat) (w : World) : Prop := ∃ hv sv b1 b2, DocC n w [(7, .int .u64 2)] [] hv noS 0 ∧ AllA n sv [b1, b2] [u71, u72] w ∧ MapsZ n w
theorem TextDoc.below {n : Nat} {w w' : World} (h : TextDoc n w) (hb : Below w.heap.size w w') : TextDoc n w' := by
  obtain ⟨hv, sv, b1, b2, hd, ha, hm⟩ := h
  have hl := hd.lt
  exact ⟨hv, sv, b1, b2, hd.keep fun b g => hb.block b (by omega), ha.below hb, hm.keep fun b g => hb.block b (by omega)⟩
theorem next_text (n : Nat) (c k : Int) (w : World) (h : TextDoc n w) (hk : atClk [⟨7, 2⟩] c + 1 = k) (hw : IntKind.u64.wrap k = k) :
    Calls Tryz.prog 12 #[.pointer (some ⟨n + 11, 0, none⟩), .int .u64 c] w fun e w' => e = .returned (.int .u64 k) ∧ Below w.heap.size w w' := by
  obtain ⟨hv, sv, b1, b2, hd, ha, hm⟩ := h
  have := editNext_any n c [⟨7, 2⟩] w (vector_one n 7 2 [] hv noS 0 w hd (by decide) (by decide) (by decide) (by decide)) clean72 (by decide) (by rw [hk]; exact hw)
  rwa [hk] at this
theorem make_a (n : Nat) (w : World) (h : DocZ n w) (hT : Tabs w) :
    Calls Tryz.prog 9 #[.pointer (some ⟨n + 11, 0, none⟩), .int .u64 7, edV 1 0 0 sab valZero ⟨#[]⟩ (.slice none 0 0)] w (MakeR (QR abO (w.heap.size + 3)) w) := by
  have hl := h.c.lt
  refine make_op w abO n 7 1 0 0 sab valZero ⟨#[]⟩ none 0 0 fun w' hb => ?_
  have h' : DocZ n w' := h.keep fun b g1 g2 => hb.block b (by omega)
  have hl' := h'.c.lt
  refine made_insert n 7 sab [] [] noS noS 0 w' h'.c h'.sq (fun W hW => ?_) (by decide) (by decide) (by decide) (by decide) (hT.below hb)
  have hd : DocC n W [] [] noS noS 0 := h'.c.keep fun b g => hW.block b (by omega)
  exact editNext_any n 7 [] W (vector_none n [] noS noS 0 W hd) clean_nil (by decide) (by decide)
theorem make_b (n : Nat) (w : World) (h : TextDoc n w) :
    Calls Tryz.prog 9 #[.pointer (some ⟨n + 11, 0, none⟩), .int .u64 7, edV 1 3 0 ⟨#[120]⟩ valZero ⟨#[]⟩ (.slice none 0 0)] w fun e w' => e = .returned (.tuple #[.agg #[.slice none 0 0, .slice none 0 0], .int .i64 150]) ∧ Below w.heap.size w w' := by
  refine make_fail n 7 150 1 3 0 _ valZero _ none 0 0 w fun w' hb => ?_
  have h' := h.below hb
  obtain ⟨hv, sv, b1, b2, hd, ha, hm⟩ := h'
  exact made_place n 3 _ _ hv noS 0 sv _ w' hd ha fun W hW => next_text n 7 3 W ((h.below hb).below hW) (by decide) (by decide)
theorem make_c (n : Nat) (w : World) :
    Calls Tryz.prog 9 #[.pointer (some ⟨n + 11, 0, none⟩), .int .u64 0, edV 1 0 0 ⟨#[120]⟩ valZero ⟨#[]⟩ (.slice none 0 0)] w fun e w' => e = .returned (.tuple #[.agg #[.slice none 0 0, .slice none 0 0], .int .i64 154]) ∧ Below w.heap.size w w' :=
  make_fail n 0 154 1 0 0 _ valZero _ none 0 0 w fun w' _ => made_client n 0 1 0 0 _ valZero _ none 0 0 w' (by decide) (by decide) (.inl (by decide))
theorem make_d (n pb : Nat) (w : World) (h : TextDoc n w) (hT : Tabs w) (hp : w.cell? ⟨pb, 0, none⟩ = some (.string bno)) (hpl : pb < w.heap.size) :
    Calls Tryz.prog 9 #[.pointer (some ⟨n + 11, 0, none⟩), .int .u64 7, edV 5 0 0 ⟨#[]⟩ valZero bk (.slice (some ⟨pb, 0, none⟩) 1 1)] w fun e w' => e = .returned (.tuple #[.agg #[.slice none 0 0, .slice none 0 0], .int .i64 153]) ∧ Below w.heap.size w w' := by
  refine make_fail n 7 153 5 0 0 _ valZero _ (some ⟨pb, 0, none⟩) 1 1 w fun w' hb => ?_
  have h' := h.below hb
  obtain ⟨hv, sv, b1, b2, hd, ha, hm⟩ := h'
  exact made_path n pb 3 _ _ hv noS 0 sv _ w' hd ha hm (hT.below hb) ((hb.cell (p := ⟨pb, 0, none⟩) hpl).trans hp) (Nat.lt_of_lt_of_le hpl hb.size) fun W hW => next_text n 7 3 W ((h.below hb).below hW) (by decide) (by decide)
theorem make_e (n : Nat) (w : World) (h : TextDoc n w) :
    Calls Tryz.prog 9 #[.pointer (some ⟨n + 11, 0, none⟩), .int .u64 8, edV 3 1 1 ⟨#[]⟩ valZero ⟨#[]⟩ (.slice none 0 0)] w (MakeR (fun a b w' => QD a b (w.heap.size + 3) w') w) := by
  refine make_del w n 8 3 1 1 ⟨#[]⟩ valZero ⟨#[]⟩ none 0 0 fun w' hb => ?_
  have h' := h.below hb
  obtain ⟨hv, sv, b1, b2, hd, ha, hm⟩ := h'
  exact made_delete n 1 _ _ hv noS 0 sv _ w' hd ha fun W hW => next_text n 8 1 W ((h.below hb).below hW) (by decide) (by decide)
/-- what Apply leaves is the document of the text. -/
theorem apply_a (n rb : Nat) (w : World) (hd : DocZ n w) (hT : Tabs w) (hF : TabFree fun b => n ≤ b) (hrb : OpCells w rb 0 abO) (hlt : rb < w.heap.size) (hrn : n + 11 < rb) :
    Calls Tryz.prog 7 #[.pointer (some ⟨n + 11, 0, none⟩), .agg #[.slice (some ⟨rb, 0, none⟩) 1 1, .slice none 0 0]] w fun e w' => e = .returned (.tuple #[.bool true, .int .i64 0]) ∧ TextDoc n w' ∧ Mods (fun b => n ≤ b) w w' := by
  refine (apply_text n rb 1 w hd hT hF hrb hlt hrn).mono ?_
  rintro e w' ⟨rfl, hv, hdc, _, ⟨s, _, _, ⟨b1, b2, ov, ha, _⟩, hm⟩, hmd⟩
  exact ⟨rfl, ⟨hv, ov, b1, b2, hdc, ha, hm⟩, hmd.mono fun k hk => by unfold WG tF at hk; omega⟩
end Go.Proofs.YthhbiliimdpgmaaGreatDoor
/- Walk: quirelaw15.known. -/
namespace Go.Proofs.YthhbiliimdpgmaaGreatDoor
open Go.RowKit Go.Lib

theorem tabFree_new {w : World} (hT : Tabs w) : TabFree fun b => w.heap.size ≤ b := by
  have lt : ∀ {b k : Nat} {v : Value}, w.cell? ⟨b, k, none⟩ = some v → b < w.heap.size := fun {b k v} hc => by
    rcases Nat.lt_or_ge b w.heap.size with h' | h'
    · exact h'
    · simp [World.cell?, Array.getElem?_eq_none h'] at hc
  have h1 := lt (hT.1 0 (by decide))
  have h2 := lt (hT.2 0 (by decide)).1
  exact ⟨fun h => by omega, fun h => by omega⟩
/-- a box of an update. -/
def uBox (w : World) (b : Nat) (x y : Value) : Prop := w.heap[b]? = some (.cells #[x, y] 42 (0, 0))
set_option maxRecDepth 100000 in
set_option maxHeartbeats 4000000 in
theorem known15_any (w : World) (hT : Tabs w) : Calls Tryz.prog 4 #[] w fun e w' => e = .returned (.bool true) ∧ Below w.heap.size w w' := by
  have hnew := docNew_any w
  have hF := tabFree_new hT
  obtain ⟨n, hn⟩ : ∃ n, n = w.heap.size := ⟨_, rfl⟩
  have HN := Lib.hid hn
  rw [← hn] at hnew hF
  clear hn
  go_enter Tryz.func4, Tryz.ntmps4
  go_upto_region 2 with (go_at_call 6; refine hnew.mono ?_; rintro e w1 ⟨rfl, hz1, hs1, hb1⟩)
  have hT1 : Tabs w1 := hT.below (HN.out ▸ hb1)
  have hma := make_a n w1 hz1 hT1
  unfold edV sab at hma
  clear hnew
  go_upto_region 3 with (go_at_call 9; refine hma.mono ?_; rintro e w2 ⟨p1, n1, c1, p2, n2, c2, rfl, hb2, ob, h1, h2, ho, hlo, hlt⟩; cases h1; cases h2)
  have hz2 := hz1.keep fun b g1 g2 => hb2.block b (by omega)
  have hT2 := hT1.below hb2
  have hub : uBox (w2.alloc (.cells #[.slice (some ⟨ob, 0, none⟩) 1 1, .slice none 0 0] 42)) w2.heap.size (.slice (some ⟨ob, 0, none⟩) 1 1) (.slice none 0 0) := World.alloc_heap_new _ _
  have hb3 : Below w2.heap.size w2 (w2.alloc (.cells #[.slice (some ⟨ob, 0, none⟩) 1 1, .slice none 0 0] 42)) := (Below.refl _ _).alloc (Nat.le_refl _) _
  generalize w2.alloc (.cells #[.slice (some ⟨ob, 0, none⟩) 1 1, .slice none 0 0] 42) = W3 at hub hb3 ⊢
  have hl2 := hz2.c.lt
  have hz3 := hz2.keep fun b g1 g2 => hb3.block b (by omega)
  have hT3 := hT2.below hb3
  have ho3 : OpCells W3 ob 0 abO := fun i y hy => (hb3.cell (p := ⟨ob, 0 + i, none⟩) hlt).trans (ho i y hy)
  have hlt3 : ob < W3.heap.size := Nat.lt_of_lt_of_le hlt hb3.size
  have hB3 : Below n w W3 := (hb1.trans (hb2.mono (by omega))).trans (hb3.mono (by omega))
  unfold uBox at hub
  have x0 : W3.cell? ⟨w2.heap.size, 0, none⟩ = some (.slice (some ⟨ob, 0, none⟩) 1 1) := by simp [World.cell?, hub]
  have x1 : W3.cell? ⟨w2.heap.size, 1, none⟩ = some (.slice none 0 0) := by simp [World.cell?, hub]
  have o0 : W3.cell? ⟨ob, 0, none⟩ = some (.int .u64 7) := ho3 0 _ rfl
  have o1 : W3.cell? ⟨ob, 1, none⟩ = some (.int .u64 1) := ho3 1 _ rfl
  have o8 : W3.cell? ⟨ob, 8, none⟩ = some (.string ⟨#[97, 98]⟩) := ho3 8 _ rfl
  have hap := apply_a n ob W3 hz3 hT3 hF ho3 hlt3 (by omega)
  have H3 := Lib.hid hub
  clear hub hma hb1 hb2 hb3 ho
  go_upto_region 6 with (go_at_call 7; refine hap.mono ?_; rintro e w4 ⟨rfl, htd, hm4⟩)
  have hT4 := hT3.mods hm4 hF
  have hB4 : Below n w w4 := ⟨hm4.os.trans hB3.os, hm4.tape.trans hB3.tape, hm4.output.trans hB3.output, Nat.le_trans hB3.size hm4.size, fun k hk => (hm4.block k (Nat.lt_of_lt_of_le (by have := HN.out; omega) hB3.size) (by omega)).trans (hB3.block k hk)⟩
  have hn4 : n ≤ w4.heap.size := by obtain ⟨_, _, _, _, hd, _⟩ := htd; have := hd.lt; omega
  clear x0 x1 o0 o1 o8 hap
  have hmb := make_b n w4 htd
  unfold edV at hmb
  go_upto_region 7 with (go_at_call 9; refine hmb.mono ?_; rintro e w5 ⟨rfl, hb5⟩)
  have hb6 : Below w4.heap.size w4 (w5.alloc (.cells #[.slice none 0 0, .slice none 0 0] 42)) := hb5.alloc hb5.size _
  generalize w5.alloc (.cells #[.slice none 0 0, .slice none 0 0] 42) = W6 at hb6 ⊢
  have htd6 := htd.below hb6
  have hT6 := hT4.below hb6
  have hB6 : Below n w W6 := hB4.trans (hb6.mono hn4)
  have hn6 : n ≤ W6.heap.size := Nat.le_trans hn4 hb6.size
  clear hmb hb5 hb6
  have hmc := make_c n W6
  unfold edV at hmc
  go_upto_region 8 with (go_at_call 9; refine hmc.mono ?_; rintro e w7 ⟨rfl, hb7⟩)
  have hb8 : Below W6.heap.size W6 (w7.alloc (.cells #[.slice none 0 0, .slice none 0 0] 42)) := hb7.alloc hb7.size _
  generalize w7.alloc (.cells #[.slice none 0 0, .slice none 0 0] 42) = W8 at hb8 ⊢
  have htd8 := htd6.below hb8
  have hT8 := hT6.below hb8
  have hB8 : Below n w W8 := hB6.trans (hb8.mono hn6)
  have hn8 : n ≤ W8.heap.size := Nat.le_trans hn6 hb8.size
  clear hmc hb7 hb8
  have hb9 : Below W8.heap.size W8 (W8.alloc (.cells #[.string ⟨#[110, 111]⟩] 9)) := (Below.refl _ _).alloc (Nat.le_refl _) _
  have hmd := make_d n W8.heap.size (W8.alloc (.cells #[.string ⟨#[110, 111]⟩] 9)) (htd8.below hb9) (hT8.below hb9) (by rw [World.cell?, World.alloc_heap_new]; rfl) (by simp)
  unfold edV bk at hmd
  go_upto_region 9 with (go_at_call 9; refine hmd.mono ?_; rintro e w9 ⟨rfl, hb9'⟩)
  have hb10 : Below W8.heap.size W8 (w9.alloc (.cells #[.slice none 0 0, .slice none 0 0] 42)) := (belowTrans hb9 hb9').alloc (belowTrans hb9 hb9').size _
  generalize w9.alloc (.cells #[.slice none 0 0, .slice none 0 0] 42) = W10 at hb10 ⊢
  have htd10 := htd8.below hb10
  have hB10 : Below n w W10 := hB8.trans (hb10.mono hn8)
  have hn10 : n ≤ W10.heap.size := Nat.le_trans hn8 hb10.size
  clear hmd hb9 hb9' hb10
  have hme := make_e n W10 htd10
  unfold edV at hme
  go_upto_region 10 with (go_at_call 9; refine hme.mono ?_; rintro e w11 ⟨p1, n1, c1, p2, n2, c2, rfl, hb11, h1, ho11⟩; cases h1; obtain ⟨g, cap, e11⟩ := ownsRow_succ ho11; cases e11)
  obtain ⟨p, cap3, e3, _, hcl⟩ := (OwnAt.slice (α := QTurn) (k := 4) (enc := encTurn) (l := [tD]) (fun _ => rfl) ho11).shape
  cases e3
  obtain ⟨b3, off3, e4, hgl, hc3⟩ := hcl 0 tD rfl
  cases e4
  have hb12 : Below w11.heap.size w11 (w11.alloc (.cells #[.slice none 0 0, .slice (some ⟨g, 0, none⟩) 1 c2] 42)) := (Below.refl _ _).alloc (Nat.le_refl _) _
  have hx12 : uBox (w11.alloc (.cells #[.slice none 0 0, .slice (some ⟨g, 0, none⟩) 1 c2] 42)) w11.heap.size (.slice none 0 0) (.slice (some ⟨g, 0, none⟩) 1 c2) := World.alloc_heap_new _ _
  generalize w11.alloc (.cells #[.slice none 0 0, .slice (some ⟨g, 0, none⟩) 1 c2] 42) = W12 at hb12 hx12 ⊢
  unfold uBox at hx12
  have y1 : W12.cell? ⟨w11.heap.size, 1, none⟩ = some (.slice (some ⟨g, 0, none⟩) 1 c2) := by simp [World.cell?, hx12]
  have g0 : W12.cell? ⟨g, 0, none⟩ = some (.int .u64 7) := (hb12.cell (p := ⟨g, 0, none⟩) hgl).trans (hc3 0 _ rfl)
  have g1 : W12.cell? ⟨g, 1, none⟩ = some (.int .u64 2) := (hb12.cell (p := ⟨g, 1, none⟩) hgl).trans (hc3 1 _ rfl)
  have g2 : W12.cell? ⟨g, 2, none⟩ = some (.int .u64 3) := (hb12.cell (p := ⟨g, 2, none⟩) hgl).trans (hc3 2 _ rfl)
  have g3 : W12.cell? ⟨g, 3, none⟩ = some (.int .u64 1) := (hb12.cell (p := ⟨g, 3, none⟩) hgl).trans (hc3 3 _ rfl)
  have hbb := belowTrans hb11 hb12
  have htd12 := htd10.below hbb
  have hB12 : Below n w W12 := hB10.trans (hbb.mono hn10)
  have hn12 : n ≤ W12.heap.size := Nat.le_trans hn10 hbb.size
  have hnx7 := next_text n 7 3 W12 htd12 (by decide) (by decide)
  have hnx9 := fun W hW => next_text n 9 1 W (htd12.below hW) (by decide) (by decide)
  clear hme hc3 hcl ho11 hx12 hb11 hb12
  go_wp2_with (first | (go_at_call_of 12 (Value.int .u64 7); refine hnx7.mono ?_; rintro e w13 ⟨rfl, hb13⟩) | (go_at_call_of 12 (Value.int .u64 9); refine (hnx9 _ hb13).mono ?_; rintro e w14 ⟨rfl, hb14⟩))
  go_ret
  have hBf := hB12.trans ((belowTrans hb13 hb14).mono hn12)
  exact ⟨rfl, HN.out ▸ hBf⟩
end Go.Proofs.YthhbiliimdpgmaaGreatDoor
/- Ranging over a map of one entry: each operation as an equation. -/
namespace Go.Proofs.YthhbiliimdpgmaaGreatDoor
open Go.RowKit Go.Lib

/-- the map's block holds one entry, laid before the clock. -/
def OneAt (w : World) (m : Nat) (k v : Value) (b clock : Nat) : Prop := w.heap[m]? = some (.map #[{ key := k, val := v, born := b }] clock) ∧ b < clock
theorem MapK.one {κ : Type} {enc : κ → Value} {w : World} {m : Nat} {x : κ} {v : Value} (h : MapK enc w m [(x, v)]) : ∃ b clock, OneAt w m (enc x) v b clock := by
  obtain ⟨es, clock, h1, h2, h3⟩ := h
  obtain ⟨e, he⟩ : ∃ e, es = #[e] := by
    have hl := congrArg List.length h2
    simp at hl
    exact Array.size_eq_one_iff.1 hl
  subst he
  simp at h2
  refine ⟨e.born, clock, ?_, h3.1 e (by simp)⟩
  rw [h1]
  congr 2
  cases e
  simp_all
theorem run_next1 {P : Program} {T : TypeId} {w : World} {r m b clock : Nat} {k v : Value} (hr : w.heap[r]? = some (.mapIter (some m) clock #[] clock)) (h : OneAt w m k v b clock) :
    (Instr.next (.pointer (some ⟨r, 0, none⟩)) false T).run P w = .ok (.tuple #[.bool true, k, v]) (w.putObj r (.mapIter (some m) clock #[b] clock)) := by
  have hb := h.2
  simp [Instr.next, Result.andThen, Sem.run_bind, getObj, setObj, Sem.run, hr, h.1, Question.forced, World.putObj, hb, Nat.not_le.2 hb]
theorem run_next1_end {P : Program} {T : TypeId} {w : World} {r m b clock : Nat} {k v : Value} (hr : w.heap[r]? = some (.mapIter (some m) clock #[b] clock)) (h : OneAt w m k v b clock) :
    (Instr.next (.pointer (some ⟨r, 0, none⟩)) false T).run P w = .ok (.tuple #[.bool false]) w := by
  have hb := h.2
  simp [Instr.next, Result.andThen, Sem.run_bind, getObj, Sem.run, hr, h.1, Question.forced, hb, Nat.not_le.2 hb]
theorem run_entry1 {P : Program} {w : World} {r m b clock : Nat} {k v : Value} (hr : w.heap[r]? = some (.mapIter (some m) clock #[b] clock)) (h : OneAt w m k v b clock) :
    (Instr.entry (.pointer (some ⟨r, 0, none⟩))).run P w = .ok (.tuple #[k, v]) w := by
  simp [Instr.entry, Result.andThen, Sem.run_bind, getObj, Sem.run, hr, h.1]
end Go.Proofs.YthhbiliimdpgmaaGreatDoor
/- Walk: does of the set, in a document without sets. -/
namespace Go.Proofs.YthhbiliimdpgmaaGreatDoor
open Go.RowKit Go.Lib

def mF (n : Nat) (b : Nat) : Prop := b = n + 8 ∨ b = n + 9 ∨ b = n + 10
theorem MapsZ.inn {n : Nat} {w : World} (h : MapsZ n w) : MapsIn w (mF n) (n + 10) QMaps.empty := ⟨mLay0 n, h, fun b hf => by
  rcases hf with e | e | e | hp | e | ⟨p, k, hne, _⟩
  · exact .inr (.inr e)
  · exact .inl e
  · exact .inr (.inl e)
  · cases hp
  · cases e
  · exact absurd rfl hne⟩
theorem setO_ok (s : Int) : QMaps.empty.setB (setO s) = true := by
  simp [QMaps.setB, QMaps.empty, setO, QMaps.has, QMaps.at_, QMaps.isMap, QId.rightB, numB, idZero]
set_option maxRecDepth 100000 in
set_option maxHeartbeats 4000000 in
theorem does_set (n : Nat) (s : Int) (kl : List (Int × Value)) (wl : List (QId × Value)) (hv : Value) (st : Int) (w : World) (hd : DocC n w kl wl hv noS st) (hm : MapsZ n w) :
    Calls Tryz.prog 72 #[.pointer (some ⟨n + 11, 0, none⟩), opV (setO s)] w fun e w' => e = .returned (.bool true) ∧ DocC n w' kl wl hv noS st ∧ MapsIn w' (fun b => mF n b ∨ w.heap.size ≤ b) (n + 10) (QMaps.empty.set (setO s)) ∧ Mods (mF n) w w' ∧ w'.cell? ⟨n + 10, 2, none⟩ = some noS := by
  have hset := fun w (h : MapsZ n w) => set_any (mF n) (n + 10) QMaps.empty (setO s) w h.inn (by simp [QMaps.empty])
  rw [setO_ok s] at hset
  change Calls Tryz.prog 72 #[.pointer (some ⟨n + 11, 0, none⟩), .agg #[.int .u64 (setO s).id.c, .int .u64 (setO s).id.k, .int .i64 (setO s).kind, .int .u64 (setO s).stamp, .int .u64 (setO s).left.c, .int .u64 (setO s).left.k, .int .u64 (setO s).right.c, .int .u64 (setO s).right.k, .string (setO s).text, .int .i64 (setO s).v.kind, .int .i64 (setO s).v.n, .float .f64 (setO s).v.f, .string (setO s).v.s, .string (setO s).key, .int .u64 (setO s).parent.c, .int .u64 (setO s).parent.k, .int .u64 (setO s).frm.c, .int .u64 (setO s).frm.k, .bool (setO s).frmA, .int .u64 (setO s).til.c, .int .u64 (setO s).til.k, .bool (setO s).tilA]] w _
  go_enter Tryz.func72, Tryz.ntmps72
  go_upto_region 1 with fail
  obtain ⟨W, hW⟩ : ∃ W, (w.alloc (.cells #[.pointer (some ⟨n + 11, 0, none⟩)] 24)).alloc (.cells (encOp (setO s)).toArray 35) = W := ⟨_, rfl⟩
  have hB : Below w.heap.size w W := by rw [← hW]; exact ((Below.refl _ _).alloc (Nat.le_refl _) _).alloc (by simp) _
  have hbx : OpBox W (w.heap.size + 1) (setO s) := by rw [← hW]; have := OpBox.new (w.alloc (.cells #[.pointer (some ⟨n + 11, 0, none⟩)] 24)) (setO s); rwa [World.size_alloc] at this
  have hp0 : W.cell? ⟨w.heap.size, 0, none⟩ = some (.pointer (some ⟨n + 11, 0, none⟩)) := by rw [← hW]; exact (cell_two w _ _ _ _ 0).1
  change Code.wp _ _ _ _ ((w.alloc (.cells #[.pointer (some ⟨n + 11, 0, none⟩)] 24)).alloc (.cells (encOp (setO s)).toArray 35))
  rw [hW]
  clear hW
  have q0 : W.cell? ⟨w.heap.size + 1, 0, none⟩ = some (.int .u64 4) := hbx.cells 0 _ rfl
  have q1 : W.cell? ⟨w.heap.size + 1, 1, none⟩ = some (.int .u64 1) := hbx.cells 1 _ rfl
  have q2 : W.cell? ⟨w.heap.size + 1, 2, none⟩ = some (.int .i64 4) := hbx.cells 2 _ rfl
  have q4 : W.cell? ⟨w.heap.size + 1, 4, none⟩ = some (.int .u64 0) := hbx.cells 4 _ rfl
  have q5 : W.cell? ⟨w.heap.size + 1, 5, none⟩ = some (.int .u64 0) := hbx.cells 5 _ rfl
  have q6 : W.cell? ⟨w.heap.size + 1, 6, none⟩ = some (.int .u64 0) := hbx.cells 6 _ rfl
  have q7 : W.cell? ⟨w.heap.size + 1, 7, none⟩ = some (.int .u64 0) := hbx.cells 7 _ rfl
  have hlt1 : w.heap.size + 1 < W.heap.size := hbx.lt
  go_wp2_with fail
  have hB2 : Below w.heap.size w (W.alloc (.cells #[.int .u64 4, .int .u64 1, .int .u64 0, .int .u64 0, .int .u64 0, .int .u64 0] 157)) := hB.alloc hB.size _
  have hbx2 : OpBox (W.alloc (.cells #[.int .u64 4, .int .u64 1, .int .u64 0, .int .u64 0, .int .u64 0, .int .u64 0] 157)) (w.heap.size + 1) (setO s) := hbx.below ((Below.refl _ _).alloc (Nat.le_refl _) _) hbx.lt
  have hp2 : (W.alloc (.cells #[.int .u64 4, .int .u64 1, .int .u64 0, .int .u64 0, .int .u64 0, .int .u64 0] 157)).cell? ⟨w.heap.size, 0, none⟩ = some (.pointer (some ⟨n + 11, 0, none⟩)) := (((Below.refl W.heap.size W).alloc (Nat.le_refl _) _).cell (p := ⟨w.heap.size, 0, none⟩) (by show w.heap.size < _; omega)).trans hp0
  generalize W.alloc (.cells #[.int .u64 4, .int .u64 1, .int .u64 0, .int .u64 0, .int .u64 0, .int .u64 0] 157) = W2 at hB2 hbx2 hp2 ⊢
  clear q0 q1 q2 q4 q5 q6 q7 hlt1 hp0 hbx hB
  generalize W.heap.size = Z
  clear W
  have hdl := hd.lt
  have hd2 := hd.keep fun b g => hB2.block b (by omega)
  have hm2 := hm.keep fun b g => hB2.block b (by omega)
  have hbl := hbx2.lt
  have p0 : ∀ t : MStep (fun _ => False) W2, t.val.cell? ⟨w.heap.size, 0, none⟩ = some (.pointer (some ⟨n + 11, 0, none⟩)) := MStep.cell (by show w.heap.size < _; omega) id hp2
  have d9 : ∀ t : MStep (fun _ => False) W2, t.val.cell? ⟨n + 11, 9, none⟩ = some (.pointer (some ⟨n + 10, 0, none⟩)) := MStep.cell hd2.lt id (hd2.cell 9 _ rfl)
  have l1 : ∀ w', (∃ t : MStep (fun _ => False) W2, w' = t.val) → (loadVar 35 ⟨w.heap.size + 1, 0, none⟩).run Tryz.prog w' = .ok (opV (setO s)) w' := by
    rintro _ ⟨t, rfl⟩
    exact OpBox.load ((t.h.block _ hbl id).trans hbx2)
  refine wp_region_flow3 5 [0, 1, 2, 3, 4] [5, 6] (fun w' => ∃ s : MStep (fun _ => False) W2, w' = s.val) (by kernel_rfl) (by kernel_rfl) (fun _ _ d _ _ h => by cases d <;> exact h) (MStep.to (Mods.refl _ _).drew) ?_
  simp only [List.map_cons, List.map_nil, List.getElem?_cons_succ, List.getElem?_cons_zero, Option.getD_some]
  repeat (first | go_big_quiet_skip | (go_big_quiet_want; first | ((refine quiet_load 35 _ _ rfl rfl l1 ?_); go_frame; go_big_quiet_on) | (go_big_quiet_op; go_big_quiet_on)))
  refine wpQuiet_nil ?_
  have hs2 := hset W2.drew (hm2.keep fun b g => rfl)
  refine wpSeqF_step rfl ?_; simp only [List.getElem_toArray, List.getElem_cons_succ, List.getElem_cons_zero]
  go_wp2_with (go_at_call 124; refine hs2.mono ?_; rintro e w3 ⟨rfl, hm3, hmm3, hhv3⟩)
  refine wpSeqF_step rfl ?_; simp only [List.getElem_toArray, List.getElem_cons_succ, List.getElem_cons_zero]
  go_wp2
  refine wpSeqF_nil ?_
  go_wp2
  go_ret
  have hsz := hB2.size
  have hd3 : DocC n w3 kl wl hv noS st := hd2.keep fun b g => hmm3.block b (by have := hd2.lt; show b < W2.heap.size; omega) (by unfold mF; omega)
  obtain ⟨L, hL, hf⟩ := hm3
  rw [if_pos trivial] at hL hf
  exact ⟨rfl, hd3, ⟨L, hL, fun b hb => (hf b hb).imp id fun h => Nat.le_trans hsz h⟩, (Mods.of_below hB2).drew.trans hmm3, hhv3 _ (by show W2.cell? _ = _; simp [World.cell?, hm2.st, mLay0])⟩
end Go.Proofs.YthhbiliimdpgmaaGreatDoor
/- Walk: Apply of the law's set to a new document. -/
namespace Go.Proofs.YthhbiliimdpgmaaGreatDoor
open Go.RowKit Go.Lib

theorem holdO_set (s : Int) : HoldO (setO s) 1 where
  k := rfl
  rng := rfl
  right := show (⟨4, 1, 1 + 1⟩ : QRng).rightB = true by decide
  n1 := Nat.le_refl _
  n2 := by decide
  range := fun w hT => opsRange_any (setO s) w (by show 0 < _; decide) (by show (0 : Int) ≤ 1; decide) (by show (1 : Int) + 1 < _; decide) hT
  cut := fun w hT => opsCut_set s w hT
/-- the document behind it: no sequence, no units, one set. -/
def SetQ (n : Nat) (s : Int) (z : Nat) (W : World) : Prop := MapsIn W (fun b => mF n b ∨ z ≤ b) (n + 10) (QMaps.empty.set (setO s)) ∧ SeqZ n W ∧ MapK idV W (n + 7) [] ∧ W.cell? ⟨n + 10, 2, none⟩ = some noS
theorem apply_set (n rb cap : Nat) (s : Int) (w : World) (hd : DocZ n w) (hT : Tabs w) (hF : TabFree fun b => n ≤ b) (hrb : OpCells w rb 0 (setO s)) (hlt : rb < w.heap.size) (hrn : n + 11 < rb) (hs1 : 1 ≤ s) (hs2 : s ≤ 9007199254740991) :
    Calls Tryz.prog 7 #[.pointer (some ⟨n + 11, 0, none⟩), .agg #[.slice (some ⟨rb, 0, none⟩) 1 cap, .slice none 0 0]] w (ApplyR n 1 (setO s) (mF n) (SetQ n s) w) := by
  refine apply_one n 1 rb cap (setO s) (mF n) (fun W => MapsZ n W ∧ SeqZ n W ∧ MapK idV W (n + 7) []) (SetQ n s) w hd.c hd.ss (holdO_set s) rfl hT hF hrb hlt hrn (fun w hT => opsCheck_set s w hs1 hs2 hT) (by show 0 ≤ s; omega) ?hD ⟨hd.ms, hd.sq, hd.un⟩ ?hP ?hQ ?hdoes
  case hD =>
    intro k hk
    unfold mF at hk
    omega
  case hP =>
    rintro u u' hm hl ⟨h1, h2, h3⟩
    exact ⟨h1.keep fun b g => hm.block b (by omega) (by omega), h2.keep fun b g => hm.block b (by omega) (by omega), h3.blk (hm.block _ (by omega) (by omega))⟩
  case hQ =>
    rintro z u u' hm hl ⟨h1, h2, h3, h4⟩
    exact ⟨h1.mods hm fun b g => by unfold mF at g; omega, h2.keep fun b g => hm.block b (by omega) (by omega), h3.blk (hm.block _ (by omega) (by omega)), (World.cell?_of_block (w := u) (hm.block (n + 10) (by omega) (by omega))).trans h4⟩
  case hdoes =>
    rintro u hv hd' ⟨h1, h2, h3⟩ _
    have hl := hd'.lt
    refine (does_set n s _ _ _ _ u hd' h1).mono ?_
    rintro e u' ⟨rfl, g1, g2, hm, g4⟩
    have hm' := hm
    refine ⟨rfl, g1, ⟨g2, h2.keep fun b g => hm.block b (by omega) (by unfold mF; omega), h3.blk (hm.block _ (by omega) (by unfold mF; omega)), g4⟩, hm⟩
end Go.Proofs.YthhbiliimdpgmaaGreatDoor
