/- Walk: ops.Check of a right text. -/
import Derived.Test.YtaeebgljcdfolaaGreatDoorM13
import Derived.Test.YtaeebgljcdfolaaGreatDoorM02
import Derived.Test.YtaeebgljcdfolaaGreatDoorM09
namespace Go.Proofs.YtaeebgljcdfolaaGreatDoor
open Go.RowKit Go.Lib Go.Shelf

def badB (own : QRng) (x : QId) : Bool := !x.namedB || hasRngs [own] x
/-- the box of a range. -/
def RngBox (w : World) (b : Nat) (r : QRng) : Prop := w.heap[b]? = some (.cells (encRng r).toArray 72 (0, 0))
theorem RngBox.lt {w : World} {b : Nat} {r : QRng} (h : RngBox w b r) : b < w.heap.size := (Array.getElem?_eq_some_iff.1 h).1
theorem RngBox.cells {w : World} {b : Nat} {r : QRng} (h : RngBox w b r) : w.cell? ⟨b, 0, none⟩ = some (.int .u64 r.c) ∧ w.cell? ⟨b, 1, none⟩ = some (.int .u64 r.a) ∧ w.cell? ⟨b, 2, none⟩ = some (.int .u64 r.b) := by
  unfold RngBox at h
  simp [World.cell?, h, encRng]
theorem RngBox.below {n : Nat} {w w' : World} {b : Nat} {r : QRng} (h : RngBox w b r) (hb : Below n w w') (hn : b < n) : RngBox w' b r := (hb.block b hn).trans h
theorem rng_one (W : World) (r : QRng) : SliceAt 3 encRng (W.alloc (.cells #[.int .u64 r.c, .int .u64 r.a, .int .u64 r.b] 72)) (.slice (some ⟨W.heap.size, 0, none⟩) 1 1) [r] := by
  refine .inr ⟨W.heap.size, 0, 1, rfl, by simp, by simp, fun j x hj i y hi => ?_⟩
  have hj0 : j = 0 := by have := (List.getElem?_eq_some_iff.1 hj).1; simp at this; omega
  subst hj0
  obtain rfl : r = x := by simpa using hj
  rw [World.cell?, heap_alloc_new]
  simpa [encRng] using hi
set_option maxHeartbeats 1000000 in
theorem check1_any (x : QId) (own : QRng) (b : Nat) (w : World) (hb : RngBox w b own) :
    Calls Tryz.prog 57 #[.agg #[.int .u64 x.c, .int .u64 x.k], .pointer (some ⟨b, 0, none⟩)] w fun e w' => e = .returned (.bool (badB own x)) ∧ Below w.heap.size w w' := by
  have hi := opsId_any x
  unfold badB
  obtain ⟨c0, c1, c2⟩ := hb.cells
  have hbl := hb.lt
  cases hn : x.namedB
  · rw [hn] at hi
    rw [Bool.not_false, Bool.true_or]
    clear hn
    go_enter Tryz.func57, Tryz.ntmps57
    go_wp2_with fail
    refine (hi _).mono ?_
    rintro e w1 ⟨rfl, hb1⟩
    go_wp2_with fail
    go_ret
    exact ⟨rfl, belowTrans ((Below.refl _ _).alloc (Nat.le_refl _) _) hb1⟩
  · rw [hn] at hi
    rw [Bool.not_true, Bool.false_or]
    have hh := idsHas_any x
    generalize hA : hasRngs [own] x = ans
    have HA := Lib.hid hA
    clear hn hA
    go_enter Tryz.func57, Tryz.ntmps57
    go_wp2_with fail
    refine (hi _).mono ?_
    rintro e w1 ⟨rfl, hb1⟩
    obtain ⟨hc1, hf1⟩ := bcell hb1
    have hz1 : w.heap.size < w1.heap.size := by have := hb1.size; simp at this; omega
    have hbw : Below w.heap.size w w1 := belowTrans ((Below.refl _ _).alloc (Nat.le_refl _) _) hb1
    go_wp2_with fail
    refine Calls.mono (hh _ [own] _ (rng_one _ own)) ?_
    rintro e w2 ⟨rfl, hb2⟩
    rw [HA.out]
    go_wp2_with fail
    go_ret
    exact ⟨rfl, hbw.trans ((((Below.refl _ _).alloc (Nat.le_refl _) _).trans (hb2.mono (by simp))).mono hbw.size)⟩
theorem bad_below (own : QRng) (b : Nat) (w : World) (h : RngBox w b own) : PredBelow Tryz.prog 57 #[.pointer (some ⟨b, 0, none⟩)] (fun x => .agg (encIdv x).toArray) (badB own) w := by
  intro W x hW
  refine (check1_any x own b W (h.below hW h.lt)).mono ?_
  exact fun e w' ⟨he, hb'⟩ => ⟨he, hW.trans (hb'.mono hW.size)⟩
theorem containsId_any (own : QRng) (b bb : Nat) (l : List QId) (w : World) (h : RngBox w b own) (hl : w.heap[bb]? = some (.cells (l.flatMap encIdv).toArray 28 (0, 0))) (hn : l.length ≤ 1000) :
    Calls Tryz.prog 60 #[.slice (some ⟨bb, 0, none⟩) l.length l.length, .func (.func 57) #[] #[.pointer (some ⟨b, 0, none⟩)]] w fun e w' => e = .returned (.bool (l.any (badB own))) ∧ Below w.heap.size w w' := by
  have := AnyQ.slices_ContainsFunc Tryz.containsId 2 (fun w => by kernel_rfl) (fun w => by kernel_rfl) encIdv (fun _ => rfl) (badB own) 57 #[.pointer (some ⟨b, 0, none⟩)] (enters_of Tryz.func57 (by kernel_rfl) rfl) bb 0 l.length l.length l w (bad_below own b w h) (Nat.le_refl _) (by omega) (Array.getElem?_eq_some_iff.1 hl).1
    (fun j hj k v hv => by
      have hk : k < 2 := (List.getElem?_eq_some_iff.1 hv).1
      have h1 := flat_get (enc := encIdv) (k := 2) (fun _ => rfl) l j k l[j] (by simp) hk
      rw [World.cell?, hl]
      simp only [Option.isSome_none, Bool.false_eq_true, if_false, Nat.zero_add, List.getElem?_toArray]
      rw [h1]
      simpa [hj] using hv)
  rw [List.take_length] at this
  exact this

/-- a text's clocks. -/
def tRng (i : QId) (t : ByteArray) : QRng := ⟨i.c, i.k, i.k + (runesB t).length⟩
/-- a text that is an operation. -/
structure GoodT (i l r : QId) (t : ByteArray) : Prop where
  id : i.rightB = true
  ok : okT t = true
  fits : i.k + (runesB t).length - 1 ≤ 9007199254740991
  ln : l.namedB = true
  rn : r.namedB = true
  lo : hasRngs [tRng i t] l = false
  ro : hasRngs [tRng i t] r = false
theorem GoodT.names {i l r : QId} {t : ByteArray} (h : GoodT i l r t) : (tOp i l r t).names.any (badB (tRng i t)) = false := by
  have hz : badB (tRng i t) idZero = false := by simp [badB, QId.namedB, hasRngs, QId.rightB, numB, idZero]
  simp only [QOp.names, tOp, List.any_cons, List.any_nil, hz, Bool.or_false]
  simp [badB, h.ln, h.rn, h.lo, h.ro]
theorem tOp_len (i l r : QId) (t : ByteArray) : (tOp i l r t).len = (runesB t).length := by simp [QOp.len, tOp]
theorem tOp_rng (i l r : QId) (t : ByteArray) : (tOp i l r t).rng = tRng i t := by simp only [QOp.rng, tOp_len]; rfl
set_option maxRecDepth 100000 in
set_option maxHeartbeats 4000000 in
theorem opsCheck_t (i l r : QId) (t : ByteArray) (w : World) (hg : GoodT i l r t) (hs : t.size ≤ 1000000000000) (hT : Tabs w) :
    Calls Tryz.prog 31 #[opV (tOp i l r t)] w fun e w' => e = .returned (.int .i64 0) ∧ Below w.heap.size w w' := by
  have hbare := fun w hT => bare_t i l r t w hg.ok (by omega) hT
  have hsame := opsSame_self (tOp i l r t)
  have hright := right_any i
  rw [hg.id] at hright
  have hi0 : 1 ≤ i.k := by have := hg.id; simp [QId.rightB, numB] at this; omega
  have hfit := hg.fits
  have hrange := fun w hT => opsRange_any (tOp i l r t) w (by show t.size < _; omega) (by show 0 ≤ i.k; omega) (by rw [tOp_len]; show i.k + _ < _; omega) hT
  rw [tOp_rng] at hrange
  unfold tRng at hrange
  have hnames := opsNames_any (tOp i l r t)
  have hany := hg.names
  have hcont := fun b bb w h hl => containsId_any (tRng i t) b bb (tOp i l r t).names w h hl (by simp [QOp.names])
  rw [hany] at hcont
  have Hc := Lib.hid hcont
  clear hany hg hcont
  have hN0 : 0 ≤ ((runesB t).length : Int) := by omega
  unfold tRng at Hc
  generalize ((runesB t).length : Int) = N at hfit hrange Hc hN0
  change Calls Tryz.prog 31 #[.agg #[.int .u64 i.c, .int .u64 i.k, .int .i64 1, .int .u64 0, .int .u64 l.c, .int .u64 l.k, .int .u64 r.c, .int .u64 r.k, .string t, .int .i64 0, .int .i64 0, .float .f64 0, .string ⟨#[]⟩, .string ⟨#[]⟩, .int .u64 0, .int .u64 0, .int .u64 0, .int .u64 0, .bool false, .int .u64 0, .int .u64 0, .bool false]] w _
  go_enter Tryz.func31, Tryz.ntmps31
  go_upto_region 1 with fail
  obtain ⟨W, hW⟩ : ∃ W, w.alloc (.cells (encOp (tOp i l r t)).toArray 35) = W := ⟨_, rfl⟩
  have hB : Below w.heap.size w W := by rw [← hW]; exact (Below.refl _ _).alloc (Nat.le_refl _) _
  have hbx : OpBox W w.heap.size (tOp i l r t) := by rw [← hW]; exact OpBox.new _ _
  change Code.wp _ _ _ _ (w.alloc (.cells (encOp (tOp i l r t)).toArray 35))
  rw [hW]
  clear hW
  go_wp2_with (refine wpList_load_eq (T := 35) (v := opV (tOp i l r t)) rfl rfl rfl hbx.load ?_)
  refine (hbare _ (hT.below hB)).mono ?_
  rintro e w1 ⟨rfl, hb1⟩
  have hbx1 := hbx.below hb1 hbx.lt
  have hB1 := belowTrans hB hb1
  clear hbare hbx hb1 hB
  clear W
  have bz := OpBox.new w1 opZero
  have Hput := Lib.hid (bz.put (tOp i l r t))
  have HbP := Lib.hid (below_putOp ((Below.refl w1.heap.size w1).alloc (Nat.le_refl _) (.cells (encOp opZero).toArray 35)) (Nat.le_refl _) (tOp i l r t))
  go_upto_region 2 with (refine wpList_store_eq (T := 35) (v := opV (tOp i l r t)) rfl rfl rfl rfl (OpBox.store bz (tOp i l r t)) ?_)
  have hby := Hput.out
  have hb2 := HbP.out
  obtain ⟨w2, hw2⟩ : ∃ w2, putOp (w1.alloc (.cells (encOp opZero).toArray 35)) w1.heap.size (tOp i l r t) = w2 := ⟨_, rfl⟩
  rw [hw2] at hby hb2 ⊢
  have hbx2 := hbx1.below hb2 hbx1.lt
  have hB2 := belowTrans hB1 hb2
  clear hw2 Hput HbP bz hbx1 hB1
  go_wp2_with (first | (refine wpList_load_g 35 ⟨w1.heap.size, 0, none⟩ rfl rfl hby.load (by rfl) ?_) | (refine wpList_load_g 35 ⟨w.heap.size, 0, none⟩ rfl rfl hbx2.load (by rfl) ?_))
  refine (hsame _).mono ?_
  rintro e w3 ⟨rfl, hb3⟩
  have hbx3 := hbx2.below hb3 hbx2.lt
  have hB3 := belowTrans hB2 hb3
  have hx0 : w3.cell? ⟨w.heap.size, 0, none⟩ = some (.int .u64 i.c) := hbx3.cells 0 _ rfl
  have hx1 : w3.cell? ⟨w.heap.size, 1, none⟩ = some (.int .u64 i.k) := hbx3.cells 1 _ rfl
  clear hsame hbx2 hby hb2 hb3 hB2
  clear w2 
  go_wp2_with fail
  refine (hright _).mono ?_
  rintro e w4 ⟨rfl, hb4⟩
  have hbx4 := hbx3.below hb4 hbx3.lt
  have hB4 := belowTrans hB3 hb4
  clear hx0 hx1 hright hbx3 hB3 hb4
  clear w3
  go_wp2_with (refine wpList_load_eq (T := 35) (v := opV (tOp i l r t)) rfl rfl rfl hbx4.load ?_)
  refine (hrange _ (hT.below hB4)).mono ?_
  rintro e w5 ⟨rfl, hb5⟩
  have hbx5 := hbx4.below hb5 hbx4.lt
  have hB5 := belowTrans hB4 hb5
  clear hrange hbx4 hB4 hb5
  clear w4
  go_upto_region 5 with fail
  have hrb : RngBox (w5.alloc (.cells #[.int .u64 i.c, .int .u64 i.k, .int .u64 (i.k + N)] 72)) w5.heap.size ⟨i.c, i.k, i.k + N⟩ := heap_alloc_new w5 _
  have hb6 : Below w5.heap.size w5 (w5.alloc (.cells #[.int .u64 i.c, .int .u64 i.k, .int .u64 (i.k + N)] 72)) := (Below.refl _ _).alloc (Nat.le_refl _) _
  obtain ⟨w6, hw6⟩ : ∃ w6, w5.alloc (.cells #[.int .u64 i.c, .int .u64 i.k, .int .u64 (i.k + N)] 72) = w6 := ⟨_, rfl⟩
  rw [hw6] at hrb hb6 ⊢
  have hbx6 := hbx5.below hb6 hbx5.lt
  have hB6 := belowTrans hB5 hb6
  have r2 := hrb.cells.2.2
  clear hw6 hbx5 hB5 hb6
  go_wp2_with (refine wpList_load_eq (T := 35) (v := opV (tOp i l r t)) rfl rfl rfl hbx6.load ?_)
  refine Calls.mono (hnames _) ?_
  rintro e w7 ⟨nb, rfl, hb7, _, hnb⟩
  have hrb7 := hrb.below hb7 hrb.lt
  have hB7 := belowTrans hB6 hb7
  have hcc := Hc.out w5.heap.size nb w7 hrb7 hnb
  clear hnames hrb hbx6 hB6 hb7 r2 hnb hrb7
  go_wp2_with fail
  refine Calls.mono hcc ?_
  rintro e w8 ⟨rfl, hb8⟩
  go_wp2_with fail
  go_ret
  exact ⟨rfl, belowTrans hB7 hb8⟩
end Go.Proofs.YtaeebgljcdfolaaGreatDoor
/- Rows and maps in memory: their blocks. -/
namespace Go.Proofs.YtaeebgljcdfolaaGreatDoor
open Go.RowKit

theorem ownsRow_blk {w w' : World} {base e size n : Nat} {v : Value} {xs : List Value} (h : w.ownsRow base e size v n xs) (hb : ∀ b, v.ownBlock = some b → w'.heap[b]? = w.heap[b]?) : w'.ownsRow base e size v n xs := by
  obtain ⟨h1, h2 | ⟨g, cap, cur, hv, hg, hcur, rest⟩⟩ := h
  · exact ⟨h1, .inl h2⟩
  · exact ⟨h1, .inr ⟨g, cap, cur, hv, hg, (hb g (by rw [hv]; rfl)).trans hcur, rest⟩⟩
theorem MapK.blk {κ : Type} {enc : κ → Value} {w w' : World} {r : Nat} {l : List (κ × Value)} (h : MapK enc w r l) (hb : w'.heap[r]? = w.heap[r]?) : MapK enc w' r l := by
  obtain ⟨es, clock, h1, h2⟩ := h
  exact ⟨es, clock, hb.trans h1, h2⟩

theorem MapK.lt {κ : Type} {enc : κ → Value} {w : World} {r : Nat} {l : List (κ × Value)} (h : MapK enc w r l) : r < w.heap.size := by
  obtain ⟨es, clock, h1, _⟩ := h
  exact (Array.getElem?_eq_some_iff.1 h1).1
theorem ownsRow_lt {w : World} {base e size n : Nat} {v : Value} {xs : List Value} (h : w.ownsRow base e size v n xs) : ∀ b, v.ownBlock = some b → b < w.heap.size := by
  intro b hb
  rcases h.2 with ⟨hv, _⟩ | ⟨g, cap, cur, hv, hg, hcur, _⟩
  · rw [hv] at hb; cases hb
  · rw [hv] at hb; cases hb; exact (Array.getElem?_eq_some_iff.1 hcur).1
end Go.Proofs.YtaeebgljcdfolaaGreatDoor
