/- Walk: ids.Minus. -/
import Derived.Test.YthhbiliimdpgmaaGreatDoorM04
import Derived.Test.YthhbiliimdpgmaaGreatDoorM05
import Derived.Test.YthhbiliimdpgmaaGreatDoorM10
import Derived.Shelf.Lays8
import Derived.Test.YthhbiliimdpgmaaGreatDoorProg
import Derived.Shelf.Spec.SlicesGrow
import Derived.Laws.AppendOwnNone
namespace Go.Proofs.YthhbiliimdpgmaaGreatDoor
open Go.RowKit Go.Lib

/-- cleaned ranges, in a row of their own, that name just the ids of which p holds. -/
def SetRes (p : QId → Bool) (w : World) (v : Value) (w' : World) : Prop :=
  ∃ l, CleanL l ∧ (∀ i, hasRngs l i = p i) ∧ OwnAt w.heap.size 95 3 encRng w' v l ∧ Below w.heap.size w w'
theorem cleanSet_any (sv : Value) (l : List QRng) (w : World) (hl : SliceAt 3 encRng w sv l) (hlen : l.length * 24 ≤ 140737488355328) (hsv : sv.oneCell' = true) :
    Calls Tryz.prog 39 #[sv] w (RetW fun v w' => ∃ d, CleanL d ∧ d.length ≤ l.length ∧ (∀ i, hasRngs d i = hasRngs l i) ∧ OwnAt w.heap.size 95 3 encRng w' v d ∧ Below w.heap.size w w') := by
  refine (clean_any sv l w hl hlen hsv).mono ?_
  rintro e w' ⟨v, rfl, d, hp, hs, ho, hb⟩
  refine ⟨v, rfl, joinRngs d, join_clean hp hs, ?_, join_has hp hs, ho, hb⟩
  have h1 := joinRngs_length d
  have h2 : d.length ≤ l.length := by rw [hp.length_eq]; exact List.length_filter_le _ _
  omega
/-- one round's reads and boxes. -/
theorem SliceAt.cells3 {w : World} {b n c : Nat} {off : Nat} {l : List QRng} (h : SliceAt 3 encRng w (.slice (some ⟨b, off, none⟩) n c) l) {k : Nat} {x : QRng} (hx : l[k]? = some x) :
    n = l.length ∧ b < w.heap.size ∧ w.cell? ⟨b, off + k * 3, none⟩ = some (.int .u64 x.c) ∧ w.cell? ⟨b, off + k * 3 + 1, none⟩ = some (.int .u64 x.a) ∧ w.cell? ⟨b, off + k * 3 + 2, none⟩ = some (.int .u64 x.b) := by
  rcases h with ⟨e, _⟩ | ⟨b', off', c', e, _, hb, hc⟩
  · cases e
  · cases e
    exact ⟨rfl, hb, hc k x hx 0 _ rfl, hc k x hx 1 _ rfl, hc k x hx 2 _ rfl⟩
theorem SliceAt.len {α : Type} {k : Nat} {enc : α → List Value} {w : World} {v : Value} {l : List α} (h : SliceAt k enc w v l) : ∃ p c, v = .slice p l.length c := by
  rcases h with ⟨rfl, rfl⟩ | ⟨b, off, c, rfl, _⟩
  · exact ⟨_, _, rfl⟩
  · exact ⟨_, _, rfl⟩

theorem RngBox.setA {w : World} {b : Nat} {r : QRng} (h : RngBox w b r) (v : Int) : RngBox (w.setCell ⟨b, 1, none⟩ (.int .u64 v)) b ⟨r.c, v, r.b⟩ := by
  unfold RngBox at *
  simp [World.setCell, Array.getElem?_modify, h, encRng]
theorem RngBox.f {w : World} {b : Nat} {r : QRng} (h : RngBox w b r) (n : Nat) : w.frozen? ⟨b, n, none⟩ = false := by simp [World.frozen?, show w.heap[b]? = _ from h]
theorem RngBox.new (w : World) (r : QRng) : RngBox (w.alloc (.cells #[.int .u64 r.c, .int .u64 r.a, .int .u64 r.b] 95)) w.heap.size r := heap_alloc_new w _
set_option maxRecDepth 100000 in
set_option maxHeartbeats 4000000 in
theorem minus_any (av bv : Value) (a b : List QRng) (w : World) (ha : SliceAt 3 encRng w av a) (hb : SliceAt 3 encRng w bv b) (hla : a.length ≤ 1000) (hlb : b.length ≤ 1000) (ha1 : av.oneCell' = true) (hb1 : bv.oneCell' = true) :
    Calls Tryz.prog 32 #[av, bv] w (RetW (SetRes (fun i => hasRngs a i && !hasRngs b i) w)) := by
  obtain ⟨i0, hi, hz0, hz1, hz2⟩ := info_parts infoRng
  go_enter Tryz.func32, Tryz.ntmps32
  go_upto_region 2 with fail
  go_upto_region 3 with (go_at_call 39; refine (cleanSet_any bv b _ hb (by omega) hb1).mono ?_; rintro e w1 ⟨bv2, rfl, B, hBc, hBl, hBh, hBo, hBb⟩; obtain ⟨pb, cb, rfl⟩ := (OwnAt.slice (k := 3) (enc := encRng) (fun _ => rfl) hBo).len)
  go_upto_region 4 with (go_at_call 39; refine (cleanSet_any av a _ (ha.below hBb) (by omega) ha1).mono ?_; rintro e w2 ⟨av2, rfl, A, hAc, hAl, hAh, hAo, hAb⟩; obtain ⟨pa, ca, rfl⟩ := (OwnAt.slice (k := 3) (enc := encRng) (fun _ => rfl) hAo).len)
  have hBs : SliceAt 3 encRng w2 (.slice pb B.length cb) B := (OwnAt.slice (k := 3) (enc := encRng) (fun _ => rfl) hBo).below hAb
  have hAs : SliceAt 3 encRng w2 (.slice pa A.length ca) A := OwnAt.slice (k := 3) (enc := encRng) (fun _ => rfl) hAo
  have hb2 : Below w.heap.size w w2 := belowTrans hBb hAb
  have hbits := fun i => minus_has hAc hBc i
  clear hBb hAb hBo hAo ha hb ha1 hb1
  have hBc' := hBc
  clear hBc'
  obtain ⟨S2, hS2⟩ : ∃ S2, w2.heap.size = S2 := ⟨_, rfl⟩
  have HS2 := Lib.hid hS2
  have hbsz := hb2.size
  rw [hS2] at hbsz
  clear hS2
  clear w1
  go_loopw [5, 15] (fun o i wr => ∃ k : Nat, k ≤ A.length ∧ i = .int .i64 k ∧ OwnAt S2 95 3 encRng wr o ((A.take k).foldl (minusOne B) []) ∧ Below S2 w2 wr) (fun _ i _ => A.length - (intOf i).toNat)
  case atStart => exact ⟨0, Nat.zero_le _, rfl, OwnAt.nil, Below.refl _ _⟩
  case round =>
    obtain ⟨k, hk, rfl, ho, hbr⟩ := hrel
    by_cases hlt : k < A.length
    · have hltz : (k : Int) < (A.length : Int) := by omega
      have hstep : (A.take (k + 1)).foldl (minusOne B) [] = minusOne B ((A.take k).foldl (minusOne B) []) A[k] := by
        rw [List.take_succ_eq_append_getElem hlt, List.foldl_append]
        rfl
      have HST := Lib.hid hstep
      clear hstep
      have hol : ((A.take k).foldl (minusOne B) []).length ≤ k * 1001 := by
        have h1 := minusAll_length B (A.take k) []
        rw [List.length_take, Nat.min_eq_left hk] at h1
        have h2 : k * (B.length + 1) ≤ k * 1001 := Nat.mul_le_mul_left _ (by omega)
        simp at h1
        omega
      obtain ⟨b0, off, rfl⟩ : ∃ b0 off, pa = some ⟨b0, off, none⟩ := by
        rcases hAs with ⟨_, h⟩ | ⟨b0, off, _, h, _⟩
        · rw [h] at hlt; simp at hlt
        · cases h; exact ⟨_, _, rfl⟩
      obtain ⟨_, hb0, c0, c1, c2⟩ := hAs.cells3 (k := k) (x := A[k]) (by simp)
      have hbS : b0 < S2 := by rw [← HS2.out]; exact hb0
      have c0 := (hbr.cell (p := ⟨b0, off + k * 3, none⟩) hbS).trans c0
      have c1 := (hbr.cell (p := ⟨b0, off + k * 3 + 1, none⟩) hbS).trans c1
      have c2 := (hbr.cell (p := ⟨b0, off + k * 3 + 2, none⟩) hbS).trans c2
      generalize A[k] = x at c0 c1 c2 HST
      generalize (A.take k).foldl (minusOne B) [] = out at ho HST hol
      go_upto_region 7 with fail
      have hXS : S2 ≤ wr.heap.size := by have := hbr.size; have := HS2.out; omega
      have hbX : RngBox (wr.alloc (.cells #[.int .u64 x.c, .int .u64 x.a, .int .u64 x.b] 95)) wr.heap.size x := RngBox.new wr x
      have hbr1 : Below S2 w2 (wr.alloc (.cells #[.int .u64 x.c, .int .u64 x.a, .int .u64 x.b] 95)) := hbr.alloc hXS _
      have ho1 : OwnAt S2 95 3 encRng (wr.alloc (.cells #[.int .u64 x.c, .int .u64 x.a, .int .u64 x.b] 95)) u5 out := World.ownsRow.alloc ho _
      have hsep : ∀ b, u5.ownBlock = some b → b ≠ wr.heap.size := fun b e => by have := ownsRow_lt ho b e; omega
      obtain ⟨W1, hW1⟩ : ∃ W1, wr.alloc (.cells #[.int .u64 x.c, .int .u64 x.a, .int .u64 x.b] 95) = W1 := ⟨_, rfl⟩
      obtain ⟨X, hX⟩ : ∃ X, wr.heap.size = X := ⟨_, rfl⟩
      rw [hW1, hX] at hbX
      rw [hW1] at hbr1 ho1 ⊢
      rw [hX] at hXS hsep ⊢
      clear hW1 hX hbr ho c0 c1 c2
      clear wr
      go_loopw [5, 21] (fun o i ws => ∃ j : Nat, j ≤ B.length ∧ i = .int .i64 j ∧ OwnAt S2 95 3 encRng ws o ((B.take j).foldl minusStep (out, x)).1 ∧ RngBox ws X ((B.take j).foldl minusStep (out, x)).2 ∧ (∀ b, o.ownBlock = some b → b ≠ X) ∧ Below S2 w2 ws) (fun _ i _ => B.length - (intOf i).toNat)
      case atStart => exact ⟨0, Nat.zero_le _, rfl, ho1, hbX, hsep, hbr1⟩
      case round =>
        obtain ⟨j, hj, rfl, ho, hbx, hsp, hbr⟩ := hrel
        clear ho1 hbX hsep hbr1
        by_cases hjt : j < B.length
        · have hjtz : (j : Int) < (B.length : Int) := by omega
          have hstep : (B.take (j + 1)).foldl minusStep (out, x) = minusStep ((B.take j).foldl minusStep (out, x)) B[j] := by
            rw [List.take_succ_eq_append_getElem hjt, List.foldl_append]
            rfl
          have HSJ := Lib.hid hstep
          clear hstep
          have hol2 : ((B.take j).foldl minusStep (out, x)).1.length ≤ out.length + j := by
            have h1 := minusFold_length (B.take j) (out, x)
            rw [List.length_take, Nat.min_eq_left hj] at h1
            exact h1
          obtain ⟨b1, off1, rfl⟩ : ∃ b0 off, pb = some ⟨b0, off, none⟩ := by
            rcases hBs with ⟨_, h⟩ | ⟨b0, off, _, h, _⟩
            · rw [h] at hjt; simp at hjt
            · cases h; exact ⟨_, _, rfl⟩
          obtain ⟨_, hb1, c0, c1, c2⟩ := hBs.cells3 (k := j) (x := B[j]) (by simp)
          have hbS1 : b1 < S2 := by rw [← HS2.out]; exact hb1
          have c0 := (hbr.cell (p := ⟨b1, off1 + j * 3, none⟩) hbS1).trans c0
          have c1 := (hbr.cell (p := ⟨b1, off1 + j * 3 + 1, none⟩) hbS1).trans c1
          have c2 := (hbr.cell (p := ⟨b1, off1 + j * 3 + 2, none⟩) hbS1).trans c2
          generalize B[j] = y at c0 c1 c2 HSJ
          generalize (B.take j).foldl minusStep (out, x) = st at ho HSJ hol2 hbx
          obtain ⟨so, sx⟩ := st
          dsimp only at ho hol2 hbx
          go_upto_region 9 with fail
          have hYS : S2 ≤ wr.heap.size := by have := hbr.size; have := HS2.out; omega
          have hXlt := hbx.lt
          have hbX1 : RngBox (wr.alloc (.cells #[.int .u64 y.c, .int .u64 y.a, .int .u64 y.b] 95)) X sx := (Below.heap_alloc wr _ X hXlt).trans hbx
          have hbY1 : RngBox (wr.alloc (.cells #[.int .u64 y.c, .int .u64 y.a, .int .u64 y.b] 95)) wr.heap.size y := RngBox.new wr y
          have hbr1 : Below S2 w2 (wr.alloc (.cells #[.int .u64 y.c, .int .u64 y.a, .int .u64 y.b] 95)) := hbr.alloc hYS _
          have ho1 : OwnAt S2 95 3 encRng (wr.alloc (.cells #[.int .u64 y.c, .int .u64 y.a, .int .u64 y.b] 95)) u5 so := World.ownsRow.alloc ho _
          have hsepY : ∀ b, u5.ownBlock = some b → b ≠ wr.heap.size := fun b e => by have := ownsRow_lt ho b e; omega
          obtain ⟨W3, hW3⟩ : ∃ W3, wr.alloc (.cells #[.int .u64 y.c, .int .u64 y.a, .int .u64 y.b] 95) = W3 := ⟨_, rfl⟩
          obtain ⟨Y, hY⟩ : ∃ Y, wr.heap.size = Y := ⟨_, rfl⟩
          rw [hW3, hY] at hbY1
          rw [hW3] at hbr1 ho1 hbX1 ⊢
          rw [hY] at hXlt hYS hsepY ⊢
          clear hW3 hY hbr ho hbx c0 c1 c2
          clear wr
          obtain ⟨sc, sa, sb⟩ := sx
          obtain ⟨yc, ya, yb⟩ := y
          have hY3 := hbY1.lt
          obtain ⟨x0, x1, x2⟩ := hbX1.cells
          obtain ⟨y0, y1, y2⟩ := hbY1.cells
          dsimp only at x0 x1 x2 y0 y1 y2
          by_cases h1 : sc = yc
          · subst h1
            by_cases h2 : yb ≤ sa
            · have HC : minusStep (so, (⟨sc, sa, sb⟩ : QRng)) ⟨sc, ya, yb⟩ = (so, ⟨sc, sa, sb⟩) := if_pos (.inr (.inl h2))
              rw [HC] at HSJ
              clear HC
              have d2 : decide (yb ≤ sa) = true := by simpa using h2
              go_wp2_with fail
              go_roundw
              case rel => exact ⟨j + 1, by omega, by go_num, by rw [HSJ.out]; exact ho1, by rw [HSJ.out]; exact hbX1, hsp, hbr1⟩
              case measure => simp [intOf]; omega
            · have d2 : decide (yb ≤ sa) = false := by simpa using h2
              by_cases h3 : sb ≤ ya
              · have HC : minusStep (so, (⟨sc, sa, sb⟩ : QRng)) ⟨sc, ya, yb⟩ = (so, ⟨sc, sa, sb⟩) := if_pos (.inr (.inr h3))
                rw [HC] at HSJ
                clear HC
                have d3 : decide (sb ≤ ya) = true := by simpa using h3
                go_wp2_with fail
                go_roundw
                case rel => exact ⟨j + 1, by omega, by go_num, by rw [HSJ.out]; exact ho1, by rw [HSJ.out]; exact hbX1, hsp, hbr1⟩
                case measure => simp [intOf]; omega
              · have d3 : decide (sb ≤ ya) = false := by simpa using h3
                have HC : minusStep (so, (⟨sc, sa, sb⟩ : QRng)) ⟨sc, ya, yb⟩ = (so ++ [⟨sc, sa, ya⟩], ⟨sc, yb, sb⟩) := if_neg (by rintro (h | h | h); exact h rfl; exact h2 h; exact h3 h)
                rw [HC] at HSJ
                clear HC
                have hnl : so.length + 1 ≤ 10000000 := by
                  have : k * 1001 ≤ 1001000 := by omega
                  omega
                have hW3S : S2 ≤ W3.heap.size := by omega
                go_upto_region 11 with (at_builtin; refine wpList_append_own_at _ rfl _ _ 65 rfl S2 95 i0 (.agg #[.int .u64 0, .int .u64 0, .int .u64 0]) 3 24 Tryz.underlying65 hi hz0 hz1 hz2 rfl (by decide) _ _ _ rfl (show World.ownsRow _ S2 95 3 u5 so.length (so.flatMap encRng) from World.ownsRow.alloc ho1 _) ⟨W3.heap.size, 0, none⟩ 1 1 (encRng ⟨sc, sa, ya⟩) rfl rfl ?f1 ?f2 ?f3 ?f4 ?f5 ?_)
                case f1 => exact fun _ _ hu => hu
                case f2 => exact encRng_one ⟨sc, sa, ya⟩
                case f3 => unfold maxLen; omega
                case f4 => omega
                case f5 => first | omega | (simp; omega)
                intro v' w1 hown' hgrow hne hblk
                have hWl : ∀ b, b < W3.heap.size → (W3.alloc (.cells #[.int .u64 sc, .int .u64 sa, .int .u64 ya] 95)).heap[b]? = W3.heap[b]? := fun b hb => by rw [alloc_heap_if, if_neg (by omega)]
                have hu5 : ∀ b, u5.ownBlock = some b → S2 ≤ b := fun b e => (World.ownsRow.lt ho1 b e).1
                have hgb : ∀ b, b < W3.heap.size → u5.ownBlock ≠ some b → w1.heap[b]? = W3.heap[b]? := fun b hb hn => (hgrow.block b (by simp; omega) (fun e => hn e.symm)).trans (hWl b hb)
                have hX3 : X < W3.heap.size := by omega
                have hbX2 : RngBox w1 X ⟨sc, sa, sb⟩ := (hgb X hX3 (fun e => hsp X e rfl)).trans hbX1
                have hB4 : Below S2 w2 w1 := (hbr1.alloc hW3S _).grown hgrow (by simp; omega) (fun b e => hu5 b e)
                have hsp2 : ∀ b, v'.ownBlock = some b → b ≠ X := fun b e => by
                  rcases hblk with h | h
                  · exact hsp b (by rw [← h]; exact e)
                  · rw [h] at e; cases e; omega
                have hw1X := hbX2.lt
                have z1 := hbX2.cells.2.1
                have z2 : w1.cell? ⟨Y, 2, none⟩ = some (.int .u64 yb) := (World.cell?_of_block (w := W3) (hgb Y hY3 (fun e => hsepY Y e rfl))).trans y2
                have zf := hbX2.f 1
                clear hgrow hgb hWl hblk hbX1 hbY1 x0 x1 x2 y0 y1 y2 d2 d3 h2 h3 hbr1 ho1 hY3
                go_upto_region 12 with fail
                have hbX3 := hbX2.setA yb
                have hB5 : Below S2 w2 (w1.setCell ⟨X, 1, none⟩ (.int .u64 yb)) := hB4.setCell (p := ⟨X, 1, none⟩) hXS _
                have ho5 : OwnAt S2 95 3 encRng (w1.setCell ⟨X, 1, none⟩ (.int .u64 yb)) v' (so ++ [⟨sc, sa, ya⟩]) := by
                  refine ownsRow_blk ?_ fun b e => Below.heap_setCell _ _ _ _ (hsp2 b e)
                  rw [List.length_append, List.flatMap_append]
                  simpa using hown'
                go_wp2_with fail
                go_roundw
                case rel => exact ⟨j + 1, by omega, by go_num, by rw [HSJ.out]; exact ho5, by rw [HSJ.out]; exact hbX3, hsp2, hB5⟩
                case measure => simp [intOf]; omega
          · have HC : minusStep (so, (⟨sc, sa, sb⟩ : QRng)) ⟨yc, ya, yb⟩ = (so, ⟨sc, sa, sb⟩) := if_pos (.inl h1)
            rw [HC] at HSJ
            clear HC
            have t1 : (sc == yc) = false := by simpa using h1
            go_wp2_with fail
            go_roundw
            case rel => exact ⟨j + 1, by omega, by go_num, by rw [HSJ.out]; exact ho1, by rw [HSJ.out]; exact hbX1, hsp, hbr1⟩
            case measure => simp [intOf]; omega
        · obtain rfl : j = B.length := by omega
          have hjtz : ¬ (B.length : Int) < (B.length : Int) := by omega
          rw [List.take_length] at ho hbx
          have HM : minusOne B out x = (B.foldl minusStep (out, x)).1 ++ [(B.foldl minusStep (out, x)).2] := rfl
          rw [HM] at HST
          have hnl : (B.foldl minusStep (out, x)).1.length + 1 ≤ 10000000 := by
            have h1 := minusFold_length B (out, x)
            have h2 : k * 1001 ≤ 1001000 := by omega
            have h3 : (B.foldl minusStep (out, x)).1.length ≤ out.length + B.length := h1
            omega
          generalize B.foldl minusStep (out, x) = st at ho HST hbx hnl
          obtain ⟨so, sx⟩ := st
          dsimp only at ho hbx hnl HST
          clear HM
          obtain ⟨x0, x1, x2⟩ := hbx.cells
          have hXlt := hbx.lt
          have hWS : S2 ≤ wr.heap.size := by omega
          have hu5 : ∀ b, u5.ownBlock = some b → S2 ≤ b := fun b e => (World.ownsRow.lt ho b e).1
          go_upto_region 14 with (at_builtin; refine wpList_append_own_at _ rfl _ _ 65 rfl S2 95 i0 (.agg #[.int .u64 0, .int .u64 0, .int .u64 0]) 3 24 Tryz.underlying65 hi hz0 hz1 hz2 rfl (by decide) _ _ _ rfl (show World.ownsRow _ S2 95 3 u5 so.length (so.flatMap encRng) from World.ownsRow.alloc ho _) ⟨wr.heap.size, 0, none⟩ 1 1 (encRng sx) rfl rfl ?g1 ?g2 ?g3 ?g4 ?g5 ?_)
          case g1 => exact fun _ _ hu => hu
          case g2 => exact encRng_one sx
          case g3 => unfold maxLen; omega
          case g4 => omega
          case g5 => first | omega | (simp; omega)
          intro v' w1 hown' hgrow hne hblk
          have hB4 : Below S2 w2 w1 := (hbr.alloc hWS _).grown hgrow (by simp; omega) (fun b e => hu5 b e)
          have ho5 : OwnAt S2 95 3 encRng w1 v' (so ++ [sx]) := by
            unfold OwnAt
            rw [List.length_append, List.flatMap_append]
            simpa using hown'
          clear hown' hgrow hblk hne ho hbr hbx x0 x1 x2
          go_wp2_with fail
          go_roundw
          case rel => exact ⟨k + 1, by omega, by go_num, by rw [HST.out]; exact ho5, hB4⟩
          case measure => simp [intOf]; omega
    · obtain rfl : k = A.length := by omega
      have hltz : ¬ (A.length : Int) < (A.length : Int) := by omega
      rw [List.take_length] at ho
      have hol : (A.foldl (minusOne B) []).length ≤ 1001000 := by
        have h1 := minusAll_length B A []
        have h2 : A.length * (B.length + 1) ≤ 1000 * 1001 := Nat.mul_le_mul (by omega) (by omega)
        simp at h1
        omega
      have hbits2 : ∀ i, hasRngs (A.foldl (minusOne B) []) i = (hasRngs a i && !hasRngs b i) := fun i => by rw [← hAh, ← hBh]; exact hbits i
      generalize A.foldl (minusOne B) [] = R at ho hol hbits2
      obtain ⟨pr, cr, rfl⟩ := (OwnAt.slice (k := 3) (enc := encRng) (fun _ => rfl) ho).len
      have hos := OwnAt.slice (k := 3) (enc := encRng) (fun _ => rfl) ho
      have hbw : Below w.heap.size w wr := by
        refine hb2.trans (hbr.mono ?_)
        rw [← HS2.out]; exact hb2.size
      have hone : (Value.slice pr R.length cr).oneCell' = true := rfl
      go_wp2_with (go_at_call 39; refine (cleanSet_any _ R _ hos (by omega) hone).mono ?_; rintro e w3 ⟨v3, rfl, D, hDc, hDl, hDh, hDo, hDb⟩)
      go_ret
      exact ⟨_, rfl, D, hDc, fun i => by rw [hDh, hbits2], ownsRow_base hDo hbw.size, belowTrans hbw hDb⟩
end Go.Proofs.YthhbiliimdpgmaaGreatDoor
/-
  The contracts of the library functions at this translation, laid by the kit (lay-plain.mjs).
-/
namespace Go.Proofs
open Go.Shelf
def Tryz.growRng_ren : Go.Shelf.Ren := ⟨fun | 4 => 112 | n => n, fun | 22 => 65 | 25 => 95 | 3 => 3 | 4 => 4 | 9 => 9 | 20 => 20 | 0 => 0 | n => n, fun | n => n⟩
theorem Tryz.growRng : Go.Proofs.Lays8.n4 Tryz.prog Tryz.growRng_ren := {
  mixed := by kernel_rfl
  f4 := ⟨Tryz.f112.name, by decide, Tryz.func112.trans (congrArg some (by kernel_rfl))⟩
  t0 := Tryz.underlying0
  a0 := Tryz.isAgg0
  z0 := Tryz.sizeOf0
  v0 := Tryz.zeroValue0
  t3 := Tryz.underlying3
  a3 := Tryz.isAgg3
  z3 := Tryz.sizeOf3
  v3 := Tryz.zeroValue3
  t4 := Tryz.underlying4
  a4 := Tryz.isAgg4
  z4 := Tryz.sizeOf4
  v4 := Tryz.zeroValue4
  t9 := Tryz.underlying9
  a9 := Tryz.isAgg9
  z9 := Tryz.sizeOf9
  v9 := Tryz.zeroValue9
  t20 := Tryz.underlying20
  a20 := Tryz.isAgg20
  z20 := Tryz.sizeOf20
  v20 := Tryz.zeroValue20
  t22 := Tryz.underlying65
  a22 := Tryz.isAgg65
  z22 := Tryz.sizeOf65
  v22 := Tryz.zeroValue65 }
end Go.Proofs
/- Walk: slices.Concat of ranges, ids.Join, ids.Count of none. -/
namespace Go.Proofs.YthhbiliimdpgmaaGreatDoor
open Go.RowKit Go.Lib

theorem growRng_any (n : Nat) (w : World) (hn : n ≤ 1000000) :
    Calls Tryz.prog 112 #[.slice none 0 0, .int .i64 n] w (RetW fun v w' => OwnAt w.heap.size 95 3 encRng w' v [] ∧ Below w.heap.size w w') := by
  obtain ⟨i0, hi, hz0, hz1, hz2⟩ := info_parts infoRng
  by_cases h0 : n = 0
  · subst h0
    refine (Any8.slices_Grow_room Tryz.growRng none 0 0 0 w (by omega) (by omega) (by omega) (by omega)).mono ?_
    rintro e w' ⟨rfl, rfl⟩
    exact ⟨_, rfl, OwnAt.nil, Below.refl _ _⟩
  · refine (Any8.slices_Grow_grow Tryz.growRng i0 _ hi hz0 (by omega) none 0 0 n [] w (by omega) (by omega) (by rw [hz2]; omega) (by omega) (by simp) (by simp) (by simp)).mono ?_
    rintro e w' ⟨rfl, rfl⟩
    refine ⟨_, rfl, ⟨by simp, .inr ⟨_, _, _, rfl, Nat.le_refl _, heap_alloc_new w.drew _, Nat.zero_le _, ?_, ?_, by simp⟩⟩, ((Below.refl _ _).drew).alloc (Nat.le_refl _) _⟩
    · exact grownCap_le_maxLen w (0 + n) 0 _ (by unfold maxLen; omega)
    · have := grownCap_ge w (0 + n) 0 (Tryz.growRng_ren.t 25)
      have hc : (Value.agg #[Value.int .u64 0, Value.int .u64 0, Value.int .u64 0]).cells.size = 3 := rfl
      simp only [Array.size_append, List.size_toArray, List.length_nil, Builtin.zeroCells, Array.size_map, Array.size_range, hc]
      omega

def sumL (L : List (Value × List QRng)) : Nat := (L.flatMap (·.2)).length
theorem sumL_take {L : List (Value × List QRng)} {k : Nat} (hk : k < L.length) : sumL (L.take (k + 1)) = sumL (L.take k) + L[k].2.length := by
  unfold sumL
  rw [List.take_succ_eq_append_getElem hk, List.flatMap_append]
  simp
theorem sumL_le (L : List (Value × List QRng)) (k : Nat) : sumL (L.take k) ≤ sumL L := by
  unfold sumL
  have h := congrArg (fun l => (l.flatMap (·.2)).length) (List.take_append_drop k L)
  simp only [List.flatMap_append, List.length_append] at h
  omega
set_option maxRecDepth 100000 in
set_option maxHeartbeats 4000000 in
theorem concatRng_any (g : Nat) (L : List (Value × List QRng)) (w : World) (hg : g < w.heap.size) (hc : ∀ j x, L[j]? = some x → w.cell? ⟨g, j, none⟩ = some x.1) (hs : ∀ x ∈ L, SliceAt 3 encRng w x.1 x.2) (hn : sumL L ≤ 1000000) (hL : L.length ≤ 1000) :
    Calls Tryz.prog 65 #[.slice (some ⟨g, 0, none⟩) L.length L.length] w (RetW fun v w' => OwnAt w.heap.size 95 3 encRng w' v (L.flatMap (·.2)) ∧ Below w.heap.size w w') := by
  obtain ⟨i0, hi, hz0, hz1, hz2⟩ := info_parts infoRng
  have hgrow := growRng_any (sumL L)
  have Hc := Lib.hid hc
  have Hs := Lib.hid hs
  clear hc hs
  go_enter Tryz.func65, Tryz.ntmps65
  go_upto_region 3 with fail
  go_loopw [3, 11] (fun o i wr => ∃ k : Nat, k ≤ L.length ∧ i = .int .i64 k ∧ o = .int .i64 (sumL (L.take k)) ∧ wr = w) (fun _ i _ => L.length - (intOf i).toNat)
  case atStart => exact ⟨0, Nat.zero_le _, rfl, rfl, rfl⟩
  case round =>
    obtain ⟨k, hk, rfl, rfl, rfl⟩ := hrel
    by_cases hlt : k < L.length
    · have hltz : (k : Int) < (L.length : Int) := by omega
      have hx := Hc.out k L[k] (by simp)
      have hSL := sumL_take hlt
      have hSle := sumL_le L (k + 1)
      obtain ⟨pp, cc, hv⟩ := (Hs.out L[k] (by simp)).len
      rw [hv] at hx
      have HSL := Lib.hid hSL
      clear hSL hv
      have hle : sumL (L.take k) + L[k].2.length ≤ 1000000 := by rw [← HSL.out]; omega
      generalize L[k].2.length = m at hx HSL hle
      generalize sumL (L.take k) = s at HSL hle ⊢
      go_wp2_with fail
      go_roundw
      case rel => exact ⟨k + 1, by omega, by go_num, by rw [HSL.out]; go_num, trivial⟩
      case measure => simp [intOf]; omega
    · obtain rfl : k = L.length := by omega
      have hltz : ¬ (L.length : Int) < (L.length : Int) := by omega
      rw [List.take_length]
      obtain ⟨S, hS⟩ : ∃ S, sumL L = S := ⟨_, rfl⟩
      rw [hS] at hgrow ⊢
      go_upto_region 11 with (go_at_call 112; refine (hgrow _ (by omega)).mono ?_; rintro e w1 ⟨v1, rfl, ho1, hb1⟩)
      obtain ⟨w0, rfl⟩ : ∃ w0, w0 = wr := ⟨_, rfl⟩
      go_loopw [6, 27] (fun o i wq => ∃ k : Nat, k ≤ L.length ∧ i = .int .i64 k ∧ OwnAt w0.heap.size 95 3 encRng wq o ((L.take k).flatMap (·.2)) ∧ Below w0.heap.size w0 wq) (fun _ i _ => L.length - (intOf i).toNat)
      case atStart => exact ⟨0, Nat.zero_le _, rfl, ho1, hb1⟩
      case round =>
        obtain ⟨k, hk, rfl, ho, hb⟩ := hrel
        clear ho1 hb1
        by_cases hlt : k < L.length
        · have hltz : (k : Int) < (L.length : Int) := by omega
          have hx := (hb.cell (p := ⟨g, k, none⟩) hg).trans (Hc.out k L[k] (by simp))
          have hSL := sumL_take hlt
          have hSle := sumL_le L (k + 1)
          have hsl := (Hs.out L[k] (by simp)).keep hb.size fun b off n c _ hlt => hb.block b hlt
          have hfl : (L.take (k + 1)).flatMap (·.2) = (L.take k).flatMap (·.2) ++ L[k].2 := by
            rw [List.take_succ_eq_append_getElem hlt, List.flatMap_append]
            simp
          have HFL := Lib.hid hfl
          have hle : sumL (L.take k) + L[k].2.length ≤ 1000000 := by rw [← hSL]; omega
          unfold sumL at hle
          clear hSL hSle hfl
          have hsz := hb.size
          have hu6 : ∀ b, u6.ownBlock = some b → w0.heap.size ≤ b := fun b e => (World.ownsRow.lt ho b e).1
          generalize L[k] = y at hx hsl HFL hle
          generalize (L.take k).flatMap (·.2) = out at ho HFL hle
          obtain ⟨yv, yl⟩ := y
          dsimp only at hx hsl HFL hle
          rcases hsl with ⟨rfl, rfl⟩ | ⟨b, off, cap, rfl, hln, hbl, hcc⟩
          · go_wp2_with (at_builtin; refine wpList_append_own_none rfl _ _ 65 rfl w0.heap.size 95 i0 3 Tryz.underlying65 hi _ _ _ rfl ho rfl ?_)
            go_roundw
            case rel => exact ⟨k + 1, by omega, by go_num, by rw [HFL.out]; simpa using ho, hb⟩
            case measure => simp [intOf]; omega
          · go_wp2_with (at_builtin; refine wpList_append_own_at _ rfl _ _ 65 rfl w0.heap.size 95 i0 (.agg #[.int .u64 0, .int .u64 0, .int .u64 0]) 3 24 Tryz.underlying65 hi hz0 hz1 hz2 rfl (by decide) _ _ _ rfl (show World.ownsRow _ w0.heap.size 95 3 u6 out.length (out.flatMap encRng) from ho) ⟨b, off, none⟩ yl.length cap (yl.flatMap encRng) rfl (flat_length (enc := encRng) (k := 3) (fun _ => rfl) yl) ?f1 ?f2 ?f3 ?f4 ?f5 ?_)
            case f1 =>
              intro t u ht
              have htl : t < yl.length * 3 := by
                have := (List.getElem?_eq_some_iff.1 ht).1
                rwa [flat_length (enc := encRng) (k := 3) (fun _ => rfl)] at this
              have h1 := flat_get (enc := encRng) (k := 3) (fun _ => rfl) yl (t / 3) (t % 3) yl[t / 3] (by simp [show t / 3 < yl.length by omega]) (Nat.mod_lt _ (by omega))
              rw [show t / 3 * 3 + t % 3 = t by omega, ht] at h1
              have h2 := hcc (t / 3) yl[t / 3] (by simp [show t / 3 < yl.length by omega]) (t % 3) u h1.symm
              rw [Addr.add_lit]
              rw [show off + t / 3 * 3 + t % 3 = off + t by omega] at h2
              exact h2
            case f2 =>
              intro u hu
              obtain ⟨x, _, hx2⟩ := List.mem_flatMap.1 hu
              exact encRng_one x u hx2
            case f3 => unfold maxLen; omega
            case f4 => omega
            case f5 => omega
            intro v' w2 hown' hgrow2 hne hblk
            have hB4 : Below w0.heap.size w0 w2 := hb.grown hgrow2 (by omega) (fun b e => hu6 b e)
            have ho5 : OwnAt w0.heap.size 95 3 encRng w2 v' (out ++ yl) := by
              unfold OwnAt
              rw [List.length_append, List.flatMap_append]
              exact hown'
            clear hown' hgrow2 hblk hne ho hb hcc hx
            go_wp2_with fail
            go_roundw
            case rel => exact ⟨k + 1, by omega, by go_num, by rw [HFL.out]; exact ho5, hB4⟩
            case measure => simp [intOf]; omega
        · obtain rfl : k = L.length := by omega
          have hltz : ¬ (L.length : Int) < (L.length : Int) := by omega
          rw [List.take_length] at ho
          go_wp2_with fail
          go_ret
          exact ⟨_, rfl, ho, hb⟩
theorem hasRngs_append (a b : List QRng) (i : QId) : hasRngs (a ++ b) i = (hasRngs a i || hasRngs b i) := by
  simp [hasRngs, Bool.and_or_distrib_left]
set_option maxRecDepth 100000 in
set_option maxHeartbeats 4000000 in
theorem join_any (av bv : Value) (a b : List QRng) (w : World) (ha : SliceAt 3 encRng w av a) (hb : SliceAt 3 encRng w bv b) (hla : a.length ≤ 1000) (hlb : b.length ≤ 1000) (ha1 : av.oneCell' = true) (hb1 : bv.oneCell' = true) :
    Calls Tryz.prog 34 #[av, bv] w (RetW (SetRes (fun i => hasRngs a i || hasRngs b i) w)) := by
  obtain ⟨pa, ca, rfl⟩ := ha.len
  obtain ⟨pb, cb, rfl⟩ := hb.len
  have hW : Below w.heap.size w (w.alloc (.cells #[.slice pa a.length ca, .slice pb b.length cb] 65)) := (Below.refl _ _).alloc (Nat.le_refl _) _
  have hcat := concatRng_any w.heap.size [(.slice pa a.length ca, a), (.slice pb b.length cb, b)] (w.alloc (.cells #[.slice pa a.length ca, .slice pb b.length cb] 65)) (by simp) (fun j x hx => by
      rw [World.cell?, heap_alloc_new]
      match j with
      | 0 => simpa using congrArg Prod.fst (Option.some.inj hx)
      | 1 => simpa using congrArg Prod.fst (Option.some.inj hx)
      | j + 2 => simp at hx) (fun x hx => by
      rcases List.mem_cons.1 hx with rfl | hx
      · exact ha.below hW
      · rcases List.mem_cons.1 hx with rfl | hx
        · exact hb.below hW
        · simp at hx) (by simp [sumL]; omega) (by simp)
  have hfl : ([((Value.slice pa a.length ca : Value), a), (.slice pb b.length cb, b)] : List (Value × List QRng)).flatMap (·.2) = a ++ b := by simp
  rw [hfl] at hcat
  have hcat2 : Calls Tryz.prog 65 #[.slice (some ⟨w.heap.size, 0, none⟩) 2 2] (w.alloc (.cells #[.slice pa a.length ca, .slice pb b.length cb] 65)) (RetW fun v w' => OwnAt (w.heap.size + 1) 95 3 encRng w' v (a ++ b) ∧ Below (w.heap.size + 1) (w.alloc (.cells #[.slice pa a.length ca, .slice pb b.length cb] 65)) w') := by
    rw [World.size_alloc] at hcat
    exact hcat
  have hap := hasRngs_append a b
  have hll : (a ++ b).length ≤ 2000 := by rw [List.length_append]; omega
  generalize a ++ b = l at hcat2 hap hll
  clear hcat hfl
  clear ha hb
  go_enter Tryz.func34, Tryz.ntmps34
  go_wp2_with fail
  refine Calls.mono hcat2 ?_
  rintro e w1 ⟨v1, rfl, ho1, hb1⟩
  obtain ⟨p1, c1, rfl⟩ := (OwnAt.slice (k := 3) (enc := encRng) (fun _ => rfl) ho1).len
  have hcl := cleanSet_any _ l _ (OwnAt.slice (k := 3) (enc := encRng) (fun _ => rfl) ho1) (by omega) rfl
  have hbw : Below w.heap.size w w1 := hW.trans (hb1.mono (Nat.le_succ _))
  clear hcat2 hW ho1 hb1
  go_wp2_with fail
  refine hcl.mono ?_
  rintro e w3 ⟨v3, rfl, D, hDc, hDl, hDh, hDo, hDb⟩
  go_wp2_with fail
  go_ret
  exact ⟨_, rfl, D, hDc, fun i => by rw [hDh, hap], ownsRow_base hDo hbw.size, belowTrans hbw hDb⟩
end Go.Proofs.YthhbiliimdpgmaaGreatDoor
