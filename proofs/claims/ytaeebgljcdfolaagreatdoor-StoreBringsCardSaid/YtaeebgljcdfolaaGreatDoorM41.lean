/- Walks: strings.Join of one, []rune of a right text, ops.pieces. -/
import Derived.Test.YtaeebgljcdfolaaGreatDoorM32
import Derived.Test.YtaeebgljcdfolaaGreatDoorM33
import Derived.Test.YtaeebgljcdfolaaGreatDoorM07
import Derived.Laws.IdiomStrings
namespace Go.Proofs.YtaeebgljcdfolaaGreatDoor
open Go.RowKit Go.Lib

theorem runesFrom_enc {rs : List Int} (h : ∀ r ∈ rs, okRune r) : ∀ (b k : Nat) (acc : Array Value), k ≤ rs.length → (ebytes rs).length ≤ b + eoff rs k → Conv.runesFrom (estr rs) b (eoff rs k) acc = acc ++ ((rs.drop k).map (Value.int .i32)).toArray
  | 0, k, acc, hk, hb => by
    rcases Nat.lt_or_ge k rs.length with h1 | h1
    · have := eoff_lt rs h1; omega
    · simp [Conv.runesFrom, List.drop_eq_nil_of_le h1]
  | b + 1, k, acc, hk, hb => by
    unfold Conv.runesFrom
    have hsz := estr_size h
    rcases Nat.lt_or_ge k rs.length with h1 | h1
    · have hlt := eoff_lt rs h1
      rw [if_pos (by rw [hsz]; exact hlt)]
      obtain ⟨x, hr⟩ : ∃ x, rs[k]? = some x := ⟨rs[k], by simp⟩
      obtain ⟨hk2, hx⟩ := List.getElem?_eq_some_iff.1 hr
      rw [decode_place h hr]
      dsimp only
      have he := eoff_succ rs hr
      have hp := (encodeRune_pos x).1
      rw [← he]
      rw [runesFrom_enc h b (k + 1) _ (by omega) (by omega)]
      have hr0 : 0 ≤ x := by have := h x (List.mem_of_getElem? hr); unfold okRune at this; omega
      have e2 : (Int.ofNat x.toNat : Int) = x := by show ((x.toNat : Nat) : Int) = x; omega
      rw [e2, ← List.getElem_cons_drop h1, hx]
      simp
    · obtain rfl : k = rs.length := by omega
      rw [eoff_end, if_neg (by rw [hsz]; omega)]
      simp
theorem runesFrom_ok {t : ByteArray} (h : okB t = true) : Conv.runesFrom t t.size 0 #[] = ((runesB t).map (Value.int .i32)).toArray := by
  unfold okB at h
  obtain ⟨rs, hrs⟩ := Option.isSome_iff_exists.1 h
  obtain ⟨h1, h2⟩ := text_of_runes hrs
  have h3 : runesB t = rs := by unfold runesB; rw [hrs]; rfl
  have h4 := runesFrom_enc h2 t.size 0 #[] (Nat.zero_le _) (by rw [h1, estr_size h2]; omega)
  rw [eoff_zero, ← h1] at h4
  rw [h4, h3]
  simp
set_option maxRecDepth 100000 in
set_option maxHeartbeats 400000 in
theorem strJoin1_any (b cap : Nat) (t : ByteArray) (w : World) (h : w.cell? ⟨b, 0, none⟩ = some (.string t)) : Calls Tryz.prog 111 #[.slice (some ⟨b, 0, none⟩) 1 cap, .string ⟨#[]⟩] w fun e w' => e = .returned (.string t) ∧ w = w' := by
  go_enter Tryz.func111, Tryz.ntmps111
  go_wp2_with fail
  go_ret
  exact ⟨rfl, rfl⟩
set_option maxRecDepth 100000 in
set_option maxHeartbeats 4000000 in
theorem pieces_any (S : Nat) (v : Value) (zs : List QOp) (i l r : QId) (t : ByteArray) (tb : Nat) (w : World) (hv : OwnAt S 35 22 encOp w v zs) (hg : GoodT i l r t) (hs : t.size ≤ 100000) (hz : zs.length ≤ 1000) (hS : S ≤ w.heap.size)
    (htb : tb < w.heap.size) (ht : w.cell? ⟨tb, 0, none⟩ = some (.string t)) :
    Calls Tryz.prog 80 #[v, opV (tOp i l r t), .slice (some ⟨tb, 0, none⟩) 1 1] w (RetW fun v' w' => OwnAt S 35 22 encOp w' v' (zs ++ [tOp i l r t]) ∧ Below S w w') := by
  obtain ⟨ix, hix, hz0, hz1, hz2⟩ := info_parts infoOp
  obtain ⟨hok, hpos, hlim⟩ := okT_iff hg.ok
  have hN := runes_size hok
  have hrf := runesFrom_ok hok
  have hid := hg.id
  have hfit := hg.fits
  have hi1 : 1 ≤ i.k ∧ i.k ≤ 9007199254740991 := by simp [QId.rightB, numB] at hid; omega
  clear hid hg
  change Calls Tryz.prog 80 #[v, .agg #[.int .u64 i.c, .int .u64 i.k, .int .i64 1, .int .u64 0, .int .u64 l.c, .int .u64 l.k, .int .u64 r.c, .int .u64 r.k, .string t, .int .i64 0, .int .i64 0, .float .f64 0, .string ⟨#[]⟩, .string ⟨#[]⟩, .int .u64 0, .int .u64 0, .int .u64 0, .int .u64 0, .bool false, .int .u64 0, .int .u64 0, .bool false], .slice (some ⟨tb, 0, none⟩) 1 1] w _
  go_enter Tryz.func80, Tryz.ntmps80
  go_upto_region 1 with fail
  obtain ⟨W, hW⟩ : ∃ W, w.alloc (.cells (encOp (tOp i l r t)).toArray 35) = W := ⟨_, rfl⟩
  have hB : Below w.heap.size w W := by rw [← hW]; exact (Below.refl _ _).alloc (Nat.le_refl _) _
  have hbx : OpBox W w.heap.size (tOp i l r t) := by rw [← hW]; exact OpBox.new _ _
  change Code.wp _ _ _ _ (w.alloc (.cells (encOp (tOp i l r t)).toArray 35))
  rw [hW]
  clear hW
  have q2 : W.cell? ⟨w.heap.size, 2, none⟩ = some (.int .i64 1) := hbx.cells 2 _ rfl
  have htW := (hB.cell (p := ⟨tb, 0, none⟩) htb).trans ht
  have hbl := hbx.lt
  have hvW : OwnAt S 35 22 encOp W v zs := ownsRow_blk hv fun b e => hB.block b (ownsRow_lt hv b e)
  have hBS : Below S w W := hB.mono hS
  have hvb : ∀ b, v.ownBlock = some b → S ≤ b ∧ b < w.heap.size := fun b e => ⟨(World.ownsRow.lt hv b e).1, ownsRow_lt hv b e⟩
  have hSW : S ≤ w.heap.size := hS
  have hcv := run_runes_of_string (P := Tryz.prog) W 9 90 21 t Tryz.underlying9 Tryz.underlying90 Tryz.underlying21 (by rw [hrf]; simp; omega)
  rw [hrf] at hcv
  simp only [List.size_toArray, List.length_map] at hcv
  obtain ⟨N, hNN⟩ : ∃ N, (runesB t).length = N := ⟨_, rfl⟩
  have hcap := grownCap_ge W N 0 21
  have hcapm := grownCap_le_maxLen W N 0 21 (by unfold maxLen; omega)
  rw [hNN] at hcv hN hlim hfit
  generalize grownCap W N 0 21 = cap at hcv hcap hcapm
  have HNN := Lib.hid hNN
  clear hNN hrf
  go_upto_region 5 with (go_at_call 111; refine (strJoin1_any tb 1 t _ htW).mono ?_; rintro e w1 ⟨rfl, rfl⟩)
  have hcellR : ∀ j, j < (runesB t).length → ((W.alloc (.cells (((runesB t).map (Value.int .i32)).toArray ++ Array.replicate (cap - N) (.int .i32 0)) 21)).drew).cell? ((⟨W.heap.size, 0, none⟩ : Addr).add j) = some (.int .i32 ((runesB t).getD j 0)) := by
    intro j hj
    rw [Addr.add_lit]
    show (W.alloc _).cell? _ = _
    rw [World.cell?, heap_alloc_new]
    simp [Array.getElem?_append, hj, List.getD_eq_getElem?_getD]
  have hB1 : Below W.heap.size W ((W.alloc (.cells (((runesB t).map (Value.int .i32)).toArray ++ Array.replicate (cap - N) (.int .i32 0)) 21)).drew) := ((Below.refl _ _).alloc (Nat.le_refl _) _).drew
  have hR1 : W.heap.size < ((W.alloc (.cells (((runesB t).map (Value.int .i32)).toArray ++ Array.replicate (cap - N) (.int .i32 0)) 21)).drew).heap.size := by show W.heap.size < (W.alloc _).heap.size; simp
  obtain ⟨W1, hW1⟩ : ∃ W1, (W.alloc (.cells (((runesB t).map (Value.int .i32)).toArray ++ Array.replicate (cap - N) (.int .i32 0)) 21)).drew = W1 := ⟨_, rfl⟩
  obtain ⟨R, hR⟩ : ∃ R, W.heap.size = R := ⟨_, rfl⟩
  rw [hW1] at hcellR hB1 hR1 ⊢
  rw [hR] at hcellR hR1 ⊢
  have hbx1 := hbx.below hB1 hbl
  have hv1 : OwnAt S 35 22 encOp W1 v zs := ownsRow_blk hvW fun b e => hB1.block b (ownsRow_lt hvW b e)
  have hBS1 : Below S w W1 := hBS.trans (hB1.mono (Nat.le_trans hSW hB.size))
  have hcvt := run_convert_runes (P := Tryz.prog) W1 90 9 21 ⟨R, 0, none⟩ N cap (runesB t) (by rw [HNN.out]; exact Nat.le_refl _) Tryz.underlying90 Tryz.underlying21 Tryz.underlying9 hcellR
  have htk : runesBytes ((runesB t).take N) = t := by
    have := cutB_all hok (e := N) (by rw [HNN.out]; exact Nat.le_refl _)
    unfold cutB at this
    rwa [List.drop_zero] at this
  rw [htk] at hcvt
  have hsh := slice_h_run (T := 90) (by kernel_rfl) (fun w => show (sizeOf (Tryz.prog.elem 90)).run Tryz.prog w = .ok 1 w by kernel_rfl) R 0 N cap N (by omega)
  obtain ⟨off, _, hsl⟩ := slice_l_run (T := 90) (by kernel_rfl) (fun w => show (sizeOf (Tryz.prog.elem 90)).run Tryz.prog w = .ok 1 w by kernel_rfl) R 0 N cap N (Nat.le_refl _) (by omega)
  rw [Nat.sub_self] at hsl
  have hNz : (N : Int) ≤ 4096 := by omega
  have hNp : (0 : Int) < (N : Int) := by omega
  have hmin : min (N : Int) 4096 = (N : Int) := by omega
  clear hW1 hR hcellR hB1 hbx hbl hvW hBS hv hcv q2 htW htb ht htk hok hB
  clear W
  go_loopw [0, 7] (fun o s wr => (o = v ∧ s = .slice (some ⟨R, 0, none⟩) N cap ∧ wr = W1) ∨ (s = .slice (some ⟨R, off, none⟩) 0 (cap - N) ∧ OwnAt S 35 22 encOp wr o (zs ++ [tOp i l r t]) ∧ Below S w wr)) (fun _ s _ => match s with | .slice _ n _ => n | _ => 0)
  case atStart => exact .inl ⟨rfl, rfl, rfl⟩
  case round =>
    rcases hrel with ⟨rfl, rfl, rfl⟩ | ⟨rfl, ho, hb⟩
    · have a8 : wr.cell? ⟨w.heap.size, 8, none⟩ = some (.string t) := hbx1.cells 8 _ rfl
      have f8 := hbx1.f 8
      have hset := hbx1.setText t
      change OpBox _ w.heap.size (tOp i l r t) at hset
      obtain ⟨O, hO⟩ : ∃ O, tOp i l r t = O := ⟨_, rfl⟩
      rw [hO] at hset hbx1 ⊢
      have HO := Lib.hid hO
      clear hO
      go_upto_region 8 with fail
      have HVB := Lib.hid hvb
      have hv2 : OwnAt S 35 22 encOp (wr.setCell ⟨w.heap.size, 8, none⟩ (.string t)) u0 zs := ownsRow_blk hv1 fun b e => Below.heap_setCell _ _ _ _ (by have := (HVB.out b e).2; show b ≠ w.heap.size; omega)
      have hB2 : Below S w (wr.setCell ⟨w.heap.size, 8, none⟩ (.string t)) := hBS1.setCell (p := ⟨w.heap.size, 8, none⟩) hS _
      have hS2 : S ≤ (wr.setCell ⟨w.heap.size, 8, none⟩ (.string t)).heap.size := by have := hbx1.lt; simp; omega
      obtain ⟨W2, hW2⟩ : ∃ W2, wr.setCell ⟨w.heap.size, 8, none⟩ (.string t) = W2 := ⟨_, rfl⟩
      rw [hW2] at hset hv2 hB2 hS2 ⊢
      clear hW2 hbx1 hv1 hBS1 a8 f8 hcvt hvb
      have hxl := hset.lt
      go_upto_region 9 with (first | (refine wpList_load_eq (T := 35) (v := opV O) rfl rfl rfl hset.load ?_) | (refine wpList_sliceOp O rfl _ rfl rfl ?_) | (at_builtin; refine wpList_append_own_at _ rfl _ _ 25 rfl S 35 ix (opV opZero) 22 200 Tryz.underlying25 hix hz0 hz1 hz2 rfl (by decide) _ _ _ rfl (show World.ownsRow (W2.alloc _) S 35 22 u0 zs.length (zs.flatMap encOp) from World.ownsRow.alloc hv2 _) ⟨W2.heap.size, 0, none⟩ 1 1 (encOp O) rfl rfl ?f1 ?f2 ?f3 ?f4 ?f5 ?_))
      case f1 => exact fun k u hu => by rw [Addr.add_lit]; exact (OpBox.new W2 O).cells k u hu
      case f2 => intro u hu; simp [encOp] at hu; rcases hu with h | h | h | h | h | h | h | h | h | h | h | h | h | h | h | h | h | h | h | h | h | h <;> (subst h; rfl)
      case f3 => unfold maxLen; omega
      case f4 => omega
      case f5 => first | omega | (simp; omega)
      intro v' w3 hown' hgrow _ hblk
      have hbx3 : OpBox w3 w.heap.size O := (hgrow.block _ (by simp; omega) (fun e => by have := (HVB.out _ e.symm).2; omega)).trans ((Below.heap_alloc W2 _ _ hxl).trans hset)
      have hB3 : Below S w w3 := (hB2.alloc hS2 _).grown hgrow (by simp; omega) (fun b e => (HVB.out b e).1)
      have ho3 : OwnAt S 35 22 encOp w3 v' (zs ++ [O]) := by
        unfold OwnAt
        rw [List.length_append, List.flatMap_append]
        simpa using hown'
      have hvn : ∀ b, v'.ownBlock = some b → b ≠ w.heap.size := fun b e => by
        rcases hblk with h | h
        · rw [h] at e
          have := (HVB.out b e).2
          omega
        · rw [h] at e
          cases e
          omega
      have HVN := Lib.hid hvn
      clear hvn hown' hgrow hblk hset hv2 hB2 hS2
      have b0 : w3.cell? ⟨w.heap.size, 0, none⟩ = some (.int .u64 i.c) := hbx3.cells 0 _ (by rw [← HO.out]; rfl)
      have b1 : w3.cell? ⟨w.heap.size, 1, none⟩ = some (.int .u64 i.k) := hbx3.cells 1 _ (by rw [← HO.out]; rfl)
      have b4 : w3.cell? ⟨w.heap.size, 4, none⟩ = some (.int .u64 l.c) := hbx3.cells 4 _ (by rw [← HO.out]; rfl)
      have b5 : w3.cell? ⟨w.heap.size, 5, none⟩ = some (.int .u64 l.k) := hbx3.cells 5 _ (by rw [← HO.out]; rfl)
      have f1 := hbx3.f 1
      have f4 := hbx3.f 4
      have f5 := hbx3.f 5
      have hik : i.k + (N : Int) ≤ 9007199254740992 := by omega
      have hset3 : ∀ (x y z : Value) (b : Nat), b ≠ w.heap.size → (((w3.setCell ⟨w.heap.size, 1, none⟩ x).setCell ⟨w.heap.size, 4, none⟩ y).setCell ⟨w.heap.size, 5, none⟩ z).heap[b]? = w3.heap[b]? := fun x y z b hb => ((Below.heap_setCell _ _ _ _ hb).trans (Below.heap_setCell _ _ _ _ hb)).trans (Below.heap_setCell _ _ _ _ hb)
      have HS3 := Lib.hid hset3
      clear hset3
      go_wp2_with fail
      refine ⟨.inr ⟨rfl, ownsRow_blk ho3 fun b e => HS3.out _ _ _ b (HVN.out b e), ((hB3.setCell (p := ⟨w.heap.size, 1, none⟩) hS _).setCell (p := ⟨w.heap.size, 4, none⟩) hS _).setCell (p := ⟨w.heap.size, 5, none⟩) hS _⟩, ?_⟩
      show 0 < N
      omega
    · go_wp2_with fail
      go_ret
      exact ⟨_, rfl, ho, hb⟩
end Go.Proofs.YtaeebgljcdfolaaGreatDoor
