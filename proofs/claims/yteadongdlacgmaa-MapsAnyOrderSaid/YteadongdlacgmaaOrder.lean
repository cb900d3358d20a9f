/- Walk: quirelaw12.MapsAnyOrder. -/
import Derived.Test.YteadongdlacgmaaOrderW
import Derived.Laws.AppendOwnNone
namespace Go.Proofs.Yteadongdlacgmaa
open Go.RowKit

set_option maxRecDepth 100000 in
set_option maxHeartbeats 40000000 in
theorem order_any (sz st sh : Value) (zs ts : List Int) (rs : List QRng) (w : World) (hz : SliceP 1 (fun n => [.int .u16 n]) w sz zs) (hzr : ∀ z ∈ zs, 0 ≤ z ∧ z < 65536) (ht : SliceP 1 encU8i w st ts) (htr : ∀ t ∈ ts, 0 ≤ t ∧ t < 256) (hr : SliceAt 3 encRng w sh rs) :
    Calls Try.prog 3 #[sz, st, sh] w fun e w' => e = .returned (.bool true) ∧ Below w.heap.size w w' := by
  have hz' := hz
  obtain ⟨pz, cz, rfl, hz9, hzc⟩ := hz
  obtain ⟨pt, ct, rfl, ht9, htc⟩ := ht
  obtain ⟨pr, cr, rfl, hr9⟩ : ∃ p c, sh = .slice p rs.length c ∧ rs.length ≤ 9223372036854775807 := by
    rcases hr with ⟨rfl, rfl⟩ | ⟨b, off, cap, rfl, h9, _⟩
    · exact ⟨none, 0, rfl, by simp⟩
    · exact ⟨_, cap, rfl, h9⟩
  clear hzc
  go_enter Try.func3, Try.ntmps3
  go_wp2_with fail
  refine (known_any _).mono ?_
  rintro e w0 ⟨rfl, hb0⟩
  by_cases hzl : zs.length ≤ 40
  · by_cases htl : ts.length ≤ 200
    · by_cases hrl : rs.length ≤ 20
      · go_wp2_with fail
        refine (grown_any _ zs _ (hz'.below hb0) hzr hzl).mono ?_
        rintro e w1 ⟨vs, rfl, hown1, hb1⟩
        obtain ⟨hg, hgl, -, -, -⟩ := growS_inv zs zs.length (by omega)
        have hb01 : Below w.heap.size w w1 := hb0.trans (hb1.mono hb0.size)
        generalize (growS zs zs.length).1 = l at hown1 hg hgl
        have hll : l.length ≤ 40 := by omega
        clear hz' hzr hb1 hgl
        go_wp2_with fail
        refine (newM_any w w1 (fun b => vs.ownBlock = some b) hb01 (fun b hb => (World.ownsRow.lt hown1 b hb).2)).mono ?_
        rintro e w2 ⟨rfl, sta, hb2⟩
        obtain ⟨BA, hBA⟩ : ∃ n, w1.heap.size + 2 = n := ⟨_, rfl⟩
        have hown2 := hown1.keep hb2
        rw [hBA] at sta ⊢
        clear hBA hown1
        go_wp2_with fail
        refine (newM_any w w2 (fun b => b < w2.heap.size) (hb01.trans (hb2.mono hb01.size)) (fun b h => h)).mono ?_
        rintro e w3 ⟨rfl, stb, hb3⟩
        obtain ⟨BB, hBB⟩ : ∃ n, w2.heap.size + 2 = n := ⟨_, rfl⟩
        rw [hBB] at stb ⊢
        clear hBB
        have hown3 := hown2.keep hb3
        obtain ⟨Ra, hRa⟩ : ∃ Ra : Nat → Prop, Ra = fun b => vs.ownBlock = some b ∨ (w2.heap.size ≤ b ∧ b < w3.heap.size) := ⟨_, rfl⟩
        have hRa1 : ∀ b, vs.ownBlock = some b → Ra b := by rw [hRa]; exact fun b h => .inl h
        have hRa2 : ∀ b, w2.heap.size ≤ b → b < w3.heap.size → Ra b := by rw [hRa]; exact fun b h1 h2 => .inr ⟨h1, h2⟩
        have sta3 : MState w Ra BA QMaps.empty w3 := sta.reserve hb3 (by rw [hRa]; exact fun b h => h)
        have hr3 : SliceAt 3 encRng w3 (.slice pr rs.length cr) rs := ((hr.below hb01).below hb2).below hb3
        have hsz3 := hb3.size
        clear hown2 sta hb2 hb3 hRa
        go_wp2_with fail
        refine (hideM_any w _ BA _ _ rs _ sta3 hr3 (by omega) rfl).mono ?_
        rintro e w4 ⟨rfl, hst4⟩
        have sta4 : MState w Ra BA ⟨l.take 0, rs⟩ w4 := by rw [List.take_zero]; exact hst4.st
        have hk4 : KeptB Ra w3 w4 := ⟨hst4.kept⟩
        have hsz4 : w3.heap.size ≤ w4.heap.size := hst4.size
        clear hst4 sta3 hr3
        obtain ⟨ps, cs, rfl⟩ := hown3.slice_shape
        have HRa1 := Lib.hid hRa1
        have HRa2 := Lib.hid hRa2
        clear hRa1 hRa2
        go_wp2_with fail
        go_loopw [10] (fun i wr => ∃ j : Nat, j ≤ l.length ∧ i = .int .i64 j ∧ MState w Ra BA ⟨l.take j, rs⟩ wr ∧ KeptB Ra w3 wr ∧ w3.heap.size ≤ wr.heap.size) (fun i _ => l.length - (intOf i).toNat)
        case atStart => exact ⟨0, Nat.zero_le _, rfl, sta4, hk4, hsz4⟩
        case round =>
          obtain ⟨j, hj, rfl, sta, hk, hsz⟩ := hrel
          clear sta4 hk4 hsz4
          clear w4
          have hown := (show OwnAt _ 41 22 encOp wr _ l from ownsRow_blk hown3 fun b e => hk.out b (HRa1.out b e))
          by_cases hlt : j < l.length
          · obtain ⟨o, ho⟩ : ∃ o, l[j]? = some o := ⟨l[j], by simp [hlt]⟩
            obtain ⟨g, c, e, hcl, hgs, hoc⟩ := hown.opAt ho
            obtain ⟨rfl, rfl⟩ : ps = some ⟨g, 0, none⟩ ∧ cs = c := by simpa using e
            clear e
            obtain ⟨hsB, hsE⟩ := hg.order rs ho
            go_wp2_with (refine wpList_load_eq (T := 41) (v := opV o) rfl rfl rfl (load_op hoc) ?_)
            refine (setM_yes w _ _ ⟨l.take j, rs⟩ o _ sta (by simp; omega) hsB).mono ?_
            rintro e w5 ⟨rfl, hst5⟩
            rw [hsE] at hst5
            have sta5 := hst5.st
            have hk5 : KeptB Ra w3 w5 := hk.trans ⟨hst5.kept⟩
            have hsz5 : w3.heap.size ≤ w5.heap.size := Nat.le_trans hsz hst5.size
            clear hst5 sta hk hsz hown hoc hsB hsE
            go_wp2_with fail
            go_roundw
            case rel => exact ⟨j + 1, by omega, by go_num, sta5, hk5, hsz5⟩
            case measure => simp [intOf]; omega
          · obtain rfl : j = l.length := by omega
            rw [List.take_length] at sta
            go_upto_region 13 with fail
            go_cut [11] (fun u wx => OwnAt wr.heap.size 41 22 encOp wx u l ∧ Below wr.heap.size wr wx)
            case first =>
              obtain ⟨i0, hi, hz0, hz1, hz2⟩ := info_parts infoOp
              rcases hown.2 with ⟨e1, e2⟩ | ⟨g, cap, cur, e1, _, hcur, hcap, _⟩
              · obtain ⟨rfl, e3, rfl⟩ : ps = none ∧ l.length = 0 ∧ cs = 0 := by simpa using e1
                obtain rfl : l = [] := List.eq_nil_of_length_eq_zero e3
                clear e1 e2 e3
                go_wp2_with (at_builtin; refine wpList_append_own_none rfl _ _ 26 rfl wr.heap.size 41 i0 22 Try.underlying26 hi _ 0 [] rfl (OwnAt.nil (α := QOp) (k := 22) (enc := encOp)) rfl ?_)
                go_meet
                exact ⟨OwnAt.nil, Below.refl _ _⟩
              · obtain ⟨rfl, rfl⟩ : ps = some ⟨g, 0, none⟩ ∧ cs = cap := by simpa using e1
                clear e1
                go_wp2_with (at_builtin; refine wpList_append_own_at _ rfl _ _ 26 rfl wr.heap.size 41 i0 (opV opZero) 22 200 Try.underlying26 hi hz0 hz1 hz2 rfl (by decide) _ 0 [] rfl (OwnAt.nil (α := QOp) (k := 22) (enc := encOp)) ⟨g, 0, none⟩ l.length cs (l.flatMap encOp) rfl (flat_length (enc := encOp) (k := 22) (fun _ => rfl) l) ?a1 ?a2 ?a3 ?a4 ?a5 ?_)
                case a1 => exact rowCells hown
                case a2 => exact opCells_one l
                case a3 => unfold maxLen; omega
                case a4 => omega
                case a5 => simp
                intro v' w6 hown6 hgrow6 _ _
                go_wp2_with fail
                go_meet
                refine ⟨?_, (Below.refl _ _).grown hgrow6 (Nat.le_refl _) (fun b e => by cases e)⟩
                unfold OwnAt
                simpa using hown6
            case rest =>
              obtain ⟨hown6, hb6⟩ := hcut
              have stb6 := stb.later (wc := wc) (Ra := Ra) HRa2.out (hk.trans ⟨fun b hr => hb6.block b (sta.lt b hr)⟩) (sta.low.trans (hb6.mono sta.low.size)) u11 (fun b e => by have := World.ownsRow.lt hown6 b e; omega)
              have sta6 := sta.below hb6
              obtain ⟨Rb, hRb⟩ : ∃ Rb : Nat → Prop, Rb = fun b => b < wc.heap.size ∧ ¬ (w2.heap.size ≤ b ∧ b < w3.heap.size) := ⟨_, rfl⟩
              have HRb : ∀ b, b < wc.heap.size → ¬ Ra b → Rb b := by rw [hRb]; exact fun b h1 h2 => ⟨h1, fun h => h2 (HRa2.out b h.1 h.2)⟩
              have os0 : OState w wc Rb BB l u11 l [] wc := ⟨by rw [hRb]; exact stb6, hown6.base sta.low.size, KeptB.refl _ _, MWf.nil, List.Perm.refl _, Nat.le_refl _⟩
              have HRb := Lib.hid HRb
              clear hRb stb6 hown6 hown hk sta hsz HRa1 HRa2 stb hown3
              go_wp2_with fail
              go_loopw [11, 12] (fun left i wx => ∃ (lf B : List QOp) (j : Nat), i = .int .i64 j ∧ j + lf.length = l.length ∧ OState w wc Rb BB l left lf B wx) (fun left _ _ => match left with | .slice _ n _ => n | _ => 0)
              case atStart => exact ⟨l, [], 0, rfl, by omega, os0⟩
              case round =>
                obtain ⟨lf, B, j, rfl, hjl, os⟩ := hrel
                clear os0
                obtain ⟨pl, cl, rfl⟩ := os.own.slice_shape
                by_cases hne : 0 < lf.length
                · obtain ⟨k, ok, hk, hmk⟩ := hg.able [] os.perm hne
                  have hkl : k < lf.length := (List.getElem?_eq_some_iff.1 hk).1
                  have hlow := os.st.low
                  go_upto_if 59 with fail
                  go_cut [13] (fun u wx => (∃ a : Nat, a < lf.length ∧ u = .int .i64 a) ∧ wr = wx)
                  case first =>
                    by_cases hjt : j < ts.length
                    · obtain ⟨t, hjt2⟩ : ∃ t, ts[j]? = some t := ⟨ts[j], by simp [hjt]⟩
                      obtain ⟨bt, ot, rfl, htl2, htc2⟩ := htc j t hjt2
                      have tc : wr.cell? ⟨bt, ot + j, none⟩ = some (.int .u8 t) := (hlow.cell (p := ⟨bt, ot + j, none⟩) htl2).trans (by simpa using htc2 0 _ rfl)
                      have htr2 := htr t (List.mem_of_getElem? hjt2)
                      obtain ⟨n, rfl⟩ := Int.eq_ofNat_of_zero_le htr2.1
                      have hn2 : (n : Int) < 256 := htr2.2
                      clear htc htc2 htr htr2
                      go_wp2_with fail
                      go_meet
                      exact ⟨⟨n % lf.length, Nat.mod_lt _ hne, by rw [Int.natCast_emod]⟩, rfl⟩
                    · clear htc htr
                      go_wp2_with fail
                      go_meet
                      exact ⟨⟨0, hne, rfl⟩, rfl⟩
                  case rest =>
                    obtain ⟨⟨a, ha, rfl⟩, rfl⟩ := hcut
                    clear hlow
                    go_wp2_with fail
                    obtain ⟨wl, rfl⟩ : ∃ wl : World, wl = wr := ⟨_, rfl⟩
                    go_loopw [13] (fun u wx => ∃ a : Nat, a < lf.length ∧ u = .int .i64 a ∧ Below wl.heap.size wl wx) (fun u _ => (k + lf.length - (intOf u).toNat) % lf.length)
                    case atStart => exact ⟨a, ha, rfl, Below.refl _ _⟩
                    case round =>
                      obtain ⟨a, ha, rfl, hbl⟩ := hrel
                      have os2 := os.below hbl
                      clear os
                      obtain ⟨o, ho⟩ : ∃ o, lf[a]? = some o := ⟨lf[a], by simp [ha]⟩
                      obtain ⟨g, c, e, hcl, hgs, hoc⟩ := os2.own.opAt ho
                      obtain ⟨rfl, rfl⟩ : pl = some ⟨g, 0, none⟩ ∧ cl = c := by simpa using e
                      clear e
                      have o14 := hoc 14 _ rfl
                      have o15 := hoc 15 _ rfl
                      have hlow2 := os2.st.low.size
                      have hism := isM_any w _ BB ⟨B, []⟩ o.parent wr os2.st
                      go_wp2_with fail
                      refine Calls.mono hism ?_
                      rintro e w7 ⟨rfl, hb7⟩
                      have os7 := os2.below hb7
                      have hoc7 : OpCells w7 g (a * 22) o := fun i y hy => (hb7.cell (p := ⟨g, a * 22 + i, none⟩) hgs).trans (hoc i y hy)
                      have hgs7 : g < w7.heap.size := Nat.lt_of_lt_of_le hgs hb7.size
                      have hbl7 := belowTrans hbl hb7
                      clear hism os2 hoc o14 o15 hgs hb7 hlow2 hbl
                      have hlow7 := os7.st.low.size
                      cases him : QMaps.isMap ⟨B, []⟩ o.parent
                      · have hak : a ≠ k := by
                          rintro rfl
                          rw [hk] at ho
                          cases ho
                          rw [hmk] at him
                          cases him
                        clear him hmk
                        go_wp2_with fail
                        go_roundw
                        case rel => exact ⟨(a + 1) % lf.length, Nat.mod_lt _ hne, by rw [Int.natCast_emod]; rfl, hbl7⟩
                        case measure => exact round_nearer ha hkl hak
                      · obtain ⟨hsB, hsE, hsP⟩ := hg.come [] os7.perm ho him
                        go_wp2_with (refine wpList_load_eq (T := 41) (v := opV o) rfl rfl rfl (load_op hoc7) ?_)
                        refine (setM_yes w _ BB ⟨B, []⟩ o _ os7.st (by have := os7.perm.length_eq; simp at this ⊢; omega) hsB).mono ?_
                        rintro e ws ⟨rfl, hst⟩
                        rw [hsE] at hst
                        have own8 : OwnAt w.heap.size 41 22 encOp ws (.slice (some ⟨g, 0, none⟩) lf.length cl) lf := ownsRow_blk os7.own fun b e => hst.kept b (.inr e)
                        have hgs8 : g < ws.heap.size := Nat.lt_of_lt_of_le hgs7 hst.size
                        clear hoc7 hsB hsE hsP hgs7 hlow7 hmk hk
                        go_upto_region 24 with fail
                        obtain ⟨i0, hi, hz0, hz1, hz2⟩ := info_parts infoOp
                        obtain ⟨off, hoff, hlo⟩ := slice_lo g lf.length cl a ha hcl
                        have hhi := slice_hi g lf.length cl a ha hcl
                        have Hst := Lib.hid hst
                        have Hoff := Lib.hid hoff
                        clear hst hoff
                        have hfl : lf.length ≤ 40 := by omega
                        refine wp_region_flow3 8 [0, 1, 2, 4, 5, 6, 7] [3, 8, 9] (fun w' => ∃ s : MStep (fun _ => False) ws, w' = s.val) (by kernel_rfl) (by kernel_rfl) (fun _ _ d _ _ h => by cases d <;> exact h) (MStep.to (Mods.refl _ _).drew) ?_
                        simp only [List.map_cons, List.map_nil, List.getElem?_cons_succ, List.getElem?_cons_zero, Option.getD_some]
                        repeat (first | go_big_quiet_skip | (go_big_quiet_want; first | (fail; go_frame; go_big_quiet_on) | (go_big_quiet_op; go_big_quiet_on)))
                        refine wpQuiet_nil ?_
                        refine wpSeqF_step rfl ?_; simp only [List.getElem_toArray, List.getElem_cons_succ, List.getElem_cons_zero]
                        go_wp2_with (at_builtin; refine wpList_append_own_at _ rfl _ _ 26 rfl ws.heap.size 41 i0 (opV opZero) 22 200 Try.underlying26 hi hz0 hz1 hz2 rfl (by decide) _ 0 [] rfl (OwnAt.nil (α := QOp) (k := 22) (enc := encOp)) ⟨g, 0, none⟩ a cl ((lf.take a).flatMap encOp) rfl (by rw [flat_length (enc := encOp) (k := 22) (fun _ => rfl), List.length_take, Nat.min_eq_left (Nat.le_of_lt ha)]) ?b1 ?b2 ?b3 ?b4 ?b5 ?_)
                        case b1 => exact takeCells (w := ws.drew) (show OwnAt w.heap.size 41 22 encOp ws.drew _ lf from own8) rfl a
                        case b2 => exact opCells_one _
                        case b3 => unfold maxLen; omega
                        case b4 => omega
                        case b5 => simp
                        intro v8 w8 hown8' hgrow8 _ _
                        have hb8 : Below ws.heap.size ws w8 := ((Below.refl _ _).drew).grown hgrow8 (Nat.le_refl _) (fun b e => by cases e)
                        go_wp2_with fail
                        refine ⟨MStep.to (Mods.of_below hb8), ?_⟩
                        refine wpSeqF_step rfl ?_; simp only [List.getElem_toArray, List.getElem_cons_succ, List.getElem_cons_zero]
                        have own9 : OwnAt w.heap.size 41 22 encOp w8 (.slice (some ⟨g, 0, none⟩) lf.length cl) lf := own8.keep hb8
                        go_wp2_with (at_builtin; refine wpList_append_own_at _ rfl _ _ 26 rfl ws.heap.size 41 i0 (opV opZero) 22 200 Try.underlying26 hi hz0 hz1 hz2 rfl (by decide) _ a ((lf.take a).flatMap encOp) rfl hown8' ⟨g, off, none⟩ (lf.length - (a + 1)) (cl - (a + 1)) ((lf.drop (a + 1)).flatMap encOp) rfl (by rw [flat_length (enc := encOp) (k := 22) (fun _ => rfl), List.length_drop]) ?d1 ?d2 ?d3 ?d4 ?d5 ?_)
                        case d1 => exact dropCells own9 rfl (a + 1) Hoff.out
                        case d2 => exact opCells_one _
                        case d3 => unfold maxLen; omega
                        case d4 => omega
                        case d5 => exact hb8.size
                        intro v9 w9 hown9' hgrow9 _ _
                        have hb9 : Below ws.heap.size ws w9 := hb8.grown hgrow9 hb8.size (fun b e => (World.ownsRow.lt hown8' b e).1)
                        have hown9 : OwnAt ws.heap.size 41 22 encOp w9 v9 (lf.take a ++ lf.drop (a + 1)) := by
                          unfold OwnAt
                          rw [List.length_append, List.length_take, List.length_drop, List.flatMap_append, Nat.min_eq_left (Nat.le_of_lt ha)]
                          simpa using hown9'
                        have os9 := os7.next hg ho him Hst.out hb9 hown9
                        clear hown8' hgrow8 hb8 own9 hown9' hgrow9 hlo hhi hi hz0 hz1 hz2
                        left
                        go_wp2_with fail
                        refine wpSeqF_nil ?_
                        clear os7 hown9 Hst own8 hb9 him hbl7
                        go_wp2_with fail
                        go_roundw
                        case rel => exact ⟨_, _, j + 1, by go_num, by simp; omega, os9⟩
                        case measure => obtain ⟨p9, c9, rfl⟩ := os9.own.slice_shape; simp; omega
                · obtain rfl : lf = [] := List.eq_nil_of_length_eq_zero (by omega)
                  have hpB : B.Perm l := by have := os.perm; rwa [List.append_nil] at this
                  have hr6 : SliceAt 3 encRng wr (.slice pr rs.length cr) rs := hr.below os.st.low
                  have hBl : B.length ≤ 40 := by rw [hpB.length_eq]; exact hll
                  have hsize := os.st.low.size
                  clear hjl hne htc htr
                  go_wp2_with fail
                  refine (hideM_any w _ BB _ _ rs _ os.st hr6 (by omega) rfl).mono ?_
                  rintro e w7 ⟨rfl, hst⟩
                  have stb7 := hst.st
                  have hk7 := os.kept.trans (⟨fun b hb => hst.kept b (.inl hb)⟩ : KeptB Rb wr w7)
                  have sta7 := sta6.through (Nat.le_trans os.size hst.size) stb7.low (fun b hb hr => hk7.out b (HRb.out b hb hr))
                  have hkey : ∀ o ∈ l, o.key.size ≤ maxLen := fun o ho => by have := (hg.good o ho).2.2.2.1; unfold maxLen; omega
                  have hwfB := os.wf
                  have Hkey := Lib.hid hkey
                  clear hkey hst hk7 os sta6 HRb hr6 hsize
                  go_wp2_with fail
                  refine Calls.mono (viewM_any w _ _ _ _ sta7 hg.wf Hkey.out (Nat.le_trans hll (by decide))) ?_
                  rintro e w8 ⟨va, rfl, hva, hb8⟩
                  have stb8 := stb7.below hb8
                  clear sta7 stb7 hb8
                  go_wp2_with fail
                  refine (text_any _ hva (hg.text_size rs hll) (hg.text_ok rs)).mono ?_
                  rintro e w9 ⟨rfl, hb9⟩
                  have stb9 := stb8.below hb9
                  clear stb8 hb9 hva
                  go_wp2_with fail
                  refine Calls.mono (viewM_any w _ _ _ _ stb9 hwfB (fun o ho => Hkey.out o (hpB.mem_iff.1 ho)) (Nat.le_trans hBl (by decide))) ?_
                  rintro e w10 ⟨vb, rfl, hvb, hb10⟩
                  rw [← hg.same rs hpB] at hvb
                  have stb10 := stb9.below hb10
                  clear stb9 hb10
                  go_wp2_with fail
                  refine (text_any _ hvb (hg.text_size rs hll) (hg.text_ok rs)).mono ?_
                  rintro e w11 ⟨rfl, hb11⟩
                  have low := (stb10.below hb11).low
                  clear stb10 hb11 hvb hwfB Hkey
                  generalize entText noB (QMaps.view ⟨l, rs⟩) = S
                  go_wp2_with fail
                  go_ret
                  exact ⟨rfl, low⟩
      · go_wp2_with fail
        go_ret
        exact ⟨rfl, hb0⟩
    · go_wp2_with fail
      go_ret
      exact ⟨rfl, hb0⟩
  · go_wp2_with fail
    go_ret
    exact ⟨rfl, hb0⟩
end Go.Proofs.Yteadongdlacgmaa
