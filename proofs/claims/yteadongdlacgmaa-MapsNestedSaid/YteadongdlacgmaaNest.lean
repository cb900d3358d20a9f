/- Walk: quirelaw12.MapsNested. -/
import Derived.Test.YteadongdlacgmaaKnown
import Derived.Test.YteadongdlacgmaaNestLaw
import Derived.Test.YteadongdlacgmaaNestW
import Derived.Test.YteadongdlacgmaaArgs
import Derived.Test.YteadongdlacgmaaFlow3
namespace Go.Proofs.Yteadongdlacgmaa
open Go.RowKit

theorem infoStr : (Try.prog.info? 9).map (fun i => (i.zero, i.size, i.bytes)) = some (some (.string ⟨#[]⟩), 1, 16) := by kernel_rfl
def encU16i (n : Int) : List Value := [.int .u16 n]
theorem atId_succ (j : Nat) : atId (j + 1) = ⟨1, 100 + (j : Int)⟩ := by
  unfold atId
  rw [if_neg (by omega), show (99 + ((j + 1 : Nat) : Int)) = 100 + (j : Int) by omega]
theorem idNeq (x : QId) (w : World) : (binOp BinOp.neq 34 (.agg #[.int .u64 x.c, .int .u64 x.k]) (.agg #[.int .u64 x.c, .int .u64 x.k])).run Try.prog w = .ok (.bool false) w := by
  have h := idEqual w x x
  unfold idV at h
  simp only [binOp, Sem.run_bind, h, Result.andThen_ok, Sem.run_pure]
  simp
theorem nest0 (d : Nat) (zs : List Int) : coverM d = nestM d zs 0 [] := by simp [coverM, nestM, leaves]
theorem ent_nil_ok : entOk [] = true := by unfold entOk; rfl
theorem cover_ok : entOk [.mk sM v3 []] = true := by
  rw [entOk_cons]
  show (decide (sM.size ≤ 1000000) && v3.plainB && entOk [] && entOk []) = true
  rw [ent_nil_ok]
  decide +kernel
theorem abc_size (z : Int) : (abcAt z).size ≤ maxLen := by
  unfold abcAt
  split
  · decide
  · split <;> decide
theorem nest_keys_small (d : Nat) (hd : d < 7) (zs : List Int) (n : Nat) (hid : List QRng) : ∀ o ∈ (nestM d zs n hid).ops, o.key.size ≤ maxLen := fun o ho => by
  rcases List.mem_append.1 ho with h | h
  · have : ∀ d, d < 7 → ∀ o ∈ chain d ++ [cover], o.key.size ≤ 100 := by decide +kernel
    have := this d hd o h
    unfold maxLen; omega
  · obtain ⟨i, _, rfl⟩ := mem_leaves h
    exact abc_size _
theorem nest_len (d : Nat) (zs : List Int) (n : Nat) (hid : List QRng) : (nestM d zs n hid).ops.length = d + 1 + n := by simp [nestM, chain, leaves]; omega
theorem abc_extract (n : Nat) : (⟨#[97, 98, 99]⟩ : ByteArray).extract (n % 3) (n % 3 + 1) = abcAt n := by
  have h : n % 3 = 0 ∨ n % 3 = 1 ∨ n % 3 = 2 := by omega
  unfold abcAt
  rcases h with h | h | h
  · rw [h, if_pos (by omega)]; decide
  · rw [h, if_neg (by omega), if_pos (by omega)]; decide
  · rw [h, if_neg (by omega), if_neg (by omega)]; decide
theorem leafOp_at (p : QId) {zs : List Int} {j n : Nat} (hz : zs[j]? = some (n : Int)) : leafOp p zs j = mkOp (200 + (j : Int)) ((n : Int) % 8 + 1) p (abcAt n) ⟨2, j, 0, ⟨#[]⟩⟩ := by simp [leafOp, List.getD, hz]
theorem want_keys (zs : List Int) (n : Nat) : ∀ o ∈ (wantM zs n).ops, o.key.size ≤ 1 := fun o ho => by
  obtain ⟨i, _, rfl⟩ := mem_leaves ho
  show (abcAt _).size ≤ 1
  unfold abcAt
  split
  · decide
  · split <;> decide
theorem want_len (zs : List Int) (n : Nat) : (wantM zs n).ops.length = n := by simp [wantM, leaves]
theorem want_ok (zs : List Int) (n : Nat) (hn : n ≤ 1000) : entOk (wantM zs n).view = true := viewN_ok _ (fun o ho => ⟨by have := want_keys zs n o ho; omega, fun _ => by
  obtain ⟨i, hi, rfl⟩ := mem_leaves ho
  show QVal.plainB (QVal.clean ⟨2, i, 0, ⟨#[]⟩⟩) = true
  rw [clean_of rfl]
  simp [QVal.plainB]
  omega⟩) _ _
theorem want_size (zs : List Int) (n : Nat) (hn : n ≤ 40) : (entText noB (wantM zs n).view).size ≤ 1000000000000000000 :=
  Nat.le_trans (view_size _ (wantM_wf zs n (by omega)) (by rw [want_len]; exact hn) (fun o ho => by have := want_keys zs n o ho; omega)) (by decide)
/-- what stands at depth i. -/
def deepV (r : Nat) (zs : List Int) (i : Nat) : List QEntry := (nestM (1 + r) zs zs.length [⟨1, 50, 51⟩]).viewN (zs.length + r + 3 - i) (atId i)
theorem deepV_zero (r : Nat) (zs : List Int) : (nestM (1 + r) zs zs.length [⟨1, 50, 51⟩]).view = deepV r zs 0 := by
  unfold QMaps.view deepV
  rw [nest_len, show 1 + r + 1 + zs.length + 1 = zs.length + r + 3 - 0 by omega]
  rfl
theorem deepV_succ (r : Nat) (hr : r < 6) (zs : List Int) (i : Nat) (hi : i < 1 + r) : deepV r zs i = [.mk sM kMap (deepV r zs (i + 1))] := by
  unfold deepV
  rw [show zs.length + r + 3 - i = (zs.length + r + 3 - (i + 1)) + 1 by omega, nest_step (1 + r) (by omega) zs zs.length i hi]
theorem deepV_last (r : Nat) (hr : r < 6) (zs : List Int) : deepV r zs (1 + r) = (wantM zs zs.length).view := by
  unfold deepV QMaps.view
  rw [show zs.length + r + 3 - (1 + r) = (zs.length + 1) + 1 by omega, Nat.add_comm 1 r]
  exact leaf_view r hr zs zs.length _ _
/-- the box of an id. -/
def IdBox (w : World) (b : Nat) (i : QId) : Prop := w.heap[b]? = some (.cells #[.int .u64 i.c, .int .u64 i.k] 34 (0, 0))
theorem IdBox.lt {w : World} {b : Nat} {i : QId} (h : IdBox w b i) : b < w.heap.size := (Array.getElem?_eq_some_iff.1 h).1
theorem IdBox.c0 {w : World} {b : Nat} {i : QId} (h : IdBox w b i) : w.cell? ⟨b, 0, none⟩ = some (.int .u64 i.c) := by unfold IdBox at h; simp [World.cell?, h]
theorem IdBox.c1 {w : World} {b : Nat} {i : QId} (h : IdBox w b i) : w.cell? ⟨b, 1, none⟩ = some (.int .u64 i.k) := by unfold IdBox at h; simp [World.cell?, h]
theorem IdBox.f0 {w : World} {b : Nat} {i : QId} (h : IdBox w b i) (n : Nat) : w.frozen? ⟨b, n, none⟩ = false := by unfold IdBox at h; simp [World.frozen?, h]
theorem IdBox.put {w : World} {b : Nat} {i : QId} (h : IdBox w b i) (j : QId) : IdBox ((w.setCell ⟨b, 0, none⟩ (.int .u64 j.c)).setCell ⟨b, 1, none⟩ (.int .u64 j.k)) b j := by
  unfold IdBox at *
  simp [World.setCell, Array.getElem?_modify, h]
theorem IdBox.below {n : Nat} {w w' : World} {b : Nat} {i : QId} (h : IdBox w b i) (hb : Below n w w') (hn : b < n) : IdBox w' b i := (hb.block b hn).trans h

/-- a row that is kept grows. -/
theorem MState.grown {w0 w w' : World} {R : Nat → Prop} {bm : Nat} {M : QMaps} {v v' : Value} (h : MState w0 (fun b => R b ∨ v.ownBlock = some b) bm M w) (hg : w.grownBy w' v.ownBlock) (hv : ∀ b, v.ownBlock = some b → w0.heap.size ≤ b)
    (hblk : v'.ownBlock = v.ownBlock ∨ v'.ownBlock = some w.heap.size) (hlt : ∀ b, v'.ownBlock = some b → b < w'.heap.size) : MState w0 (fun b => R b ∨ v'.ownBlock = some b) bm M w' := by
  obtain ⟨F, ⟨L, h1, h3⟩, h2⟩ := h.obj
  refine ⟨h.low.trans ⟨hg.os, hg.tape, hg.output, hg.size, fun k hk => hg.block k (Nat.lt_of_lt_of_le hk h.low.size) fun e => ?_⟩, fun b hb => ?_, fun b => F b ∧ b < w.heap.size,
    ⟨L, h1.keep fun b hf => hg.block b (h1.foot_lt b hf) fun e => (h2 b (h3 b hf)).2 (.inr e.symm), fun b hf => ⟨h3 b hf, h1.foot_lt b hf⟩⟩, fun b hf => ⟨(h2 b hf.1).1, fun hb => ?_⟩⟩
  · have := hv k e.symm
    omega
  · rcases hb with hb | hb
    · exact Nat.lt_of_lt_of_le (h.lt b (.inl hb)) hg.size
    · exact hlt b hb
  · rcases hb with hb | hb
    · exact (h2 b hf.1).2 (.inl hb)
    · rcases hblk with e | e
      · exact (h2 b hf.1).2 (.inr (e ▸ hb))
      · rw [e] at hb
        have := Option.some.inj hb
        have := hf.2
        omega

set_option maxRecDepth 100000 in
set_option maxHeartbeats 40000000 in
theorem nest_any (sz : Value) (zs : List Int) (deep : Int) (w : World) (hz : SliceP 1 encU16i w sz zs) (hzr : ∀ z ∈ zs, 0 ≤ z ∧ z < 65536) :
    Calls Try.prog 4 #[sz, .int .i64 deep] w fun e w' => e = .returned (.bool true) ∧ Below w.heap.size w w' := by
  obtain ⟨pz, cz, rfl, hz9, hzc⟩ := hz
  go_enter Try.func4, Try.ntmps4
  go_wp2_with fail
  refine (known_any _).mono ?_
  rintro e w0 ⟨rfl, hb0⟩
  by_cases hzl : zs.length ≤ 30
  · have hzl40 : zs.length ≤ 40 := by omega
    go_wp2_with fail
    refine (place_any deep _).mono ?_
    rintro e w1 ⟨r, rfl, hr, rfl⟩
    go_wp2_with fail
    refine (newM_any w w0 (fun _ => False) hb0 (fun b h => h.elim)).mono ?_
    rintro e w1 ⟨rfl, st0, hb1⟩
    go_wp2_with fail
    have at0 : IdBox (w1.alloc (.cells #[.int .u64 0, .int .u64 0] 34)) w1.heap.size (atId 0) := heap_alloc_new w1 _
    have st1 : MState w (fun b => b = w1.heap.size ∨ (Value.slice none 0 0).ownBlock = some b) (w0.heap.size + 2) (chainM 0) (w1.alloc (.cells #[.int .u64 0, .int .u64 0] 34)) :=
      st0.reserve (by (repeat (first | exact Below.refl _ _ | assumption | refine Below.alloc ?_ (by simp <;> omega) _ | refine Below.drew ?_ | refine below_drewN ?_ _ | refine Below.setCell ?_ (by simp <;> omega) _ | refine belowTrans ?_ (by assumption)))) fun b hb => by
        rcases hb with h | h
        · exact .inr (by subst h; simp)
        · cases h
    have hw1 : w.heap.size ≤ w1.heap.size := st0.low.size
    obtain ⟨A, hA⟩ : ∃ A, w1.heap.size = A := ⟨_, rfl⟩
    obtain ⟨W, hW⟩ : ∃ W, w1.alloc (.cells #[.int .u64 0, .int .u64 0] 34) = W := ⟨_, rfl⟩
    rw [hW] at at0 st1 ⊢
    rw [hA] at at0 st1 hw1 ⊢
    clear hW hA st0 hb1
    clear w1
    obtain ⟨i0, hi, hz0, hz1, hz2⟩ := info_parts infoStr
    go_loopw [7, 8] (fun path i wr => ∃ j : Nat, j ≤ 1 + r ∧ i = .int .i64 j ∧ MState w (fun b => b = A ∨ path.ownBlock = some b) (w0.heap.size + 2) (chainM j) wr ∧ IdBox wr A (atId j) ∧ OwnAt w.heap.size 9 1 encStrB wr path (List.replicate j sM)) (fun _ i _ => 1 + r - (intOf i).toNat)
    case atStart => exact ⟨0, by omega, rfl, st1, at0, OwnAt.nil⟩
    case round =>
      obtain ⟨j, hj, rfl, st, at1, hown⟩ := hrel
      clear st1 at0
      clear W
      by_cases hlt : j < 1 + r
      · have hj6 : j < 6 := by omega
        have a0 := at1.c0
        have a1 := at1.c1
        go_wp2_with fail
        refine (setOp_any _ _ (atId j) sM kMap _).mono ?_
        rintro e w2 ⟨rfl, hb2⟩
        have hz2' : wr.heap.size ≤ w2.heap.size := hb2.size
        have bz : OpBox (w2.alloc (.cells #[.int .u64 opZero.id.c, .int .u64 opZero.id.k, .int .i64 opZero.kind, .int .u64 opZero.stamp, .int .u64 opZero.left.c, .int .u64 opZero.left.k, .int .u64 opZero.right.c, .int .u64 opZero.right.k, .string opZero.text, .int .i64 opZero.v.kind, .int .i64 opZero.v.n, .float .f64 opZero.v.f, .string opZero.v.s, .string opZero.key, .int .u64 opZero.parent.c, .int .u64 opZero.parent.k, .int .u64 opZero.frm.c, .int .u64 opZero.frm.k, .bool opZero.frmA, .int .u64 opZero.til.c, .int .u64 opZero.til.k, .bool opZero.tilA] 41)) w2.heap.size opZero := OpBox.new _ _
        have hb3 : Below w2.heap.size w2 (putOp (w2.alloc (.cells #[.int .u64 opZero.id.c, .int .u64 opZero.id.k, .int .i64 opZero.kind, .int .u64 opZero.stamp, .int .u64 opZero.left.c, .int .u64 opZero.left.k, .int .u64 opZero.right.c, .int .u64 opZero.right.k, .string opZero.text, .int .i64 opZero.v.kind, .int .i64 opZero.v.n, .float .f64 opZero.v.f, .string opZero.v.s, .string opZero.key, .int .u64 opZero.parent.c, .int .u64 opZero.parent.k, .int .u64 opZero.frm.c, .int .u64 opZero.frm.k, .bool opZero.frmA, .int .u64 opZero.til.c, .int .u64 opZero.til.k, .bool opZero.tilA] 41)) w2.heap.size (chainOp j)) := below_putOp ((Below.refl _ _).alloc (Nat.le_refl _) _) (Nat.le_refl _) _
        have hs3 : (putOp (w2.alloc (.cells #[.int .u64 opZero.id.c, .int .u64 opZero.id.k, .int .i64 opZero.kind, .int .u64 opZero.stamp, .int .u64 opZero.left.c, .int .u64 opZero.left.k, .int .u64 opZero.right.c, .int .u64 opZero.right.k, .string opZero.text, .int .i64 opZero.v.kind, .int .i64 opZero.v.n, .float .f64 opZero.v.f, .string opZero.v.s, .string opZero.key, .int .u64 opZero.parent.c, .int .u64 opZero.parent.k, .int .u64 opZero.frm.c, .int .u64 opZero.frm.k, .bool opZero.frmA, .int .u64 opZero.til.c, .int .u64 opZero.til.k, .bool opZero.tilA] 41)) w2.heap.size (chainOp j)).heap.size = w2.heap.size + 1 := by simp
        have Hs3 := Lib.hid hs3
        clear hs3
        have bo := bz.put (chainOp j)
        clear a0 a1
        go_wp2_with (first | (refine wpList_store_eq (T := 41) (v := opV (chainOp j)) rfl rfl rfl rfl (OpBox.store bz (chainOp j)) ?_; generalize putOp (w2.alloc (.cells #[.int .u64 opZero.id.c, .int .u64 opZero.id.k, .int .i64 opZero.kind, .int .u64 opZero.stamp, .int .u64 opZero.left.c, .int .u64 opZero.left.k, .int .u64 opZero.right.c, .int .u64 opZero.right.k, .string opZero.text, .int .i64 opZero.v.kind, .int .i64 opZero.v.n, .float .f64 opZero.v.f, .string opZero.v.s, .string opZero.key, .int .u64 opZero.parent.c, .int .u64 opZero.parent.k, .int .u64 opZero.frm.c, .int .u64 opZero.frm.k, .bool opZero.frmA, .int .u64 opZero.til.c, .int .u64 opZero.til.k, .bool opZero.tilA] 41)) w2.heap.size (chainOp j) = w3 at hb3 Hs3 bo ⊢) | (refine wpList_load_eq (T := 41) (v := opV (chainOp j)) rfl rfl rfl bo.load ?_))
        obtain ⟨ob, hob⟩ : ∃ ob, w2.heap.size = ob := ⟨_, rfl⟩
        have hb23 : Below wr.heap.size wr w3 := hb2.trans (hb3.mono hz2')
        have st3 : MState w (fun b => b = A ∨ u7.ownBlock = some b ∨ b = ob) (w0.heap.size + 2) (chainM j) w3 := st.reserve hb23 fun b hb => by
          rcases hb with h | h | h
          · exact .inl (.inl h)
          · exact .inl (.inr h)
          · exact .inr (by have := Hs3.out; omega)
        have at3 := at1.below hb23 at1.lt
        have own3 : OwnAt w.heap.size 9 1 encStrB w3 u7 (List.replicate j sM) := ownsRow_blk hown fun b e => hb23.block b (World.ownsRow.lt hown b e).2
        have hne : ob ≠ A := by have := at1.lt; omega
        have hobu : u7.ownBlock ≠ some ob := fun e => by have := (World.ownsRow.lt hown ob e).2; omega
        rw [hob] at bo ⊢
        clear bz hb2 hb3 Hs3 hb23 hz2' hob st at1 hown
        refine (setM_yes w _ _ (chainM j) (chainOp j) _ st3 (by simp [chainM, chain]; omega) (chain_setB j hj6)).mono ?_
        rintro e w4 ⟨rfl, hst4⟩
        rw [← chainM_succ] at hst4
        have st4 := hst4.st
        have at4 : IdBox w4 A (atId j) := (hst4.kept _ (.inl rfl)).trans at3
        have bo4 : OpBox w4 ob (chainOp j) := (hst4.kept _ (.inr (.inr rfl))).trans bo
        have own4 : OwnAt w.heap.size 9 1 encStrB w4 u7 (List.replicate j sM) := ownsRow_blk own3 fun b e => hst4.kept b (.inr (.inl e))
        clear hst4 st3 at3 bo own3
        have a0 := at4.c0
        have a1 := at4.c1
        have f0 := at4.f0 0
        have f1 := at4.f0 1
        have o0 : w4.cell? ⟨ob, 0, none⟩ = some (.int .u64 1) := bo4.cells 0 _ rfl
        have o1 : w4.cell? ⟨ob, 1, none⟩ = some (.int .u64 (100 + (j : Int))) := bo4.cells 1 _ rfl
        go_upto_region 16 with fail
        have at5 : IdBox ((w4.setCell ⟨A, 0, none⟩ (.int .u64 1)).setCell ⟨A, 1, none⟩ (.int .u64 (100 + (j : Int)))) A (atId (j + 1)) := by
          rw [atId_succ]
          exact at4.put ⟨1, 100 + (j : Int)⟩
        have hm5 : Mods (fun b => b = A) w4 ((w4.setCell ⟨A, 0, none⟩ (.int .u64 1)).setCell ⟨A, 1, none⟩ (.int .u64 (100 + (j : Int)))) := ⟨rfl, rfl, rfl, by simp, fun b _ hne => (Below.heap_setCell _ _ _ _ hne).trans (Below.heap_setCell _ _ _ _ hne)⟩
        have st5 := (st4.mods hm5 fun b hb => by subst hb; exact ⟨hw1, .inl rfl⟩).less (R' := fun b => b = A ∨ u7.ownBlock = some b) fun b hb => by
          rcases hb with h | h
          · exact .inl h
          · exact .inr (.inl h)
        have hAu : u7.ownBlock ≠ some A := ownsRow_ne own4 at4 (by decide)
        have own5 : OwnAt w.heap.size 9 1 encStrB ((w4.setCell ⟨A, 0, none⟩ (.int .u64 1)).setCell ⟨A, 1, none⟩ (.int .u64 (100 + (j : Int)))) u7 (List.replicate j sM) := ownsRow_blk own4 fun b e => hm5.block b (World.ownsRow.lt own4 b e).2 fun h => hAu (h ▸ e)
        generalize (w4.setCell ⟨A, 0, none⟩ (.int .u64 1)).setCell ⟨A, 1, none⟩ (.int .u64 (100 + (j : Int))) = w5 at at5 hm5 st5 own5 ⊢
        clear hm5 st4 at4 bo4 own4 a0 a1 f0 f1 o0 o1
        have hlow5 := st5.low.size
        go_wp2_with (at_builtin; refine wpList_append_own_at _ rfl _ _ 48 rfl w.heap.size 9 i0 (.string ⟨#[]⟩) 1 16 Try.underlying48 hi hz0 hz1 hz2 rfl (by decide) _ _ _ rfl (own5.alloc _) ⟨w5.heap.size, 0, none⟩ 1 1 [.string sM] rfl rfl ?a1 ?a2 ?a3 ?a4 ?a5 ?_)
        case a1 => exact cell_one_new _ _ _
        case a2 => simp [Value.oneCell']
        case a3 => unfold maxLen; simp; omega
        case a4 => simp; omega
        case a5 => simp; omega
        intro v' w6 hown6 hgrow6 _ hblk6
        have own6 : OwnAt w.heap.size 9 1 encStrB w6 v' (List.replicate (j + 1) sM) := by
          unfold OwnAt
          rw [List.replicate_succ', List.length_append, List.flatMap_append]
          simpa [encStrB] using hown6
        have at6 : IdBox w6 A (atId (j + 1)) := (hgrow6.block A (by simp; have := at5.lt; omega) (fun e => hAu e.symm)).trans (at5.below ((Below.refl _ _).alloc (Nat.le_refl _) _) at5.lt)
        have st6 : MState w (fun b => b = A ∨ v'.ownBlock = some b) (w0.heap.size + 2) (chainM (j + 1)) w6 :=
          (st5.below ((Below.refl _ _).alloc (Nat.le_refl _) _)).grown hgrow6 (fun b e => (World.ownsRow.lt own5 b e).1) (by rw [World.size_alloc]; exact hblk6) (fun b e => (World.ownsRow.lt hown6 b e).2)
        go_wp2_with fail
        go_roundw
        case rel => exact ⟨j + 1, by omega, by go_num, st6, at6, own6⟩
        case measure => simp [intOf]; omega
      · obtain rfl : j = 1 + r := by omega
        have hd7 : 1 + r < 7 := by omega
        have hd0 : 0 < 1 + r := by omega
        obtain ⟨pp, np, cp, rfl⟩ := ownsRow_shape hown
        have hnp : np = 1 + r := by
          rcases hown.2 with ⟨e1, e2⟩ | ⟨g, cap, cur, e1, _⟩
          · simp at e2
          · cases e1; simp
        subst hnp
        have hsl := OwnAt.slice (k := 1) (enc := encStrB) (fun _ => rfl) hown
        have hfnd := findM_any w _ (w0.heap.size + 2) (chainM (1 + r)) _ (List.replicate (1 + r) sM) wr st hsl
        rw [chain_find (1 + r) hd7] at hfnd
        simp only [Option.getD_some, Option.isSome_some] at hfnd
        go_wp2_with fail
        refine Calls.mono hfnd ?_
        rintro e w7 ⟨rfl, hb7⟩
        clear hfnd
        have st7 := st.below hb7
        have at7 := at1.below hb7 at1.lt
        have own7 : OwnAt w.heap.size 9 1 encStrB w7 (.slice pp (1 + r) cp) (List.replicate (1 + r) sM) := ownsRow_blk hown fun b e => hb7.block b (World.ownsRow.lt hown b e).2
        clear hb7 st at1 hown hsl
        have a0 := at7.c0
        have a1 := at7.c1
        have hnq := idNeq (atId (1 + r))
        have e0 : A < w7.heap.size := at7.lt
        go_wp2_with fail
        refine (setOp_any 50 8 idZero sM v3 _).mono ?_
        rintro e w8 ⟨rfl, hb8⟩
        have hb78 : Below w7.heap.size w7 w8 := ((Below.refl _ _).alloc (Nat.le_refl _) _).trans (hb8.mono (by simp))
        have bz : OpBox (w8.alloc (.cells #[.int .u64 opZero.id.c, .int .u64 opZero.id.k, .int .i64 opZero.kind, .int .u64 opZero.stamp, .int .u64 opZero.left.c, .int .u64 opZero.left.k, .int .u64 opZero.right.c, .int .u64 opZero.right.k, .string opZero.text, .int .i64 opZero.v.kind, .int .i64 opZero.v.n, .float .f64 opZero.v.f, .string opZero.v.s, .string opZero.key, .int .u64 opZero.parent.c, .int .u64 opZero.parent.k, .int .u64 opZero.frm.c, .int .u64 opZero.frm.k, .bool opZero.frmA, .int .u64 opZero.til.c, .int .u64 opZero.til.k, .bool opZero.tilA] 41)) w8.heap.size opZero := OpBox.new _ _
        have hb9 : Below w8.heap.size w8 (putOp (w8.alloc (.cells #[.int .u64 opZero.id.c, .int .u64 opZero.id.k, .int .i64 opZero.kind, .int .u64 opZero.stamp, .int .u64 opZero.left.c, .int .u64 opZero.left.k, .int .u64 opZero.right.c, .int .u64 opZero.right.k, .string opZero.text, .int .i64 opZero.v.kind, .int .i64 opZero.v.n, .float .f64 opZero.v.f, .string opZero.v.s, .string opZero.key, .int .u64 opZero.parent.c, .int .u64 opZero.parent.k, .int .u64 opZero.frm.c, .int .u64 opZero.frm.k, .bool opZero.frmA, .int .u64 opZero.til.c, .int .u64 opZero.til.k, .bool opZero.tilA] 41)) w8.heap.size cover) := below_putOp ((Below.refl _ _).alloc (Nat.le_refl _) _) (Nat.le_refl _) _
        have bo := bz.put cover
        go_wp2_with (first | (refine wpList_store_eq (T := 41) (v := opV cover) rfl rfl rfl rfl (OpBox.store bz cover) ?_; generalize putOp (w8.alloc (.cells #[.int .u64 opZero.id.c, .int .u64 opZero.id.k, .int .i64 opZero.kind, .int .u64 opZero.stamp, .int .u64 opZero.left.c, .int .u64 opZero.left.k, .int .u64 opZero.right.c, .int .u64 opZero.right.k, .string opZero.text, .int .i64 opZero.v.kind, .int .i64 opZero.v.n, .float .f64 opZero.v.f, .string opZero.v.s, .string opZero.key, .int .u64 opZero.parent.c, .int .u64 opZero.parent.k, .int .u64 opZero.frm.c, .int .u64 opZero.frm.k, .bool opZero.frmA, .int .u64 opZero.til.c, .int .u64 opZero.til.k, .bool opZero.tilA] 41)) w8.heap.size cover = w9 at hb9 bo ⊢) | (refine wpList_load_eq (T := 41) (v := opV cover) rfl rfl rfl bo.load ?_))
        have hb79 := hb78.trans (hb9.mono hb78.size)
        have st9 := st7.below hb79
        have at9 := at7.below hb79 at7.lt
        have own9 : OwnAt w.heap.size 9 1 encStrB w9 (.slice pp (1 + r) cp) (List.replicate (1 + r) sM) := ownsRow_blk own7 fun b e => hb79.block b (World.ownsRow.lt own7 b e).2
        clear st7 at7 own7 hb79 hb9 hb78 hb8 bz bo a0 a1
        refine (setM_yes w _ _ (chainM (1 + r)) cover _ st9 (by simp [chainM, chain]; omega) (cover_setB _ hd7)).mono ?_
        rintro e w2 ⟨rfl, hst2⟩
        rw [← coverM_set] at hst2
        have st2 := hst2.st
        have at2 : IdBox w2 A (atId (1 + r)) := (hst2.kept _ (.inl rfl)).trans at9
        have own2 : OwnAt w.heap.size 9 1 encStrB w2 (.slice pp (1 + r) cp) (List.replicate (1 + r) sM) := ownsRow_blk own9 fun b e => hst2.kept b (.inr e)
        clear hst2 st9 at9 own9
        have hfnd := findM_any w _ (w0.heap.size + 2) (coverM (1 + r)) _ (List.replicate (1 + r) sM) w2 st2 (OwnAt.slice (k := 1) (enc := encStrB) (fun _ => rfl) own2)
        rw [cover_find (1 + r) hd7 hd0] at hfnd
        simp only [Option.getD_none, Option.isSome_none] at hfnd
        go_wp2_with fail
        refine Calls.mono hfnd ?_
        rintro e w3 ⟨rfl, hb3⟩
        clear hfnd
        have st3 := (st2.below hb3).less (R' := fun b => b = A) fun b hb => .inl hb
        have at3 := at2.below hb3 at2.lt
        rw [nest0 _ zs] at st3
        clear st2 at2 own2 hb3
        go_wp2_with fail
        refine Calls.mono (viewM_any w _ _ (nestM (1 + r) zs 0 []) _ (st3.below (by (repeat (first | exact Below.refl _ _ | assumption | refine Below.alloc ?_ (by simp <;> omega) _ | refine Below.drew ?_ | refine below_drewN ?_ _ | refine Below.setCell ?_ (by simp <;> omega) _ | refine belowTrans ?_ (by assumption))))) (nestM_wf _ hd7 _ _ _ (by omega)) (nest_keys_small _ hd7 _ _ _) (by rw [nest_len]; omega)) ?_
        rintro e wa ⟨vv, rfl, hvv, hba⟩
        rw [cover_view _ hd7 hd0 _ _ _ (.inl rfl)] at hvv
        go_wp2_with fail
        refine (text_any _ hvv (by rw [cover_text]; decide) cover_ok).mono ?_
        rintro e wb ⟨rfl, hbb⟩
        rw [cover_text]
        unfold coverText
        have hbab : Below w3.heap.size w3 wb := (((Below.refl _ _).alloc (Nat.le_refl _) _).trans (hba.mono (by simp))).trans (hbb.mono (by have := hba.size; simp at this; omega))
        have st4 := st3.below hbab
        have at4 := at3.below hbab at3.lt
        clear hvv hba hbb hbab st3 at3 hnq e0
        go_wp2_with fail
        go_loopw [15] (fun i wr => ∃ j : Nat, j ≤ zs.length ∧ i = .int .i64 j ∧ MState w (fun b => b = A) (w0.heap.size + 2) (nestM (1 + r) zs j []) wr ∧ IdBox wr A (atId (1 + r))) (fun i _ => zs.length - (intOf i).toNat)
        case atStart => exact ⟨0, Nat.zero_le _, rfl, st4, at4⟩
        case round =>
          obtain ⟨j, hj, rfl, st, at1⟩ := hrel
          clear st4 at4
          by_cases hlt : j < zs.length
          · obtain ⟨z, hz⟩ : ∃ z, zs[j]? = some z := ⟨zs[j], by simp [hlt]⟩
            obtain ⟨bz, oz, rfl, hzl2, hzc2⟩ := hzc j z hz
            have hzr2 := hzr z (List.mem_of_getElem? hz)
            obtain ⟨n, rfl⟩ := Int.eq_ofNat_of_zero_le hzr2.1
            have hn2 : n < 65536 := by omega
            have hzw : bz < wr.heap.size := Nat.lt_of_lt_of_le hzl2 st.low.size
            have zc : ∀ s : MStep (fun _ => False) wr, s.val.cell? ⟨bz, oz + j, none⟩ = some (.int .u16 (n : Int)) := MStep.cell hzw id ((st.low.cell (p := ⟨bz, oz + j, none⟩) hzl2).trans (by simpa using hzc2 0 _ rfl))
            have a0 : ∀ s : MStep (fun _ => False) wr, s.val.cell? ⟨A, 0, none⟩ = some (.int .u64 (atId (1 + r)).c) := MStep.cell at1.lt id at1.c0
            have a1 : ∀ s : MStep (fun _ => False) wr, s.val.cell? ⟨A, 1, none⟩ = some (.int .u64 (atId (1 + r)).k) := MStep.cell at1.lt id at1.c1
            clear hzc hzc2 hzr hzr2
            go_wp2_with fail
            refine wp_region_flow3 27 [0, 1, 2, 3, 4, 5, 6, 7, 8, 9, 10, 11, 12, 13, 14, 15, 16, 17, 18, 19, 20, 21, 22, 23, 24, 25] [26, 27] (fun w' => ∃ s : MStep (fun _ => False) wr, w' = s.val) (by kernel_rfl) (by kernel_rfl) (fun _ _ d _ _ h => by cases d <;> exact h) (MStep.to (Mods.refl _ _).drew) ?_
            simp only [List.map_cons, List.map_nil, List.getElem?_cons_succ, List.getElem?_cons_zero, Option.getD_some]
            repeat (first | go_big_quiet_skip | (go_big_quiet_want; first | (fail; go_frame; go_big_quiet_on) | (go_big_quiet_op; go_big_quiet_on)))
            refine wpQuiet_nil ?_
            refine wpSeqF_step rfl ?_; simp only [List.getElem_toArray, List.getElem_cons_succ, List.getElem_cons_zero]
            go_wp2_with fail
            rw [abc_extract n]
            refine (setOp_any _ _ (atId (1 + r)) (abcAt n) ⟨2, j, 0, ⟨#[]⟩⟩ _).mono ?_
            rintro e w2 ⟨rfl, hb2⟩
            have hb2' : Below wr.heap.size wr w2 := ⟨hb2.os, hb2.tape, hb2.output, hb2.size, hb2.block⟩
            go_wp2_with fail
            refine ⟨MStep.to (Mods.of_below hb2'), ?_⟩
            refine wpSeqF_step rfl ?_; simp only [List.getElem_toArray, List.getElem_cons_succ, List.getElem_cons_zero]
            go_wp2_with fail
            have hset := nest_setB (1 + r) hd7 zs j (by omega) []
            rw [leafOp_at _ hz] at hset
            refine (setM_yes w _ _ (nestM (1 + r) zs j []) _ _ (st.below hb2') (by rw [nest_len]; omega) hset).mono ?_
            rintro e w3 ⟨rfl, hst3⟩
            have hsu := nestM_succ (1 + r) zs j []
            rw [leafOp_at _ hz] at hsu
            rw [← hsu] at hst3
            have st3 := hst3.st
            have at3 : IdBox w3 A (atId (1 + r)) := (hst3.kept _ rfl).trans (at1.below hb2' at1.lt)
            clear hst3 hsu hset hb2 hb2' st at1 a0 a1 zc
            go_wp2_with fail
            refine wpSeqF_nil ?_
            go_wp2_with fail
            go_roundw
            case rel => exact ⟨j + 1, by omega, by go_num, st3, at3⟩
            case measure => simp [intOf]; omega
          · obtain rfl : j = zs.length := by omega
            go_wp2_with fail
            refine Calls.mono (viewM_any w _ _ (nestM (1 + r) zs zs.length []) _ st (nestM_wf _ hd7 _ _ _ (by omega)) (nest_keys_small _ hd7 _ _ _) (by rw [nest_len]; omega)) ?_
            rintro e wa ⟨vv, rfl, hvv, hba⟩
            rw [cover_view _ hd7 hd0 _ _ _ (.inl rfl)] at hvv
            go_wp2_with fail
            refine (text_any _ hvv (by rw [cover_text]; decide) cover_ok).mono ?_
            rintro e wb ⟨rfl, hbb⟩
            rw [cover_text]
            unfold coverText
            have st4 := (st.below hba).below hbb
            clear hvv hba hbb st at1
            go_wp2_with fail
            have hslh : SliceAt 3 encRng (wb.alloc (.cells #[.int .u64 1, .int .u64 50, .int .u64 51] 54)) (.slice (some ⟨wb.heap.size, 0, none⟩) 1 1) [⟨1, 50, 51⟩] := slice_new (k := 3) (enc := encRng) (fun _ => rfl) wb _ _ [⟨1, 50, 51⟩] 1 1 rfl rfl (by decide)
            refine (hideM_any w _ _ _ _ [⟨1, 50, 51⟩] _ (st4.below (by (repeat (first | exact Below.refl _ _ | assumption | refine Below.alloc ?_ (by simp <;> omega) _ | refine Below.drew ?_ | refine below_drewN ?_ _ | refine Below.setCell ?_ (by simp <;> omega) _ | refine belowTrans ?_ (by assumption))))) hslh (by decide) rfl).mono ?_
            rintro e w3 ⟨rfl, hst3⟩
            have st3 : MState w (fun b => b = A) (w0.heap.size + 2) (nestM (1 + r) zs zs.length [⟨1, 50, 51⟩]) w3 := hst3.st
            clear hst3 st4 hslh
            go_wp2_with fail
            refine Calls.mono (viewM_any w _ _ _ _ st3 (nestM_wf _ hd7 _ _ _ (by omega)) (nest_keys_small _ hd7 _ _ _) (by rw [nest_len]; omega)) ?_
            rintro e w4 ⟨vv, rfl, hvv, hb4⟩
            have st5 := st3.below hb4
            clear hb4 st3
            rw [deepV_zero] at hvv
            have hlow5 := st5.low
            go_wp2_with fail
            go_loop [16, 17] (fun v i => ∃ j : Nat, j ≤ 1 + r ∧ i = .int .i64 j ∧ EntAt (fun b => w3.heap.size ≤ b) w4 v (deepV r zs j)) (fun _ i => 1 + r - (intOf i).toNat)
            case atStart => exact ⟨0, by omega, rfl, hvv⟩
            case round =>
              obtain ⟨j, hj, rfl, hv⟩ := hrel
              clear hvv
              by_cases hlt : j < 1 + r
              · rw [deepV_succ r hr zs j hlt] at hv
                obtain ⟨pv, cv, rfl, _, hv0⟩ := hv.shape
                obtain ⟨bv, ev, rfl, _, _, hk, hval, hcell, hkid⟩ := hv0 0 _ rfl
                have c0 : w4.cell? ⟨bv, 0, none⟩ = some (.string ⟨#[109]⟩) := (hcell 0 _ rfl).trans (by rw [hk]; rfl)
                have c1 : w4.cell? ⟨bv, 1, none⟩ = some (.int .i64 5) := (hcell 1 _ rfl).trans (by rw [hval]; rfl)
                have c5 : w4.cell? ⟨bv, 5, none⟩ = some ev.kids := hcell 5 _ rfl
                clear hv hv0 hk hval hcell
                go_wp2_with fail
                go_round
                case rel => exact ⟨j + 1, by omega, by go_num, hkid⟩
                case measure => simp [intOf]; omega
              · obtain rfl : j = 1 + r := by omega
                rw [deepV_last r hr] at hv
                clear hlow5
                go_wp2_with fail
                refine (newM_any w4 w4 (fun _ => False) (Below.refl _ _) (fun b h => h.elim)).mono ?_
                rintro e w5 ⟨rfl, wst0, hb5⟩
                obtain ⟨BW, hBW⟩ : ∃ n, w4.heap.size + 2 = n := ⟨_, rfl⟩
                rw [hBW] at wst0 ⊢
                clear hBW hb5
                go_wp2_with fail
                go_loopw [19] (fun i wr => ∃ j : Nat, j ≤ zs.length ∧ i = .int .i64 j ∧ MState w4 (fun _ => False) BW (wantM zs j) wr) (fun i _ => zs.length - (intOf i).toNat)
                case atStart => exact ⟨0, Nat.zero_le _, rfl, wst0⟩
                case round =>
                  obtain ⟨j, hj, rfl, st⟩ := hrel
                  clear wst0
                  by_cases hlt : j < zs.length
                  · obtain ⟨z, hz⟩ : ∃ z, zs[j]? = some z := ⟨zs[j], by simp [hlt]⟩
                    obtain ⟨bz, oz, rfl, hzl2, hzc2⟩ := hzc j z hz
                    have hzr2 := hzr z (List.mem_of_getElem? hz)
                    obtain ⟨n, rfl⟩ := Int.eq_ofNat_of_zero_le hzr2.1
                    have hn2 : n < 65536 := by omega
                    have hzw : bz < wr.heap.size := Nat.lt_of_lt_of_le hzl2 (Nat.le_trans st5.low.size st.low.size)
                    have zc : ∀ s : MStep (fun _ => False) wr, s.val.cell? ⟨bz, oz + j, none⟩ = some (.int .u16 (n : Int)) := MStep.cell hzw id (((st5.low.trans (st.low.mono st5.low.size)).cell (p := ⟨bz, oz + j, none⟩) hzl2).trans (by simpa using hzc2 0 _ rfl))
                    clear hzc hzc2 hzr hzr2
                    go_wp2_with fail
                    refine wp_region_flow3 27 [0, 1, 2, 3, 4, 5, 6, 7, 8, 9, 10, 11, 12, 13, 14, 15, 16, 17, 18, 19, 20, 21, 22, 23, 24, 25] [26, 27] (fun w' => ∃ s : MStep (fun _ => False) wr, w' = s.val) (by kernel_rfl) (by kernel_rfl) (fun _ _ d _ _ h => by cases d <;> exact h) (MStep.to (Mods.refl _ _).drew) ?_
                    simp only [List.map_cons, List.map_nil, List.getElem?_cons_succ, List.getElem?_cons_zero, Option.getD_some]
                    repeat (first | go_big_quiet_skip | (go_big_quiet_want; first | (fail; go_frame; go_big_quiet_on) | (go_big_quiet_op; go_big_quiet_on)))
                    refine wpQuiet_nil ?_
                    refine wpSeqF_step rfl ?_; simp only [List.getElem_toArray, List.getElem_cons_succ, List.getElem_cons_zero]
                    go_wp2_with fail
                    rw [abc_extract n]
                    refine (setOp_any _ _ idZero (abcAt n) ⟨2, j, 0, ⟨#[]⟩⟩ _).mono ?_
                    rintro e w2 ⟨rfl, hb2⟩
                    have hb2' : Below wr.heap.size wr w2 := ⟨hb2.os, hb2.tape, hb2.output, hb2.size, hb2.block⟩
                    go_wp2_with fail
                    refine ⟨MStep.to (Mods.of_below hb2'), ?_⟩
                    refine wpSeqF_step rfl ?_; simp only [List.getElem_toArray, List.getElem_cons_succ, List.getElem_cons_zero]
                    go_wp2_with fail
                    have hset := want_setB zs j (by omega)
                    rw [leafOp_at _ hz] at hset
                    refine (setM_yes w4 _ _ (wantM zs j) _ _ (st.below hb2') (by rw [want_len]; omega) hset).mono ?_
                    rintro e w6 ⟨rfl, hst6⟩
                    have hsu := wantM_succ zs j
                    rw [leafOp_at _ hz] at hsu
                    rw [← hsu] at hst6
                    have st6 := hst6.st
                    clear hst6 hsu hset hb2 hb2' st zc
                    go_wp2_with fail
                    refine wpSeqF_nil ?_
                    go_wp2_with fail
                    go_roundw
                    case rel => exact ⟨j + 1, by omega, by go_num, st6⟩
                    case measure => simp [intOf]; omega
                  · obtain rfl : j = zs.length := by omega
                    go_wp2_with fail
                    refine (text_any _ (hv.under st.low) (want_size zs _ hzl40) (want_ok zs _ (by omega))).mono ?_
                    rintro e w6 ⟨rfl, hb6⟩
                    have st6 := st.below hb6
                    clear hb6 st hv
                    go_wp2_with fail
                    refine Calls.mono (viewM_any w4 _ _ _ _ st6 (wantM_wf _ _ (by omega)) (fun o ho => by have := want_keys zs _ o ho; unfold maxLen; omega) (by rw [want_len]; omega)) ?_
                    rintro e w8' ⟨vw, rfl, hvw, hb8⟩
                    have st8 := st6.below hb8
                    clear hb8 st6
                    go_wp2_with fail
                    refine (text_any _ hvw (want_size zs _ hzl40) (want_ok zs _ (by omega))).mono ?_
                    rintro e w9' ⟨rfl, hb9⟩
                    have st9 := st8.below hb9
                    clear hb9 st8 hvw
                    have st10 := st5.below st9.low
                    clear st5 st9
                    generalize entText noB (wantM zs zs.length).view = ST
                    go_wp2_with fail
                    have hslh : SliceAt 3 encRng (w9'.alloc (.cells #[.int .u64 1, .int .u64 100, .int .u64 101] 54)) (.slice (some ⟨w9'.heap.size, 0, none⟩) 1 1) [⟨1, 100, 101⟩] := slice_new (k := 3) (enc := encRng) (fun _ => rfl) w9' _ _ [⟨1, 100, 101⟩] 1 1 rfl rfl (by decide)
                    refine (hideM_any w _ _ _ _ [⟨1, 100, 101⟩] _ (st10.below (by (repeat (first | exact Below.refl _ _ | assumption | refine Below.alloc ?_ (by simp <;> omega) _ | refine Below.drew ?_ | refine below_drewN ?_ _ | refine Below.setCell ?_ (by simp <;> omega) _ | refine belowTrans ?_ (by assumption))))) hslh (by decide) rfl).mono ?_
                    rintro e w11 ⟨rfl, hst11⟩
                    have st11 : MState w (fun b => b = A) (w0.heap.size + 2) (nestM (1 + r) zs zs.length [⟨1, 100, 101⟩]) w11 := hst11.st
                    clear hst11 st10 hslh
                    go_wp2_with fail
                    refine Calls.mono (viewM_any w _ _ (nestM (1 + r) zs zs.length [⟨1, 100, 101⟩]) _ st11 (nestM_wf _ hd7 _ _ _ (by omega)) (nest_keys_small _ hd7 _ _ _) (by rw [nest_len]; omega)) ?_
                    rintro e wa ⟨vv, rfl, hvv, hba⟩
                    rw [cover_view _ hd7 hd0 _ _ _ (.inr rfl)] at hvv
                    go_wp2_with fail
                    refine (text_any _ hvv (by rw [cover_text]; decide) cover_ok).mono ?_
                    rintro e wb ⟨rfl, hbb⟩
                    rw [cover_text]
                    unfold coverText
                    have low12 := ((st11.below hba).below hbb).low
                    clear hvv hba hbb st11
                    go_wp2_with fail
                    go_ret
                    exact ⟨rfl, low12⟩
  · go_wp2_with fail
    go_ret
    exact ⟨rfl, hb0⟩
end Go.Proofs.Yteadongdlacgmaa
