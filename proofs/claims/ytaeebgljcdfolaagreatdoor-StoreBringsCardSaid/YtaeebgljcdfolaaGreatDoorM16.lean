/- Walk: slices.Concat of ranges, ids.Join, ids.Count of none. -/
import Derived.Test.YtaeebgljcdfolaaGreatDoorM15
import Derived.Shelf.Spec.SlicesGrow
import Derived.Laws.AppendOwnNone
import Derived.Test.YtaeebgljcdfolaaGreatDoorM08
import Derived.Test.YtaeebgljcdfolaaGreatDoorM02
import Derived.Lib.OthersKept
namespace Go.Proofs.YtaeebgljcdfolaaGreatDoor
open Go.RowKit Go.Lib

theorem growRng_any (n : Nat) (w : World) (hn : n ≤ 1000000) :
    Calls Tryz.prog 100 #[.slice none 0 0, .int .i64 n] w (RetW fun v w' => OwnAt w.heap.size 72 3 encRng w' v [] ∧ Below w.heap.size w w') := by
  obtain ⟨i0, hi, hz0, hz1, hz2⟩ := info_parts infoRng
  by_cases h0 : n = 0
  · subst h0
    refine (Any8.slices_Grow_room Tryz.growRng none 0 0 0 w (by omega) (by omega) (by omega) (by omega)).mono ?_
    rintro e w' ⟨rfl, rfl⟩
    exact ⟨_, rfl, OwnAt.nil, Below.refl _ _⟩
  · refine (Any8.slices_Grow_grow Tryz.growRng i0 _ hi hz0 (by omega) none 0 0 n [] w (by omega) (by omega) (by rw [hz2]; omega) (by omega) (by simp) (by simp) (by simp)).mono ?_
    rintro e w' ⟨rfl, rfl⟩
    refine ⟨_, rfl, ⟨by simp, .inr ⟨_, _, _, rfl, Nat.le_refl _, heap_alloc_new w.drew _, Nat.zero_le _, ?_, ?_, by simp⟩⟩, ((Below.refl _ _).drew).alloc (Nat.le_refl _) _⟩
    · exact grownCap_le_maxLen w (0 + n) 0 _ (by unfold maxLen; omega)
    · have := grownCap_ge w (0 + n) 0 (Tryz.growRng_ren.t 25)
      have hc : (Value.agg #[Value.int .u64 0, Value.int .u64 0, Value.int .u64 0]).cells.size = 3 := rfl
      simp only [Array.size_append, List.size_toArray, List.length_nil, Builtin.zeroCells, Array.size_map, Array.size_range, hc]
      omega

def sumL (L : List (Value × List QRng)) : Nat := (L.flatMap (·.2)).length
theorem sumL_take {L : List (Value × List QRng)} {k : Nat} (hk : k < L.length) : sumL (L.take (k + 1)) = sumL (L.take k) + L[k].2.length := by
  unfold sumL
  rw [List.take_succ_eq_append_getElem hk, List.flatMap_append]
  simp
theorem sumL_le (L : List (Value × List QRng)) (k : Nat) : sumL (L.take k) ≤ sumL L := by
  unfold sumL
  have h := congrArg (fun l => (l.flatMap (·.2)).length) (List.take_append_drop k L)
  simp only [List.flatMap_append, List.length_append] at h
  omega
set_option maxRecDepth 100000 in
set_option maxHeartbeats 4000000 in
theorem concatRng_any (g : Nat) (L : List (Value × List QRng)) (w : World) (hg : g < w.heap.size) (hc : ∀ j x, L[j]? = some x → w.cell? ⟨g, j, none⟩ = some x.1) (hs : ∀ x ∈ L, SliceAt 3 encRng w x.1 x.2) (hn : sumL L ≤ 1000000) (hL : L.length ≤ 1000) :
    Calls Tryz.prog 65 #[.slice (some ⟨g, 0, none⟩) L.length L.length] w (RetW fun v w' => OwnAt w.heap.size 72 3 encRng w' v (L.flatMap (·.2)) ∧ Below w.heap.size w w') := by
  obtain ⟨i0, hi, hz0, hz1, hz2⟩ := info_parts infoRng
  have hgrow := growRng_any (sumL L)
  have Hc := Lib.hid hc
  have Hs := Lib.hid hs
  clear hc hs
  go_enter Tryz.func65, Tryz.ntmps65
  go_upto_region 3 with fail
  go_loopw [3, 11] (fun o i wr => ∃ k : Nat, k ≤ L.length ∧ i = .int .i64 k ∧ o = .int .i64 (sumL (L.take k)) ∧ wr = w) (fun _ i _ => L.length - (intOf i).toNat)
  case atStart => exact ⟨0, Nat.zero_le _, rfl, rfl, rfl⟩
  case round =>
    obtain ⟨k, hk, rfl, rfl, rfl⟩ := hrel
    by_cases hlt : k < L.length
    · have hltz : (k : Int) < (L.length : Int) := by omega
      have hx := Hc.out k L[k] (by simp)
      have hSL := sumL_take hlt
      have hSle := sumL_le L (k + 1)
      obtain ⟨pp, cc, hv⟩ := (Hs.out L[k] (by simp)).len
      rw [hv] at hx
      have HSL := Lib.hid hSL
      clear hSL hv
      have hle : sumL (L.take k) + L[k].2.length ≤ 1000000 := by rw [← HSL.out]; omega
      generalize L[k].2.length = m at hx HSL hle
      generalize sumL (L.take k) = s at HSL hle ⊢
      go_wp2_with fail
      go_roundw
      case rel => exact ⟨k + 1, by omega, by go_num, by rw [HSL.out]; go_num, trivial⟩
      case measure => simp [intOf]; omega
    · obtain rfl : k = L.length := by omega
      have hltz : ¬ (L.length : Int) < (L.length : Int) := by omega
      rw [List.take_length]
      obtain ⟨S, hS⟩ : ∃ S, sumL L = S := ⟨_, rfl⟩
      rw [hS] at hgrow ⊢
      go_upto_region 11 with (go_at_call 100; refine (hgrow _ (by omega)).mono ?_; rintro e w1 ⟨v1, rfl, ho1, hb1⟩)
      obtain ⟨w0, rfl⟩ : ∃ w0, w0 = wr := ⟨_, rfl⟩
      go_loopw [6, 27] (fun o i wq => ∃ k : Nat, k ≤ L.length ∧ i = .int .i64 k ∧ OwnAt w0.heap.size 72 3 encRng wq o ((L.take k).flatMap (·.2)) ∧ Below w0.heap.size w0 wq) (fun _ i _ => L.length - (intOf i).toNat)
      case atStart => exact ⟨0, Nat.zero_le _, rfl, ho1, hb1⟩
      case round =>
        obtain ⟨k, hk, rfl, ho, hb⟩ := hrel
        clear ho1 hb1
        by_cases hlt : k < L.length
        · have hltz : (k : Int) < (L.length : Int) := by omega
          have hx := (hb.cell (p := ⟨g, k, none⟩) hg).trans (Hc.out k L[k] (by simp))
          have hSL := sumL_take hlt
          have hSle := sumL_le L (k + 1)
          have hsl := (Hs.out L[k] (by simp)).keep hb.size fun b off n c _ hlt => hb.block b hlt
          have hfl : (L.take (k + 1)).flatMap (·.2) = (L.take k).flatMap (·.2) ++ L[k].2 := by
            rw [List.take_succ_eq_append_getElem hlt, List.flatMap_append]
            simp
          have HFL := Lib.hid hfl
          have hle : sumL (L.take k) + L[k].2.length ≤ 1000000 := by rw [← hSL]; omega
          unfold sumL at hle
          clear hSL hSle hfl
          have hsz := hb.size
          have hu6 : ∀ b, u6.ownBlock = some b → w0.heap.size ≤ b := fun b e => (World.ownsRow.lt ho b e).1
          generalize L[k] = y at hx hsl HFL hle
          generalize (L.take k).flatMap (·.2) = out at ho HFL hle
          obtain ⟨yv, yl⟩ := y
          dsimp only at hx hsl HFL hle
          rcases hsl with ⟨rfl, rfl⟩ | ⟨b, off, cap, rfl, hln, hbl, hcc⟩
          · go_wp2_with (at_builtin; refine wpList_append_own_none rfl _ _ 65 rfl w0.heap.size 72 i0 3 Tryz.underlying65 hi _ _ _ rfl ho rfl ?_)
            go_roundw
            case rel => exact ⟨k + 1, by omega, by go_num, by rw [HFL.out]; simpa using ho, hb⟩
            case measure => simp [intOf]; omega
          · go_wp2_with (at_builtin; refine wpList_append_own_at _ rfl _ _ 65 rfl w0.heap.size 72 i0 (.agg #[.int .u64 0, .int .u64 0, .int .u64 0]) 3 24 Tryz.underlying65 hi hz0 hz1 hz2 rfl (by decide) _ _ _ rfl (show World.ownsRow _ w0.heap.size 72 3 u6 out.length (out.flatMap encRng) from ho) ⟨b, off, none⟩ yl.length cap (yl.flatMap encRng) rfl (flat_length (enc := encRng) (k := 3) (fun _ => rfl) yl) ?f1 ?f2 ?f3 ?f4 ?f5 ?_)
            case f1 =>
              intro t u ht
              have htl : t < yl.length * 3 := by
                have := (List.getElem?_eq_some_iff.1 ht).1
                rwa [flat_length (enc := encRng) (k := 3) (fun _ => rfl)] at this
              have h1 := flat_get (enc := encRng) (k := 3) (fun _ => rfl) yl (t / 3) (t % 3) yl[t / 3] (by simp [show t / 3 < yl.length by omega]) (Nat.mod_lt _ (by omega))
              rw [show t / 3 * 3 + t % 3 = t by omega, ht] at h1
              have h2 := hcc (t / 3) yl[t / 3] (by simp [show t / 3 < yl.length by omega]) (t % 3) u h1.symm
              rw [Addr.add_lit]
              rw [show off + t / 3 * 3 + t % 3 = off + t by omega] at h2
              exact h2
            case f2 =>
              intro u hu
              obtain ⟨x, _, hx2⟩ := List.mem_flatMap.1 hu
              exact encRng_one x u hx2
            case f3 => unfold maxLen; omega
            case f4 => omega
            case f5 => omega
            intro v' w2 hown' hgrow2 hne hblk
            have hB4 : Below w0.heap.size w0 w2 := hb.grown hgrow2 (by omega) (fun b e => hu6 b e)
            have ho5 : OwnAt w0.heap.size 72 3 encRng w2 v' (out ++ yl) := by
              unfold OwnAt
              rw [List.length_append, List.flatMap_append]
              exact hown'
            clear hown' hgrow2 hblk hne ho hb hcc hx
            go_wp2_with fail
            go_roundw
            case rel => exact ⟨k + 1, by omega, by go_num, by rw [HFL.out]; exact ho5, hB4⟩
            case measure => simp [intOf]; omega
        · obtain rfl : k = L.length := by omega
          have hltz : ¬ (L.length : Int) < (L.length : Int) := by omega
          rw [List.take_length] at ho
          go_wp2_with fail
          go_ret
          exact ⟨_, rfl, ho, hb⟩
theorem hasRngs_append (a b : List QRng) (i : QId) : hasRngs (a ++ b) i = (hasRngs a i || hasRngs b i) := by
  simp [hasRngs, Bool.and_or_distrib_left]
set_option maxRecDepth 100000 in
set_option maxHeartbeats 4000000 in
theorem join_any (av bv : Value) (a b : List QRng) (w : World) (ha : SliceAt 3 encRng w av a) (hb : SliceAt 3 encRng w bv b) (hla : a.length ≤ 1000) (hlb : b.length ≤ 1000) (ha1 : av.oneCell' = true) (hb1 : bv.oneCell' = true) :
    Calls Tryz.prog 36 #[av, bv] w (RetW (SetRes (fun i => hasRngs a i || hasRngs b i) w)) := by
  obtain ⟨pa, ca, rfl⟩ := ha.len
  obtain ⟨pb, cb, rfl⟩ := hb.len
  have hW : Below w.heap.size w (w.alloc (.cells #[.slice pa a.length ca, .slice pb b.length cb] 65)) := (Below.refl _ _).alloc (Nat.le_refl _) _
  have hcat := concatRng_any w.heap.size [(.slice pa a.length ca, a), (.slice pb b.length cb, b)] (w.alloc (.cells #[.slice pa a.length ca, .slice pb b.length cb] 65)) (by simp) (fun j x hx => by
      rw [World.cell?, heap_alloc_new]
      match j with
      | 0 => simpa using congrArg Prod.fst (Option.some.inj hx)
      | 1 => simpa using congrArg Prod.fst (Option.some.inj hx)
      | j + 2 => simp at hx) (fun x hx => by
      rcases List.mem_cons.1 hx with rfl | hx
      · exact ha.below hW
      · rcases List.mem_cons.1 hx with rfl | hx
        · exact hb.below hW
        · simp at hx) (by simp [sumL]; omega) (by simp)
  have hfl : ([((Value.slice pa a.length ca : Value), a), (.slice pb b.length cb, b)] : List (Value × List QRng)).flatMap (·.2) = a ++ b := by simp
  rw [hfl] at hcat
  have hcat2 : Calls Tryz.prog 65 #[.slice (some ⟨w.heap.size, 0, none⟩) 2 2] (w.alloc (.cells #[.slice pa a.length ca, .slice pb b.length cb] 65)) (RetW fun v w' => OwnAt (w.heap.size + 1) 72 3 encRng w' v (a ++ b) ∧ Below (w.heap.size + 1) (w.alloc (.cells #[.slice pa a.length ca, .slice pb b.length cb] 65)) w') := by
    rw [World.size_alloc] at hcat
    exact hcat
  have hap := hasRngs_append a b
  have hll : (a ++ b).length ≤ 2000 := by rw [List.length_append]; omega
  generalize a ++ b = l at hcat2 hap hll
  clear hcat hfl
  clear ha hb
  go_enter Tryz.func36, Tryz.ntmps36
  go_wp2_with fail
  refine Calls.mono hcat2 ?_
  rintro e w1 ⟨v1, rfl, ho1, hb1⟩
  obtain ⟨p1, c1, rfl⟩ := (OwnAt.slice (k := 3) (enc := encRng) (fun _ => rfl) ho1).len
  have hcl := cleanSet_any _ l _ (OwnAt.slice (k := 3) (enc := encRng) (fun _ => rfl) ho1) (by omega) rfl
  have hbw : Below w.heap.size w w1 := hW.trans (hb1.mono (Nat.le_succ _))
  clear hcat2 hW ho1 hb1
  go_wp2_with fail
  refine hcl.mono ?_
  rintro e w3 ⟨v3, rfl, D, hDc, hDl, hDh, hDo, hDb⟩
  go_wp2_with fail
  go_ret
  exact ⟨_, rfl, D, hDc, fun i => by rw [hDh, hap], ownsRow_base hDo hbw.size, belowTrans hbw hDb⟩
set_option maxRecDepth 100000 in
set_option maxHeartbeats 4000000 in
theorem count_none (av : Value) (a : List QRng) (w : World) (ha : SliceAt 3 encRng w av a) (hla : a.length ≤ 1000) (h0 : ∀ i, hasRngs a i = false) (ha1 : av.oneCell' = true) :
    Calls Tryz.prog 41 #[av] w fun e w' => e = .returned (.int .u64 0) ∧ Below w.heap.size w w' := by
  go_enter Tryz.func41, Tryz.ntmps41
  go_upto_region 3 with (go_at_call 62; refine (cleanSet_any av a _ ha (by omega) ha1).mono ?_; rintro e w3 ⟨v3, rfl, D, hDc, hDl, hDh, hDo, hDb⟩; obtain rfl : D = [] := clean_none hDc (fun i => (hDh i).trans (h0 i)); obtain ⟨p1, c1, rfl⟩ := (OwnAt.slice (k := 3) (enc := encRng) (fun _ => rfl) hDo).len)
  go_loopw [3, 9] (fun o i wr => o = .int .u64 0 ∧ i = .int .i64 0 ∧ wr = w3) (fun _ i _ => 0)
  case atStart => exact ⟨rfl, rfl, rfl⟩
  case round =>
    obtain ⟨rfl, rfl, rfl⟩ := hrel
    go_wp2_with fail
    go_ret
    exact ⟨rfl, hDb⟩
end Go.Proofs.YtaeebgljcdfolaaGreatDoor
/- utf.Runes: the iterator over a text's runes. -/
namespace Go.Proofs.YtaeebgljcdfolaaGreatDoor
open Go.RowKit Go.Shelf Go.Lib

set_option maxHeartbeats 1000000 in
/-- Runes(s): it is boxed, the function value captures the box. -/
theorem utfRunes_in (n : Nat) (s : ByteArray) (w : World) :
    CallsIn Fence.wide n Tryz.prog 99 #[.string s] w fun e w' => e = .returned (.func (.func 119) #[] #[.pointer (some ⟨w.heap.size, 0, none⟩)]) ∧ w' = w.alloc (.cells #[.string s] 9) := by
  refine callsIn_of_wp Tryz.func99 rfl trivial ?_ rfl
  simp only [Tryz.ntmps99, List.size_toArray, List.length_cons, List.length_nil, Nat.reduceAdd, Nat.reduceSub, Array.replicate_succ, Array.replicate_zero, List.push_toArray, List.append_toArray, List.nil_append, List.cons_append]
  gi_wp2
  go_ret
  exact ⟨rfl, rfl⟩

/-- what it brings: each rune with its place. -/
def runePairs (s : ByteArray) : List (Int × Nat) := (runesB s).zipIdx
theorem runePairs_length (s : ByteArray) : (runePairs s).length = (runesB s).length := by simp [runePairs]
theorem runePairs_succ (s : ByteArray) {k : Nat} {r : Int} (h : (runesB s)[k]? = some r) : (runePairs s).take (k + 1) = (runePairs s).take k ++ [(r, k)] := by
  have hk := (List.getElem?_eq_some_iff.1 h)
  obtain ⟨hlt, he⟩ := hk
  rw [List.take_succ_eq_append_getElem (by rw [runePairs_length]; exact hlt)]
  congr 2
  simp [runePairs, he]
theorem abides_iter {β : Type} {B : Nat} {J : β → World → Prop} (hJ : AbidesFrom B J) {w : World} {k : Nat} {s : ByteArray} {p : Nat} (hk : w.heap[k]? = some (.stringIter s p)) (hB : B ≤ k) (p' : Nat) {x : β} (hx : J x w) : J x (w.iterAt k s p') :=
  hJ x w _ (some k) hx (grownBy_putObj' w k _) (fun r e => by cases e; exact ⟨hB, _, hk, rfl⟩)

set_option maxRecDepth 100000 in
set_option maxHeartbeats 2000000 in
/-- the closure: for every loop body that leaves iterators alone. -/
theorem utfRunes1_in (n : Nat) (hn : 3 ≤ n) (L Bs : Nat) (s : ByteArray) (hs : s.size ≤ 1000000000000) (J Jx : List (Int × Nat) → World → Prop)
    (hY : ∀ pre x W, J pre W → pre.length < (runePairs s).length → YieldAt Fence.wide (n - 1) Tryz.prog L #[.int .i64 (x.2 : Int), .int .i32 x.1] W fun e W' =>
      (e = .returned (.bool true) ∧ J (pre ++ [x]) W' ∧ KeepsWalks W W') ∨ (e = .returned (.bool false) ∧ Jx (pre ++ [x]) W'))
    (W : World) (hJ : AbidesFrom W.heap.size J) (hBs : W.cell? ⟨Bs, 0, none⟩ = some (.string s)) (hBl : Bs < W.heap.size) (hT : Tabs W) (h0 : J [] W) :
    CallsIn Fence.wide n Tryz.prog 119 #[.func (.yield L) #[] #[], .pointer (some ⟨Bs, 0, none⟩)] W fun e W' => (∃ v, e = .returned v) ∧
      ((∃ ys, ys = runePairs s ∧ J ys W') ∨ (∃ pre, pre <+: runePairs s ∧ Jx pre W')) := by
  have hv := fun w hw => (callsIn_wide (n := n - 1)).2 (utfCheck_any s w (by omega) hw)
  have hok := fun h => count_runes (s := s) h
  have hn1 : 1 ≤ n := by omega
  have hfn : Fence.wide.fn 83 := trivial
  refine callsIn_of_wp Tryz.func119 rfl trivial ?_ rfl
  simp only [Tryz.ntmps119, List.size_toArray, List.length_cons, List.length_nil, Nat.reduceAdd, Nat.reduceSub, Array.replicate_succ, Array.replicate_zero, List.push_toArray, List.append_toArray, List.nil_append, List.cons_append]
  cases hb : okB s
  · have hr := runes_bad hb
    have Hp := Lib.hid (show runePairs s = [] by unfold runePairs; rw [hr]; rfl)
    rw [hb] at hv
    clear hb hr hok
    gi_wp2_with fail
    refine (hv _ hT).mono ?_
    rintro e w1 ⟨rfl, hb1⟩
    gi_wp2
    refine bodyPost_ret (results_none rfl _ _ _) rfl ?_
    exact ⟨⟨_, rfl⟩, .inl ⟨_, rfl, by rw [Hp.out]; exact abides_below hJ hb1 h0⟩⟩
  · obtain ⟨rs, hrs⟩ := Option.isSome_iff_exists.1 (show (runesL s.data.toList).isSome = true from hb)
    obtain ⟨he, ho⟩ := text_of_runes hrs
    have hrb : runesB s = rs := by unfold runesB; rw [hrs]; rfl
    have hsz : s.size = (ebytes rs).length := by conv => lhs; rw [he]
                                                 exact estr_size ho
    have hdec : ∀ {k : Nat} {r : Int}, rs[k]? = some r → Utf8.decode s (eoff rs k) = (r.toNat, (encodeRune r).length) := fun h => by rw [he]; exact decode_place ho h
    rw [hb] at hv
    have Hrb := Lib.hid hrb
    have Hsz := Lib.hid hsz
    have hlen := runePairs_length s
    rw [hrb] at hlen
    have Hlen := Lib.hid hlen
    clear hb hrs hrb hok he hsz hlen
    gi_wp2_with fail
    refine (hv _ hT).mono ?_
    rintro e w1 ⟨rfl, hb1⟩
    have hJ1 := abides_below hJ hb1 h0
    have cB : w1.cell? ⟨Bs, 0, none⟩ = some (.string s) := (hb1.cell (p := ⟨Bs, 0, none⟩) hBl).trans hBs
    have hz1 := hb1.size
    clear h0 hBs hT hv
    gi_wp2
    have hJ2 : J [] (w1.iter s 0) := abides_below hJ ((Below.refl _ _).alloc (Nat.le_refl _) _) hJ1
    have hI2 := World.iter_heap w1 s 0
    obtain ⟨W2, hW2⟩ : ∃ W2, w1.iter s 0 = W2 := ⟨_, rfl⟩
    rw [hW2] at hJ2 hI2 ⊢
    obtain ⟨B, hB⟩ : ∃ B, w1.heap.size = B := ⟨_, rfl⟩
    have hWB : W.heap.size ≤ B := by omega
    rw [hB] at hI2 ⊢
    clear hW2 hB hJ1 cB hz1 hb1
    gi_loopw [3] (fun i wr => ∃ k : Nat, k ≤ rs.length ∧ i = .int .i64 k ∧ wr.heap[B]? = some (.stringIter s (eoff rs k)) ∧ J ((runePairs s).take k) wr) (fun i _ => rs.length - (intOf i).toNat)
    case atStart => exact ⟨0, Nat.zero_le _, rfl, by rw [eoff_zero]; exact hI2, by rw [List.take_zero]; exact hJ2⟩
    case round =>
      obtain ⟨k, hk, rfl, hI, hJs⟩ := hrel
      clear hI2 hJ2
      by_cases hlt : k < rs.length
      · obtain ⟨r, hr⟩ : ∃ r, rs[k]? = some r := ⟨rs[k], by simp [hlt]⟩
        have hrl := List.getElem?_eq_some_iff.1 hr
        have hps := runePairs_succ s (k := k) (r := r) (by rw [Hrb.out]; exact hr)
        have HPS := Lib.hid hps
        have hr0 : 0 ≤ r := by have := ho r (List.mem_of_getElem? hr); unfold okRune at this; omega
        have hnx := fun ty => run_next_any_at (P := Tryz.prog) wr B s (eoff rs k) ty hI (by rw [Hsz.out]; exact eoff_lt rs hlt)
        rw [hdec hr] at hnx
        simp only [Int.toNat_of_nonneg hr0] at hnx
        rw [← eoff_succ rs hr] at hnx
        have hI3 := iterAt_heap wr B s (eoff rs k) (eoff rs (k + 1)) hI
        have hJ3 := abides_iter hJ hI hWB (eoff rs (k + 1)) hJs
        obtain ⟨W3, hW3⟩ : ∃ W3, wr.iterAt B s (eoff rs (k + 1)) = W3 := ⟨_, rfl⟩
        rw [hW3] at hJ3 hI3 hnx
        have hpl : ((runePairs s).take k).length < (runePairs s).length := by rw [List.length_take, Hlen.out]; omega
        obtain ⟨fn, tmps, assign, body, hy, hR⟩ := hY _ (r, k) W3 hJ3 hpl
        have HI3 := Lib.hid hI3
        have hk9 : k ≤ 1000000000000 := by
          have := (ebytes_length rs).1
          have := Hsz.out
          omega
        clear hY hW3 hps hr hrl hI hJs hI3 hJ3 hdec hpl ho
        gi_wp2
        refine hR.mono ?_
        rintro e W4 (⟨rfl, hJ4, hk4⟩ | ⟨rfl, hJx4⟩)
        · have hI4 := hk4.same B _ HI3.out rfl
          gi_wp2
          go_roundw
          case rel => exact ⟨k + 1, by omega, by simp, hI4, by rw [HPS.out]; exact hJ4⟩
          case measure => simp [intOf]; omega
        · gi_wp2
          refine bodyPost_ret (results_none rfl _ _ _) rfl ?_
          exact ⟨⟨_, rfl⟩, .inr ⟨_, by rw [← HPS.out]; exact List.take_prefix _ _, hJx4⟩⟩
      · obtain rfl : k = rs.length := by omega
        have hnx := fun ty => run_next_end_at (P := Tryz.prog) wr B s (eoff rs rs.length) ty hI (by rw [Hsz.out, eoff_end]; omega)
        rw [← Hlen.out, List.take_length] at hJs
        clear hY hI hdec
        gi_wp2
        go_end0
        exact ⟨⟨_, rfl⟩, .inl ⟨_, rfl, hJs⟩⟩

/-- Runes(s) hands back a value that brings its runes, in order. -/
theorem utfRunes_stops (n : Nat) (hn : 3 ≤ n) (Bs : Nat) (s : ByteArray) (hs : s.size ≤ 1000000000000) (w : World) (hBs : Bs < w.heap.size) (hc : w.cell? ⟨Bs, 0, none⟩ = some (.string s)) (hT : Tabs w) :
    SeqStopsK Fence.wide n Tryz.prog 119 #[.pointer (some ⟨Bs, 0, none⟩)] (fun x : Int × Nat => #[.int .i64 (x.2 : Int), .int .i32 x.1]) KeepsWalks (fun ys => ys = runePairs s) (fun pre => pre <+: runePairs s) (runePairs s).length w := fun L J Jx W hW hJ _ hY h0 =>
  utfRunes1_in n hn L Bs s hs J Jx hY W hJ ((hW.cell (p := ⟨Bs, 0, none⟩) hBs).trans hc) (Nat.lt_of_lt_of_le hBs hW.size) (hT.below hW) h0
end Go.Proofs.YtaeebgljcdfolaaGreatDoor
