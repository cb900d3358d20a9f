/- ids.rights at ranges: the iterator over the right ones of a list. -/
import Derived.RangeFuncNested
import Derived.RangeFuncBound
import Derived.RangeFuncCalls
import Derived.RangeFuncLeaves
import Derived.RangeFuncBox
import Derived.Shelf.Abstract
import Derived.Shelf.RegionOpen
import Derived.OwnWalkIn
import Derived.TacticsInMore
import Derived.LoopNIn
import Derived.LoopIn
import Derived.BigGuardIn
import Derived.Test.YtaeebgljcdfolaaGreatDoorM01
import Derived.Shelf.SlSortCmp.KitK
namespace Go.Proofs.YtaeebgljcdfolaaGreatDoor
open Go.RowKit Go.Shelf

set_option maxHeartbeats 1000000 in
/-- rights(l, f): both are boxed, the function value captures the boxes. -/
theorem rights_in (n : Nat) (sv fv : Value) (w : World) (hs : sv.oneCell' = true) (hf : fv.oneCell' = true) :
    CallsIn Fence.wide n Tryz.prog 92 #[sv, fv] w fun e w' => e = .returned (.func (.func 116) #[] #[.pointer (some ⟨w.heap.size, 0, none⟩), .pointer (some ⟨w.heap.size + 1, 0, none⟩)]) ∧ w' = (w.alloc (.cells #[sv] 65)).alloc (.cells #[fv] 113) := by
  refine callsIn_of_wp Tryz.func92 rfl trivial ?_ rfl
  simp only [Tryz.ntmps92, List.size_toArray, List.length_cons, List.length_nil, Nat.reduceAdd, Nat.reduceSub, Array.replicate_succ, Array.replicate_zero, List.push_toArray, List.append_toArray, List.nil_append, List.cons_append]
  gi_wp2
  go_ret
  exact ⟨rfl, rfl⟩

/-- the right ones of the first k. -/
def rightUpto (l : List QRng) (k : Nat) : List QRng := (l.take k).filter QRng.rightB
theorem rightUpto_yes {l : List QRng} {k : Nat} (hk : k < l.length) (h : (l[k]).rightB = true) : rightUpto l (k + 1) = rightUpto l k ++ [l[k]] := by
  unfold rightUpto
  rw [List.take_succ_eq_append_getElem hk, List.filter_append]
  simp [h]
theorem rightUpto_no {l : List QRng} {k : Nat} (hk : k < l.length) (h : (l[k]).rightB = false) : rightUpto l (k + 1) = rightUpto l k := by
  unfold rightUpto
  rw [List.take_succ_eq_append_getElem hk, List.filter_append]
  simp [h]
theorem rightUpto_le (l : List QRng) (k : Nat) : (rightUpto l k).length ≤ k := Nat.le_trans (List.length_filter_le _ _) (List.length_take_le _ _)

theorem listSkip {n : Nat} {P : Program} {ops : Array Oper} {Q : Exit → Act → World → Prop} {a : Act} {w : World} {rest : List Oper} {o : Oper}
    (hw : Region.wanted o (yielded ops a.tmps) = false) (h : wpListIn Fence.wide n P ops Q rest (a.put o.dst undef) w) : wpListIn Fence.wide n P ops Q (o :: rest) a w :=
  wpListIn_step fun K hK => by rw [if_neg (by rw [hw]; exact Bool.false_ne_true)]; exact ⟨fun _ _ => trivial, hK _ _ h⟩

theorem abides_below {β : Type} {B : Nat} {J : β → World → Prop} (hJ : AbidesFrom B J) {w w' : World} (h : Below w.heap.size w w') {s : β} (hs : J s w) : J s w' :=
  hJ s w w' none hs ⟨h.os, h.tape, h.output, h.size, fun k hk _ => h.block k hk⟩ (fun r e => by cases e)

/-- What a round of the caller's keeps: what lies below n₀, and block Bf. -/
def KeepR (n₀ Bf : Nat) (A B : World) : Prop := Below n₀ A B ∧ B.heap[Bf]? = A.heap[Bf]?
theorem KeepR.refl (n₀ Bf : Nat) (A : World) : KeepR n₀ Bf A A := ⟨Below.refl _ _, rfl⟩
theorem KeepR.trans {n₀ Bf : Nat} {A B C : World} (h : KeepR n₀ Bf A B) (g : KeepR n₀ Bf B C) : KeepR n₀ Bf A C := ⟨h.1.trans g.1, g.2.trans h.2⟩
theorem KeepR.of_below {n₀ Bf : Nat} {A B : World} (hn : n₀ ≤ A.heap.size) (hB : Bf < A.heap.size) (h : Below A.heap.size A B) : KeepR n₀ Bf A B := ⟨h.mono hn, h.block Bf hB⟩
theorem KeepR.cell {n₀ Bf : Nat} {A B : World} (h : KeepR n₀ Bf A B) : B.cell? ⟨Bf, 0, none⟩ = A.cell? ⟨Bf, 0, none⟩ := World.cell?_of_block (w := A) h.2

set_option maxRecDepth 100000 in
set_option maxHeartbeats 2000000 in
/-- the closure: for every loop body that keeps what lay below n₀, and the box of the predicate. -/
theorem rights1_in (n : Nat) (hn : 3 ≤ n) (L Bs Bf n₀ b off cap : Nat) (l : List QRng) (hlen : l.length ≤ 9223372036854775807) (hb : b < n₀) (J Jx : List QRng → World → Prop)
    (hY : ∀ pre x W, J pre W → pre.length < l.length → YieldAt Fence.wide (n - 1) Tryz.prog L #[.agg #[.int .u64 x.c, .int .u64 x.a, .int .u64 x.b]] W fun e W' =>
      (e = .returned (.bool true) ∧ J (pre ++ [x]) W' ∧ KeepR n₀ Bf W W') ∨ (e = .returned (.bool false) ∧ Jx (pre ++ [x]) W'))
    (W : World) (hn₀ : n₀ ≤ W.heap.size) (hBf : Bf < W.heap.size) (hJ : AbidesFrom W.heap.size J) (hBs : W.cell? ⟨Bs, 0, none⟩ = some (.slice (some ⟨b, off, none⟩) l.length cap)) (hBf0 : W.cell? ⟨Bf, 0, none⟩ = some (.func (.func 90) #[] #[]))
    (hc : ∀ j x, l[j]? = some x → ∀ i y, (encRng x)[i]? = some y → W.cell? ⟨b, off + j * 3 + i, none⟩ = some y) (h0 : J [] W) :
    CallsIn Fence.wide n Tryz.prog 116 #[.func (.yield L) #[] #[], .pointer (some ⟨Bs, 0, none⟩), .pointer (some ⟨Bf, 0, none⟩)] W fun e W' => (∃ v, e = .returned v) ∧
      ((∃ ys, ys = l.filter QRng.rightB ∧ J ys W') ∨ (∃ pre, (∃ k, k ≤ l.length ∧ pre = rightUpto l k) ∧ Jx pre W')) := by
  refine callsIn_of_wp Tryz.func116 rfl trivial ?_ rfl
  simp only [Tryz.ntmps116, List.size_toArray, List.length_cons, List.length_nil, Nat.reduceAdd, Nat.reduceSub, Array.replicate_succ, Array.replicate_zero, List.push_toArray, List.append_toArray, List.nil_append, List.cons_append]
  gi_wp2
  gi_loopw [8] (fun i wr => ∃ k : Nat, k ≤ l.length ∧ i = .int .i64 k ∧ J (rightUpto l k) wr ∧ KeepR n₀ Bf W wr)
    (fun i _ => l.length - (intOf i).toNat)
  case atStart => exact ⟨0, Nat.zero_le _, rfl, h0, KeepR.refl _ _ _⟩
  case round =>
    obtain ⟨k, hk, rfl, hJs, hnx⟩ := hrel
    by_cases hlt : k < l.length
    · have hltz : (k : Int) < (l.length : Int) := by omega
      have c0 := (hnx.1.cell (p := ⟨b, off + k * 3 + 0, none⟩) hb).trans (hc k l[k] (by simp) 0 _ rfl)
      have c1 := (hnx.1.cell (p := ⟨b, off + k * 3 + 1, none⟩) hb).trans (hc k l[k] (by simp) 1 _ rfl)
      have c2 := (hnx.1.cell (p := ⟨b, off + k * 3 + 2, none⟩) hb).trans (hc k l[k] (by simp) 2 _ rfl)
      have cf := hnx.cell.trans hBf0
      have hfn : Fence.wide.fn 90 := trivial
      have hn1 : 1 ≤ n := by omega
      have eg : ∀ args w, (callFunc 90 args).run Tryz.prog w = .ok (.enter 90 args) w := enters_of Tryz.func90 (by kernel_rfl) rfl
      have hyes := rightUpto_yes hlt
      have hno := rightUpto_no hlt
      have hBfw : Bf < wr.heap.size := by have := hnx.1.size; omega
      generalize l[k] = x at c0 c1 c2 hyes hno
      simp only [Nat.add_zero] at c0
      have hr := fun W => (callsIn_wide (n := n - 1)).2 (rright_any x W)
      cases hq : x.rightB with
      | false =>
        have hU := Lib.hid (hno hq)
        rw [hq] at hr
        clear hyes hno hq hc hY hBs hBf0
        gi_wp2_with fail
        refine (hr _).mono ?_; rintro e w' ⟨rfl, hb'⟩; obtain ⟨hc', hf'⟩ := bcell hb'
        dsimp only
        go_at_K
        repeat (first | refine listSkip (by rfl) ?_ | gi_step)
        gi_wp2
        go_roundw
        case rel => exact ⟨k + 1, by omega, by simp, by rw [hU.out]; exact abides_below hJ (belowTrans ((Below.refl _ _).alloc (Nat.le_refl _) _) hb') hJs, hnx.trans (KeepR.of_below (by have := hnx.1.size; omega) hBfw (belowTrans ((Below.refl _ _).alloc (Nat.le_refl _) _) hb'))⟩
        case measure => simp [intOf]; omega
      | true =>
        have hU := Lib.hid (hyes hq)
        rw [hq] at hr
        clear hyes hno hq hc hBs hBf0
        have hlen2 := rightUpto_le l k
        gi_wp2_with (gi_at_call 90; refine (hr _).mono ?_; rintro e w' ⟨rfl, hb'⟩; obtain ⟨hc', hf'⟩ := bcell hb'; obtain ⟨fn, tmps, assign, body, hy, hR⟩ := hY _ x w' (abides_below hJ (belowTrans ((Below.refl _ _).alloc (Nat.le_refl _) _) hb') hJs) (by omega); clear hY)
        refine hR.mono ?_
        rintro e W3 (⟨rfl, hJ3, hk3⟩ | ⟨rfl, hJx3⟩)
        · gi_wp2
          go_roundw
          case rel => exact ⟨k + 1, by omega, by simp, by rw [hU.out]; exact hJ3, hnx.trans ((KeepR.of_below (by have := hnx.1.size; omega) hBfw (belowTrans ((Below.refl _ _).alloc (Nat.le_refl _) _) hb')).trans hk3)⟩
          case measure => simp [intOf]; omega
        · gi_wp2
          refine bodyPost_ret (results_none rfl _ _ _) rfl ?_
          exact ⟨⟨_, rfl⟩, .inr ⟨_, ⟨k + 1, by omega, hU.out.symm⟩, hJx3⟩⟩
    · have hltz : ¬ (k : Int) < (l.length : Int) := by omega
      obtain rfl : k = l.length := by omega
      gi_wp2
      go_end0
      first
        | exact ⟨⟨_, rfl⟩, .inl ⟨_, rfl, by simpa [rightUpto] using hJs⟩⟩
        | exact ⟨⟨_, rfl⟩, .inl (by simpa [rightUpto] using hJs)⟩

set_option maxRecDepth 100000 in
set_option maxHeartbeats 1000000 in
/-- .. at the nil slice: no round. -/
theorem rights1_nil_in (n L Bs Bf : Nat) (J : List QRng → World → Prop) (W : World) (hBs : W.cell? ⟨Bs, 0, none⟩ = some (.slice none 0 0)) (h0 : J [] W) :
    CallsIn Fence.wide n Tryz.prog 116 #[.func (.yield L) #[] #[], .pointer (some ⟨Bs, 0, none⟩), .pointer (some ⟨Bf, 0, none⟩)] W fun e W' => (∃ v, e = .returned v) ∧ J [] W' := by
  refine callsIn_of_wp Tryz.func116 rfl trivial ?_ rfl
  simp only [Tryz.ntmps116, List.size_toArray, List.length_cons, List.length_nil, Nat.reduceAdd, Nat.reduceSub, Array.replicate_succ, Array.replicate_zero, List.push_toArray, List.append_toArray, List.nil_append, List.cons_append]
  gi_wp2
  gi_loopw [8] (fun i wr => i = .int .i64 0 ∧ J [] wr) (fun _ _ => 0)
  case atStart => exact ⟨rfl, h0⟩
  case round =>
    obtain ⟨rfl, hJs⟩ := hrel
    gi_wp2
    go_end0
    exact ⟨⟨_, rfl⟩, hJs⟩

theorem rightUpto_prefix (l : List QRng) (k : Nat) : rightUpto l k <+: l.filter QRng.rightB := by
  unfold rightUpto
  exact (List.take_prefix k l).filter _

/-- rights(l, right) hands back a value that brings the right ones of l, in order, or a first part of them. -/
theorem rights_stops (n : Nat) (hn : 3 ≤ n) (Bs Bf n₀ : Nat) (sv : Value) (l : List QRng) (w : World) (hBs : Bs < w.heap.size) (hBf : Bf < w.heap.size) (hn₀ : n₀ ≤ w.heap.size)
    (hc : w.cell? ⟨Bs, 0, none⟩ = some sv) (hf : w.cell? ⟨Bf, 0, none⟩ = some (.func (.func 90) #[] #[])) (hI : SliceAt 3 encRng w sv l) (hlow : ∀ b off n c, sv = .slice (some ⟨b, off, none⟩) n c → b < n₀) :
    SeqStopsK Fence.wide n Tryz.prog 116 #[.pointer (some ⟨Bs, 0, none⟩), .pointer (some ⟨Bf, 0, none⟩)] (fun x : QRng => #[.agg #[.int .u64 x.c, .int .u64 x.a, .int .u64 x.b]]) (KeepR n₀ Bf) (fun ys => ys = l.filter QRng.rightB) (fun pre => pre <+: l.filter QRng.rightB) l.length w := fun L J Jx W hW hJ _ hY h0 => by
  have hc' := (hW.cell (p := ⟨Bs, 0, none⟩) hBs).trans hc
  have hf' := (hW.cell (p := ⟨Bf, 0, none⟩) hBf).trans hf
  rcases hI.below hW with ⟨rfl, rfl⟩ | ⟨b, off, cap, rfl, hlen, hb, hcs⟩
  · exact (rights1_nil_in n L Bs Bf J W hc' h0).mono fun e W' ⟨he, hj⟩ => ⟨he, .inl ⟨_, rfl, hj⟩⟩
  · refine (rights1_in n hn L Bs Bf n₀ b off cap l hlen (hlow _ _ _ _ rfl) J Jx hY W (by have := hW.size; omega) (by have := hW.size; omega) hJ hc' hf' hcs h0).mono ?_
    rintro e W' ⟨he, ⟨ys, rfl, hj⟩ | ⟨pre, ⟨k, hk, rfl⟩, hj⟩⟩
    · exact ⟨he, .inl ⟨_, rfl, hj⟩⟩
    · exact ⟨he, .inr ⟨_, rightUpto_prefix l k, hj⟩⟩
end Go.Proofs.YtaeebgljcdfolaaGreatDoor
/- Lists of structs in rows of the call's own: as the kit's owned rows, as slices, as the sort's rows. -/
namespace Go.Proofs.YtaeebgljcdfolaaGreatDoor
open Go.RowKit Go.Shelf

theorem flat_get {α : Type} {enc : α → List Value} {k : Nat} (hk : ∀ x, (enc x).length = k) : ∀ (l : List α) (j i : Nat) (x : α), l[j]? = some x → i < k → (l.flatMap enc)[j * k + i]? = (enc x)[i]?
  | [], j, i, x, h, _ => by simp at h
  | y :: r, 0, i, x, h, hi => by
    obtain rfl : y = x := by simpa using h
    rw [List.flatMap_cons, List.getElem?_append_left (by rw [hk]; omega)]
    simp
  | y :: r, j + 1, i, x, h, hi => by
    rw [List.flatMap_cons, List.getElem?_append_right (by rw [hk, Nat.add_mul]; omega), hk, show (j + 1) * k + i - k = j * k + i by rw [Nat.add_mul]; omega]
    exact flat_get hk r j i x (by simpa using h) hi

theorem flat_length {α : Type} {enc : α → List Value} {k : Nat} (hk : ∀ x, (enc x).length = k) : ∀ l : List α, (l.flatMap enc).length = l.length * k
  | [] => by simp
  | y :: r => by rw [List.flatMap_cons, List.length_append, hk, flat_length hk r, List.length_cons, Nat.add_mul]; omega

/-- v owns a row of elements of type E from block base on: the list l. -/
def OwnAt {α : Type} (base E k : Nat) (enc : α → List Value) (w : World) (v : Value) (l : List α) : Prop := w.ownsRow base E k v l.length (l.flatMap enc)

theorem OwnAt.slice {α : Type} {base E k : Nat} {enc : α → List Value} (hk : ∀ x, (enc x).length = k) {w : World} {v : Value} {l : List α} (h : OwnAt base E k enc w v l) : SliceAt k enc w v l := by
  obtain ⟨h1, ⟨hv, h0⟩ | ⟨g, cap, cur, hv, hb, hg, hn, hc, hs, ht⟩⟩ := h
  · exact .inl ⟨hv, List.eq_nil_of_length_eq_zero h0⟩
  · refine .inr ⟨g, 0, cap, hv, by unfold maxLen at hc; omega, (Array.getElem?_eq_some_iff.1 hg).1, fun j x hj i y hi => ?_⟩
    have hj' : j < l.length := (List.getElem?_eq_some_iff.1 hj).1
    have hi' : i < k := by rw [← hk x]; exact (List.getElem?_eq_some_iff.1 hi).1
    have hlt : j * k + i < l.length * k := by
      have : (j + 1) * k ≤ l.length * k := Nat.mul_le_mul_right k hj'
      rw [Nat.add_mul] at this; omega
    have h3 : (cur.toList.take (l.length * k))[j * k + i]? = some y := by rw [ht, flat_get hk l j i x hj hi']; exact hi
    rw [List.getElem?_take_of_lt hlt, Array.getElem?_toList] at h3
    simp only [World.cell?, hg, Nat.zero_add]
    simpa using h3

theorem OwnAt.nil {α : Type} {base E k : Nat} {enc : α → List Value} {w : World} : OwnAt base E k enc w (.slice none 0 0) ([] : List α) := ⟨by simp, .inl ⟨rfl, rfl⟩⟩

/-- what the sort asks of a row. -/
theorem OwnAt.holds {α : Type} [Inhabited α] {base E k : Nat} {enc : α → List Value} (hk : ∀ x, (enc x).length = k) {w : World} {g off n cap : Nat} {l : List α} (h : OwnAt base E k enc w (.slice (some ⟨g, off, none⟩) n cap) l) :
    off = 0 ∧ n = l.length ∧ g < w.heap.size ∧ base ≤ g ∧ Sort.HoldsK enc k w g 0 l.toArray := by
  have hS := h.slice hk
  obtain ⟨h1, ⟨hv, h0⟩ | ⟨g', cap', cur, hv, hb, hg, hn, hc, hs, ht⟩⟩ := h
  · cases hv
  · cases hv
    refine ⟨rfl, rfl, (Array.getElem?_eq_some_iff.1 hg).1, hb, fun t ht' => ⟨?_, by simp [World.frozen?, hg]⟩⟩
    have ht2 : t < l.length * k := by simpa using ht'
    rw [Sort.get_flatK _ _ _ _ (by simpa using ht2)]
    rcases hS with ⟨e, _⟩ | ⟨b, off, cap, e, _, _, hcells⟩
    · cases e
    · cases e
      have k0 : 0 < k := by rcases Nat.eq_zero_or_pos k with h | h
                            · subst h; simp at ht2
                            · exact h
      have hj : t / k < l.length := Nat.div_lt_of_lt_mul (by rw [Nat.mul_comm]; exact ht2)
      have hm : t % k < k := Nat.mod_lt _ k0
      have := hcells (t / k) l[t / k] (by simp) (t % k) ((enc l[t / k])[t % k]'(by rw [hk]; exact hm)) (by simp)
      rw [show 0 + t / k * k + t % k = 0 + t by have := Nat.div_add_mod t k; rw [Nat.mul_comm] at this; omega] at this
      rw [this]
      simp [hj, hk, hm]

/-- behind the sort the same slice owns the sorted list. -/
theorem OwnAt.sorted {α : Type} [Inhabited α] {base E k : Nat} {enc : α → List Value} (hk : ∀ x, (enc x).length = k) {w : World} {g n cap m : Nat} {l : List α} {d' : Array α} {os : Array Obj}
    (h : OwnAt base E k enc w (.slice (some ⟨g, 0, none⟩) n cap) l) (hd : d'.size = l.length) :
    OwnAt base E k enc (sortWorldK enc k w g 0 m d' os) (.slice (some ⟨g, 0, none⟩) n cap) d'.toList ∧ w.grownBy (sortWorldK enc k w g 0 m d' os) (some g) := by
  obtain ⟨h1, ⟨hv, h0⟩ | ⟨g', cap', cur, hv, hb, hg, hn, hc, hs, ht⟩⟩ := h
  · cases hv
  · cases hv
    have hgl : g < w.heap.size := (Array.getElem?_eq_some_iff.1 hg).1
    refine ⟨⟨by rw [flat_length hk], .inr ⟨g, cap, Sort.putCells id 0 (Sort.flatK enc k d') cur, by simp [hd], hb, ?_, by simp [hd, hn], hc, by simp [Sort.putCells, hs], ?_⟩⟩, ?_⟩
    · show (Sort.grow (Sort.mapBlock (Sort.ahead w m) g _) os).heap[g]? = _
      rw [Sort.heap_grow_old _ _ (by simpa [Sort.mapBlock, Sort.ahead] using hgl)]
      simp [Sort.mapBlock, Sort.ahead, Array.getElem?_modify, hg, Sort.onCells]
    · apply List.ext_getElem?
      intro t
      by_cases htt : t < d'.toList.length * k
      · rw [List.getElem?_take_of_lt htt, Array.getElem?_toList]
        have ht2 : t < d'.size * k := by simpa using htt
        have ht3 : t < cur.size := by rw [hs]; have : l.length * k ≤ cap * k := Nat.mul_le_mul_right k hn
                                      rw [hd] at ht2; omega
        have k0 : 0 < k := by rcases Nat.eq_zero_or_pos k with h | h
                              · subst h; simp at ht2
                              · exact h
        have hj : t / k < d'.size := Nat.div_lt_of_lt_mul (by rw [Nat.mul_comm]; exact ht2)
        have hm : t % k < k := Nat.mod_lt _ k0
        have e1 : (d'.toList.flatMap enc)[t]? = (enc d'[t / k])[t % k]? := by
          have := flat_get hk d'.toList (t / k) (t % k) d'[t / k] (by simp [hj]) hm
          rw [show t / k * k + t % k = t by have := Nat.div_add_mod t k; rw [Nat.mul_comm] at this; omega] at this
          exact this
        rw [e1]
        have e2 := Sort.get_flatK enc k d' t ht2
        simp [Sort.putCells, ht3, ht2] at e2 ⊢
        rw [e2]
        simp [hj, hk, hm]
      · rw [List.getElem?_take_eq_none (by omega), List.getElem?_eq_none (by rw [flat_length hk]; omega)]
    · refine ⟨rfl, rfl, rfl, by simp [sortWorldK, Sort.putRowK, Sort.putRow, Sort.mapBlock, Sort.ahead], fun j hj hne => ?_⟩
      show (Sort.grow (Sort.mapBlock (Sort.ahead w m) g _) os).heap[j]? = _
      rw [Sort.heap_grow_old _ _ (by simpa [Sort.mapBlock, Sort.ahead] using hj)]
      have : g ≠ j := fun e => hne (by rw [e])
      simp [Sort.mapBlock, Sort.ahead, Array.getElem?_modify, this]

theorem flat_set {α : Type} {enc : α → List Value} {k : Nat} (hk : ∀ x, (enc x).length = k) {z : α} {i : Nat} {u : Value} (hi : i < k) : ∀ (l : List α) (j : Nat) (x : α), l[j]? = some x → enc z = (enc x).set i u → (l.set j z).flatMap enc = (l.flatMap enc).set (j * k + i) u
  | [], j, x, h, _ => by simp at h
  | y :: r, 0, x, h, hz => by
    obtain rfl : y = x := by simpa using h
    rw [List.set_cons_zero, List.flatMap_cons, List.flatMap_cons, hz, List.set_append_left _ _ (by rw [hk]; omega)]
    simp
  | y :: r, j + 1, x, h, hz => by
    rw [List.set_cons_succ, List.flatMap_cons, List.flatMap_cons, List.set_append_right _ _ (by rw [hk, Nat.add_mul]; omega), hk, show (j + 1) * k + i - k = j * k + i by rw [Nat.add_mul]; omega]
    rw [flat_set hk hi r j x (by simpa using h) hz]

/-- one cell of an element of an owned row is stored. -/
theorem OwnAt.set {α : Type} {base E k : Nat} {enc : α → List Value} (hk : ∀ x, (enc x).length = k) {w : World} {g n cap j i : Nat} {l : List α} {x z : α} {u : Value}
    (h : OwnAt base E k enc w (.slice (some ⟨g, 0, none⟩) n cap) l) (hj : l[j]? = some x) (hi : i < k) (hz : enc z = (enc x).set i u) :
    OwnAt base E k enc (w.setCell ⟨g, j * k + i, none⟩ u) (.slice (some ⟨g, 0, none⟩) n cap) (l.set j z) := by
  obtain ⟨h1, ⟨hv, h0⟩ | ⟨g', cap', cur, hv, hb, hg, hn, hc, hs, ht⟩⟩ := h
  · cases hv
  · cases hv
    have hjl : j < l.length := (List.getElem?_eq_some_iff.1 hj).1
    refine ⟨by rw [flat_length hk], .inr ⟨g, cap, cur.setIfInBounds (j * k + i) u, by simp, hb, ?_, by simpa using hn, hc, by simp [hs], ?_⟩⟩
    · simp [World.setCell, Array.getElem?_modify, hg]
    · rw [flat_set hk hi l j x hj hz, ← ht, List.length_set, Array.toList_setIfInBounds, List.take_set]

/-- what a slice's value looks like, and its cells. -/
theorem SliceAt.shape {α : Type} {k : Nat} {enc : α → List Value} {w : World} {v : Value} {l : List α} (h : SliceAt k enc w v l) :
    ∃ p cap, v = .slice p l.length cap ∧ l.length ≤ 9223372036854775807 ∧ ∀ (j : Nat) x, l[j]? = some x → ∃ b off, p = some ⟨b, off, none⟩ ∧ b < w.heap.size ∧ ∀ i y, (enc x)[i]? = some y → w.cell? ⟨b, off + j * k + i, none⟩ = some y := by
  rcases h with ⟨rfl, rfl⟩ | ⟨b, off, cap, rfl, hn, hb, hc⟩
  · exact ⟨none, 0, rfl, by simp, fun j x hj => by simp at hj⟩
  · exact ⟨_, cap, rfl, hn, fun j x hj => ⟨b, off, rfl, hb, hc j x hj⟩⟩
end Go.Proofs.YtaeebgljcdfolaaGreatDoor
