/- Walks: the document's answer's texts of values (quireref2.Quote, Dec, Bits, Text) and of entries (quireref14.entries, Text). -/
import Derived.Test.YteadongdlacgmaaRef
import Derived.Test.YteadongdlacgmaaOwn
import Derived.Laws.AppendOwn
import Derived.Laws.BytesArg
import Derived.StillTailTactics
namespace Go.Proofs.Yteadongdlacgmaa
open Go.RowKit

def quoteL (l : List UInt8) : List UInt8 := l.flatMap fun c => if c = 34 ∨ c = 92 then [92, c] else [c]
def quoteB (s : ByteArray) : ByteArray := ⟨(34 :: (quoteL s.data.toList ++ [34])).toArray⟩
def encU8 (c : UInt8) : List Value := [.int .u8 (c.toNat : Int)]
theorem infoU8 : (Try.prog.info? 5).map (fun i => (i.zero, i.size, i.bytes)) = some (some (.int .u8 0), 1, 1) := by kernel_rfl

theorem quoteL_length : ∀ l : List UInt8, (quoteL l).length ≤ 2 * l.length
  | [] => by simp [quoteL]
  | c :: l => by
    have h := quoteL_length l
    have e : quoteL (c :: l) = (if c = 34 ∨ c = 92 then [92, c] else [c]) ++ quoteL l := by simp [quoteL]
    rw [e, List.length_append, List.length_cons]
    split <;> simp <;> omega
theorem quoteL_snoc (l : List UInt8) (c : UInt8) : quoteL (l ++ [c]) = quoteL l ++ (if c = 34 ∨ c = 92 then [92, c] else [c]) := by simp [quoteL]

theorem take_snocB (s : ByteArray) (k : Nat) (h : k < s.size) : s.data.toList.take (k + 1) = s.data.toList.take k ++ [s[k]] := by
  rw [List.take_succ_eq_append_getElem (by simpa using h)]; rfl
theorem u8_eq (c : UInt8) (n : UInt8) : ((c.toNat : Int) == (n.toNat : Int)) = decide (c = n) := by
  rw [Bool.eq_iff_iff]
  simp only [beq_iff_eq, decide_eq_true_eq]
  constructor
  · intro h; exact UInt8.toNat_inj.1 (by omega)
  · intro h; rw [h]
theorem encU8_flat : ∀ l : List UInt8, l.flatMap encU8 = (l.map fun c => (c.toNat : Int)).map (Value.int .u8)
  | [] => rfl
  | c :: l => by rw [List.flatMap_cons, encU8_flat l]; rfl
theorem strOf_bytes (l : List UInt8) : strOfNums (l.map fun c => (c.toNat : Int)) = ⟨l.toArray⟩ := by
  apply ByteArray.ext
  apply Array.toList_inj.1
  rw [show (strOfNums (l.map fun c => (c.toNat : Int))).data.toList = (l.map fun c => (c.toNat : Int)).map (fun n => UInt8.ofNat n.toNat) by simp [strOfNums], List.map_map]
  conv => rhs; rw [List.toList_toArray, ← List.map_id l]
  apply List.map_congr_left
  intro x _
  simp
/-- string(b) of an owned row of bytes. -/
theorem ownU8_string {w : World} {base : Nat} {v : Value} {l : List UInt8} (h : OwnAt base 5 1 encU8 w v l) : (convert 23 9 v).run Try.prog w = .ok (.string ⟨l.toArray⟩) w := by
  obtain ⟨h1, ⟨rfl, h0⟩ | ⟨g, cap, cur, rfl, hg, hcur, hn, hc, hsz, ht⟩⟩ := h
  · have : l = [] := List.eq_nil_of_length_eq_zero h0
    subst this
    exact run_convert_bytes_nil w 23 5 Try.underlying23 Try.underlying5 0 0 _ Try.underlying9
  · rw [run_convert_bytes_arg w 23 5 Try.underlying23 Try.underlying5 g 0 l.length cap (l.map fun c => (c.toNat : Int)) (by simp) (fun i hi => ?_) _ Try.underlying9, strOf_bytes]
    rw [encU8_flat] at ht
    have h3 : (cur.toList.take (l.length * 1))[i]? = some (Value.int .u8 (l[i].toNat : Int)) := by rw [ht]; simp [hi]
    rw [List.getElem?_take_of_lt (by omega), Array.getElem?_toList] at h3
    simp [World.cell?, hcur, h3, List.getD, hi]

theorem own_first (w : World) : OwnAt w.heap.size 5 1 encU8 (w.alloc (.cells #[.int .u8 34] 5)) (.slice (some ⟨w.heap.size, 0, none⟩) 1 1) (34 :: quoteL ([] : List UInt8)) := by
  refine ⟨by simp [quoteL, encU8], .inr ⟨w.heap.size, 1, _, by simp [quoteL], Nat.le_refl _, heap_alloc_new w _, by simp [quoteL], by simp [maxLen], by simp, ?_⟩⟩
  simp [quoteL, encU8]

set_option maxRecDepth 100000 in
set_option maxHeartbeats 400000 in
theorem quote_any (s : ByteArray) (w : World) (hs : s.size ≤ 1000000) :
    Calls Try.prog 48 #[.string s] w fun e w' => e = .returned (.string (quoteB s)) ∧ Below w.heap.size w w' := by
  obtain ⟨i0, hi, hz0, hz1, hz2⟩ := info_parts infoU8
  go_enter Try.func48, Try.ntmps48
  go_wp2
  go_loopw [3, 4] (fun v i wr => ∃ k : Nat, k ≤ s.size ∧ i = .int .i64 k ∧ OwnAt w.heap.size 5 1 encU8 wr v (34 :: quoteL (s.data.toList.take k)) ∧ Below w.heap.size w wr) (fun _ i _ => s.size - (intOf i).toNat)
  case atStart => exact ⟨0, Nat.zero_le _, rfl, own_first w, by (repeat (first | exact Below.refl _ _ | assumption | refine Below.alloc ?_ (by simp <;> omega) _ | refine Below.drew ?_ | refine below_drewN ?_ _ | refine Below.setCell ?_ (by simp <;> omega) _ | refine belowTrans ?_ (by assumption)))⟩
  case round =>
    obtain ⟨k, hk, rfl, hown, hb⟩ := hrel
    have hlen : (34 :: quoteL (s.data.toList.take k)).length ≤ 2 * k + 1 := by
      have h1 := quoteL_length (s.data.toList.take k)
      have h2 : (s.data.toList.take k).length ≤ k := List.length_take_le _ _
      simp only [List.length_cons]; omega
    by_cases hlt : k < s.size
    · have hsn := quoteL_snoc (s.data.toList.take k) s[k]
      rw [← take_snocB s k hlt] at hsn
      cases h1 : decide (s[k] = 34)
      · cases h2 : decide (s[k] = 92)
        · have t1 : ((s[k].toNat : Int) == 34) = false := by rw [← h1]; exact u8_eq s[k] 34
          have t2 : ((s[k].toNat : Int) == 92) = false := by rw [← h2]; exact u8_eq s[k] 92
          have Hsn : Hid (quoteL (s.data.toList.take (k + 1)) = quoteL (s.data.toList.take k) ++ [s[k]]) := Lib.hid (by rw [hsn, if_neg (by simp at h1 h2; simp [h1, h2])])
          clear hsn h1 h2
          have hz : w.heap.size ≤ wr.heap.size := hb.size
          go_wp2_with (at_builtin; refine wpList_append_own _ rfl _ _ 23 rfl w.heap.size 5 i0 (.int .u8 0) 1 1 Try.underlying23 hi hz0 hz1 hz2 rfl (by decide) _ _ _ rfl (hown.alloc _) ⟨wr.heap.size, 0, none⟩ 1 1 [.int .u8 (s[k].toNat : Int)] rfl rfl ?a1 ?a2 ?a3 ?a4 ?a5 ?_)
          case a1 => exact cell_one_new _ _ _
          case a2 => simp [Value.oneCell']
          case a3 => unfold maxLen; simp only [List.length_cons] at hlen ⊢; omega
          case a4 => simp only [List.length_cons] at hlen ⊢; omega
          case a5 => simp; omega
          intro v' w1 hown' hgrow hne
          have hb' := hb
          have hown0 : wr.ownsRow w.heap.size _ _ _ _ _ := hown
          go_wp2
          go_roundw
          case rel =>
            refine ⟨k + 1, by omega, by go_num, ?_, ?_⟩
            · rw [Hsn.out]
              unfold OwnAt
              simpa [encU8] using hown'
            · exact ((show Below w.heap.size w wr from hb').alloc (by omega) _).grown hgrow (by simp; omega) (fun j e => (hown0.lt j e).1)
          case measure => simp [intOf]; omega
        · have t1 : ((s[k].toNat : Int) == 34) = false := by rw [← h1]; exact u8_eq s[k] 34
          have t2 : ((s[k].toNat : Int) == 92) = true := by rw [← h2]; exact u8_eq s[k] 92
          have Hsn : Hid (quoteL (s.data.toList.take (k + 1)) = quoteL (s.data.toList.take k) ++ [92, s[k]]) := Lib.hid (by rw [hsn, if_pos (by simp at h2; simp [h2])])
          clear hsn h1 h2
          have hz : w.heap.size ≤ wr.heap.size := hb.size
          go_wp2_with (at_builtin; refine wpList_append_own _ rfl _ _ 23 rfl w.heap.size 5 i0 (.int .u8 0) 1 1 Try.underlying23 hi hz0 hz1 hz2 rfl (by decide) _ _ _ rfl (hown.alloc _) ⟨wr.heap.size, 0, none⟩ 1 1 [.int .u8 92] rfl rfl ?b1 ?b2 ?b3 ?b4 ?b5 ?_)
          case b1 => exact cell_one_new _ _ _
          case b2 => simp [Value.oneCell']
          case b3 => unfold maxLen; simp only [List.length_cons] at hlen ⊢; omega
          case b4 => simp only [List.length_cons] at hlen ⊢; omega
          case b5 => simp; omega
          intro v1 w1 hown1 hgrow1 hne1
          have hown0 : w1.ownsRow w.heap.size 5 1 v1 _ _ := hown1
          have hb' : Below w.heap.size w w1 := (hb.alloc (by omega) _).grown hgrow1 (by simp; omega) (fun j e => ((show wr.ownsRow w.heap.size _ _ _ _ _ from hown).lt j e).1)
          have hz1' : w.heap.size ≤ w1.heap.size := hb'.size
          go_wp2_with (at_builtin; refine wpList_append_own _ rfl _ _ 23 rfl w.heap.size 5 i0 (.int .u8 0) 1 1 Try.underlying23 hi hz0 hz1 hz2 rfl (by decide) _ _ _ rfl (hown1.alloc _) ⟨w1.heap.size, 0, none⟩ 1 1 [.int .u8 (s[k].toNat : Int)] rfl rfl ?c1 ?c2 ?c3 ?c4 ?c5 ?_)
          case c1 => exact cell_one_new _ _ _
          case c2 => simp [Value.oneCell']
          case c3 => unfold maxLen; simp only [List.length_cons] at hlen ⊢; omega
          case c4 => simp only [List.length_cons] at hlen ⊢; omega
          case c5 => simp; omega
          intro v' w2 hown' hgrow hne
          go_wp2
          go_roundw
          case rel =>
            refine ⟨k + 1, by omega, by go_num, ?_, ?_⟩
            · rw [Hsn.out]
              unfold OwnAt
              simpa [encU8] using hown'
            · exact ((show Below w.heap.size w w1 from hb').alloc (by omega) _).grown hgrow (by simp; omega) (fun j e => (hown0.lt j e).1)
          case measure => simp [intOf]; omega
      · have t1 : ((s[k].toNat : Int) == 34) = true := by rw [← h1]; exact u8_eq s[k] 34
        have Hsn : Hid (quoteL (s.data.toList.take (k + 1)) = quoteL (s.data.toList.take k) ++ [92, s[k]]) := Lib.hid (by rw [hsn, if_pos (by simp at h1; simp [h1])])
        clear hsn h1
        have hz : w.heap.size ≤ wr.heap.size := hb.size
        go_wp2_with (at_builtin; refine wpList_append_own _ rfl _ _ 23 rfl w.heap.size 5 i0 (.int .u8 0) 1 1 Try.underlying23 hi hz0 hz1 hz2 rfl (by decide) _ _ _ rfl (hown.alloc _) ⟨wr.heap.size, 0, none⟩ 1 1 [.int .u8 92] rfl rfl ?d1 ?d2 ?d3 ?d4 ?d5 ?_)
        case d1 => exact cell_one_new _ _ _
        case d2 => simp [Value.oneCell']
        case d3 => unfold maxLen; simp only [List.length_cons] at hlen ⊢; omega
        case d4 => simp only [List.length_cons] at hlen ⊢; omega
        case d5 => simp; omega
        intro v1 w1 hown1 hgrow1 hne1
        have hown0 : w1.ownsRow w.heap.size 5 1 v1 _ _ := hown1
        have hb' : Below w.heap.size w w1 := (hb.alloc (by omega) _).grown hgrow1 (by simp; omega) (fun j e => ((show wr.ownsRow w.heap.size _ _ _ _ _ from hown).lt j e).1)
        have hz1' : w.heap.size ≤ w1.heap.size := hb'.size
        go_wp2_with (at_builtin; refine wpList_append_own _ rfl _ _ 23 rfl w.heap.size 5 i0 (.int .u8 0) 1 1 Try.underlying23 hi hz0 hz1 hz2 rfl (by decide) _ _ _ rfl (hown1.alloc _) ⟨w1.heap.size, 0, none⟩ 1 1 [.int .u8 (s[k].toNat : Int)] rfl rfl ?e1 ?e2 ?e3 ?e4 ?e5 ?_)
        case e1 => exact cell_one_new _ _ _
        case e2 => simp [Value.oneCell']
        case e3 => unfold maxLen; simp only [List.length_cons] at hlen ⊢; omega
        case e4 => simp only [List.length_cons] at hlen ⊢; omega
        case e5 => simp; omega
        intro v' w2 hown' hgrow hne
        go_wp2
        go_roundw
        case rel =>
          refine ⟨k + 1, by omega, by go_num, ?_, ?_⟩
          · rw [Hsn.out]
            unfold OwnAt
            simpa [encU8] using hown'
          · exact ((show Below w.heap.size w w1 from hb').alloc (by omega) _).grown hgrow (by simp; omega) (fun j e => (hown0.lt j e).1)
        case measure => simp [intOf]; omega
    · obtain rfl : k = s.size := by omega
      have Hq : Hid (quoteL (s.data.toList.take s.size) = quoteL s.data.toList) := Lib.hid (by rw [List.take_of_length_le]; simp)
      have hz : w.heap.size ≤ wr.heap.size := hb.size
      have hconv := @ownU8_string
      go_wp2_with (at_builtin; refine wpList_append_own _ rfl _ _ 23 rfl w.heap.size 5 i0 (.int .u8 0) 1 1 Try.underlying23 hi hz0 hz1 hz2 rfl (by decide) _ _ _ rfl (hown.alloc _) ⟨wr.heap.size, 0, none⟩ 1 1 [.int .u8 34] rfl rfl ?g1 ?g2 ?g3 ?g4 ?g5 ?_)
      case g1 => exact cell_one_new _ _ _
      case g2 => simp [Value.oneCell']
      case g3 => unfold maxLen; simp only [List.length_cons] at hlen ⊢; omega
      case g4 => simp only [List.length_cons] at hlen ⊢; omega
      case g5 => simp; omega
      intro v' w1 hown' hgrow hne
      have hb1 : Below w.heap.size w w1 := (hb.alloc (by omega) _).grown hgrow (by simp; omega) (fun j e => ((show wr.ownsRow w.heap.size _ _ _ _ _ from hown).lt j e).1)
      have hcv := ownU8_string (w := w1) (base := w.heap.size) (v := v') (l := 34 :: (quoteL (s.data.toList.take s.size) ++ [34])) (by unfold OwnAt; simpa [encU8] using hown')
      rw [Hq.out] at hcv
      clear hown' hgrow hne hown hconv
      go_wp2
      go_ret
      exact ⟨rfl, hb1⟩

def decL : Nat → Nat → List UInt8 → List UInt8
  | 0, _, out => out
  | f + 1, u, out => if u / 10 = 0 then UInt8.ofNat (48 + u % 10) :: out else decL f (u / 10) (UInt8.ofNat (48 + u % 10) :: out)
def decB (n : Nat) : ByteArray := ⟨(decL 20 n []).toArray⟩
def digits10 : ByteArray := ⟨#[48, 49, 50, 51, 52, 53, 54, 55, 56, 57]⟩
theorem bytes_cons (c : UInt8) (l : List UInt8) : (⟨#[c]⟩ : ByteArray) ++ ⟨l.toArray⟩ = ⟨(c :: l).toArray⟩ := by
  apply ByteArray.ext
  simp
theorem bytes_nil_app (s : ByteArray) : (⟨#[]⟩ : ByteArray) ++ s = s := by
  apply ByteArray.ext
  simp
theorem digit_at : ∀ d : Nat, d < 10 → digits10.extract d (d + 1) = ⟨#[UInt8.ofNat (48 + d)]⟩ := by decide

set_option maxRecDepth 100000 in
set_option maxHeartbeats 400000 in
theorem dec_any (n : Nat) (w : World) (hn : n < 9223372036854775808) :
    Calls Try.prog 64 #[.int .i64 (n : Int)] w fun e w' => e = .returned (.string (decB n)) ∧ Below w.heap.size w w' := by
  have hn0 : ¬ ((n : Int) < 0) := by omega
  go_enter Try.func64, Try.ntmps64
  go_wp2
  go_loop [3, 5] (fun u out => ∃ (f m : Nat) (l : List UInt8), u = .int .u64 m ∧ out = .string ⟨l.toArray⟩ ∧ m < 9223372036854775808 ∧ m < 10 ^ (f + 1) ∧ l.length + (f + 1) = 20 ∧ decL (f + 1) m l = decL 20 n []) (fun u _ => (intOf u).toNat)
  case atStart => exact ⟨19, n, [], rfl, rfl, hn, Nat.lt_of_lt_of_le hn (by decide), rfl, rfl⟩
  case round =>
    obtain ⟨f, m, l, rfl, rfl, hm, hmf, hlf, hd⟩ := hrel
    have Hd := Lib.hid hd
    have Hl := Lib.hid hlf
    have Hlf : l.length ≤ 20 := by omega
    clear hd hlf
    have Hx : Hid ((⟨#[48, 49, 50, 51, 52, 53, 54, 55, 56, 57]⟩ : ByteArray).extract (m % 10) (m % 10 + 1) ++ ⟨l.toArray⟩ = ⟨(UInt8.ofNat (48 + m % 10) :: l).toArray⟩) := Lib.hid (by
      rw [show (⟨#[48, 49, 50, 51, 52, 53, 54, 55, 56, 57]⟩ : ByteArray) = digits10 from rfl, digit_at _ (by omega)]
      exact bytes_cons _ _)
    by_cases h0 : m / 10 = 0
    · have Hr : Hid (decB n = ⟨(UInt8.ofNat (48 + m % 10) :: l).toArray⟩) := Lib.hid (by
        unfold decB
        rw [← Hd.out]
        rw [decL, if_pos h0])
      go_wp2
      go_ret
      exact ⟨by rw [Hr.out, Hx.out, bytes_nil_app]; rfl, Below.refl _ _⟩
    · go_wp2
      go_round
      case rel =>
        cases f with
        | zero => simp at hmf; omega
        | succ f =>
          refine ⟨f, m / 10, UInt8.ofNat (48 + m % 10) :: l, by go_num, by rw [Hx.out], by omega, ?_, ?_, ?_⟩
          · rw [Nat.pow_succ] at hmf; omega
          · have := Hl.out; simp only [List.length_cons]; omega
          · rw [← Hd.out]; conv => rhs; rw [decL, if_neg h0]
      case measure => simp [intOf]; omega

def mapB : ByteArray := ⟨#[109, 97, 112]⟩
/-- the values whose texts are told here: whole numbers from 0 on, maps. -/
def QVal.plainB (v : QVal) : Bool := (decide (v.kind = 2) && decide (0 ≤ v.n) && decide (v.n < 9223372036854775808)) || decide (v.kind = 5)
def QVal.text (v : QVal) : ByteArray := if v.kind = 2 then decB v.n.toNat else mapB

set_option maxHeartbeats 400000 in
theorem valText_int (n f : Nat) (s : ByteArray) (w : World) (hn : n < 9223372036854775808) :
    Calls Try.prog 47 #[.agg #[.int .i64 2, .int .i64 n, .float .f64 f, .string s]] w fun e w' => e = .returned (.string (decB n)) ∧ Below w.heap.size w w' := by
  go_enter Try.func47, Try.ntmps47
  go_wp2_with (go_at_call 64; refine (dec_any n _ hn).mono ?_; rintro e w1 ⟨rfl, hb⟩)
  go_ret
  exact ⟨rfl, belowTrans (by (repeat (first | exact Below.refl _ _ | assumption | refine Below.alloc ?_ (by simp <;> omega) _ | refine Below.drew ?_ | refine below_drewN ?_ _ | refine Below.setCell ?_ (by simp <;> omega) _ | refine belowTrans ?_ (by assumption)))) hb⟩
set_option maxHeartbeats 400000 in
theorem valText_map (n : Int) (f : Nat) (s : ByteArray) (w : World) :
    Calls Try.prog 47 #[.agg #[.int .i64 5, .int .i64 n, .float .f64 f, .string s]] w fun e w' => e = .returned (.string mapB) ∧ Below w.heap.size w w' := by
  go_enter Try.func47, Try.ntmps47
  go_wp2
  go_ret
  exact ⟨rfl, by (repeat (first | exact Below.refl _ _ | assumption | refine Below.alloc ?_ (by simp <;> omega) _ | refine Below.drew ?_ | refine below_drewN ?_ _ | refine Below.setCell ?_ (by simp <;> omega) _ | refine belowTrans ?_ (by assumption)))⟩
theorem valText_any (v : QVal) (w : World) (hv : v.plainB = true) :
    Calls Try.prog 47 #[.agg #[.int .i64 v.kind, .int .i64 v.n, .float .f64 v.f, .string v.s]] w fun e w' => e = .returned (.string v.text) ∧ Below w.heap.size w w' := by
  obtain ⟨k, n, f, s⟩ := v
  simp only [QVal.plainB, Bool.or_eq_true, Bool.and_eq_true, decide_eq_true_eq] at hv
  rcases hv with ⟨⟨rfl, h0⟩, h1⟩ | rfl
  · obtain ⟨m, rfl⟩ := Int.eq_ofNat_of_zero_le h0
    exact valText_int m f s w (by omega)
  · exact valText_map n f s w
end Go.Proofs.Yteadongdlacgmaa
