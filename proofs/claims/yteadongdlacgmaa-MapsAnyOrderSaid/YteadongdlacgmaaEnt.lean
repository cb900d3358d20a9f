/- A view's entries in memory; walks: the document's answer's text of them. -/
import Derived.Test.YteadongdlacgmaaMapsAt
import Derived.Test.YteadongdlacgmaaEntLaw
import Derived.Test.YteadongdlacgmaaRegion
namespace Go.Proofs.Yteadongdlacgmaa
open Go.RowKit

structure QRec where
  key : ByteArray
  v : QVal
  kids : Value
def encRec (e : QRec) : List Value := [.string e.key, .int .i64 e.v.kind, .int .i64 e.v.n, .float .f64 e.v.f, .string e.v.s, e.kids]
/-- v is a slice of entries: the list l; all its rows are in blocks of S. -/
inductive EntAt (S : Nat → Prop) (w : World) : Value → List QEntry → Prop
  | mk {v : Value} {es : List QRec} {l : List QEntry} (own : OwnAt 0 56 6 encRec w v es) (hS : ∀ b, v.ownBlock = some b → S b) (len : es.length = l.length)
      (hd : ∀ (i : Nat) (e : QRec) (q : QEntry), es[i]? = some e → l[i]? = some q → q.key = e.key ∧ q.v = e.v)
      (kids : ∀ (i : Nat) (e : QRec) (q : QEntry), es[i]? = some e → l[i]? = some q → EntAt S w e.kids q.kids) : EntAt S w v l

theorem EntAt.mono {S S' : Nat → Prop} {w : World} {v : Value} {l : List QEntry} (h : EntAt S w v l) (hs : ∀ b, S b → S' b) : EntAt S' w v l := by
  induction h with
  | mk own hS len hd kids ih => exact .mk own (fun b hb => hs b (hS b hb)) len hd ih
theorem EntAt.keep {S : Nat → Prop} {w w' : World} {v : Value} {l : List QEntry} (h : EntAt S w v l) (hb : ∀ b, S b → b < w.heap.size → w'.heap[b]? = w.heap[b]?) : EntAt S w' v l := by
  induction h with
  | mk own hS len hd kids ih => exact .mk (ownsRow_blk own fun b e => hb b (hS b e) (ownsRow_lt own b e)) hS len hd ih
theorem EntAt.lt {S : Nat → Prop} {w : World} {v : Value} {l : List QEntry} (h : EntAt S w v l) : EntAt (fun b => S b ∧ b < w.heap.size) w v l := by
  induction h with
  | mk own hS len hd kids ih => exact .mk own (fun b e => ⟨hS b e, ownsRow_lt own b e⟩) len hd ih
theorem EntAt.nil {S : Nat → Prop} {w : World} : EntAt S w (.slice none 0 0) [] := .mk (es := []) OwnAt.nil (fun b e => by cases e) rfl (by simp) (by simp)


set_option maxRecDepth 100000 in
set_option maxHeartbeats 400000 in
theorem entries_any {S : Nat → Prop} {w0 : World} {v : Value} {l : List QEntry} (h : EntAt S w0 v l) : ∀ (ahead : ByteArray) (w : World), (∀ b, S b → b < w0.heap.size → w.heap[b]? = w0.heap[b]?) → w0.heap.size ≤ w.heap.size → (entText ahead l).size ≤ 1000000000000000000 → entOk l = true →
    Calls Try.prog 50 #[v, .string ahead] w fun e w' => e = .returned (.string (entText ahead l)) ∧ Below w.heap.size w w' := by
  induction h with
  | mk own hS len hd kids ih =>
  intro ahead w hw hsz hsize hok
  rename_i v es l
  have hsl := OwnAt.slice (k := 6) (enc := encRec) (fun _ => rfl) own
  obtain ⟨q, ncap, hv, hl9, hcell⟩ := hsl.shape
  rw [len] at hv hl9
  subst hv
  go_enter Try.func50, Try.ntmps50
  go_wp2
  go_loopw [5, 6] (fun out i wr => ∃ j : Nat, j ≤ l.length ∧ i = .int .i64 j ∧ out = .string (entText ahead (l.take j)) ∧ Below w.heap.size w wr) (fun _ i _ => l.length - (intOf i).toNat)
  case atStart => exact ⟨0, Nat.zero_le _, rfl, by rw [List.take_zero, entText_nil]; rfl, by (repeat (first | exact Below.refl _ _ | assumption | refine Below.alloc ?_ (by simp <;> omega) _ | refine Below.drew ?_ | refine below_drewN ?_ _ | refine Below.setCell ?_ (by simp <;> omega) _ | refine belowTrans ?_ (by assumption)))⟩
  case round =>
    obtain ⟨j, hj, rfl, rfl, hb⟩ := hrel
    by_cases hlt : j < l.length
    · obtain ⟨x, hx⟩ : ∃ x, l[j]? = some x := ⟨l[j], by simp [hlt]⟩
      obtain ⟨e, he⟩ : ∃ e, es[j]? = some e := ⟨es[j]'(by omega), by simp [len, hlt]⟩
      obtain ⟨hk, hv⟩ := hd j e x he hx
      obtain ⟨b, off, rfl, hbl, hc⟩ := hcell j e he
      have hsz2 := entText_part ahead hx
      obtain ⟨ok1, ok2, ok3⟩ := entOk_at hok hx
      rw [hk] at ok1 hsz2
      rw [hv] at ok2 hsz2
      have hbS : S b := hS b rfl
      have hbw : w.heap[b]? = w0.heap[b]? := hw b hbS hbl
      have hwz : w.heap.size ≤ wr.heap.size := hb.size
      have hbr : wr.heap[b]? = w0.heap[b]? := (hb.block b (by omega)).trans hbw
      have cc : ∀ (i : Nat) (y : Value), (encRec e)[i]? = some y → ∀ s : BStep wr, s.val.cell? ⟨b, off + j * 6 + i, none⟩ = some y := fun i y hy =>
        BStep.cell (by show b < _; omega) ((World.cell?_of_block (w := w0) (a := ⟨b, off + j * 6 + i, none⟩) hbr).trans (hc i y hy))
      have c0 : ∀ s : BStep wr, s.val.cell? ⟨b, off + j * 6, none⟩ = some (.string e.key) := cc 0 _ rfl
      have c1 := cc 1 _ rfl
      have c2 := cc 2 _ rfl
      have c3 := cc 3 _ rfl
      have c4 := cc 4 _ rfl
      have c5 := cc 5 _ rfl
      have ht : l.take (j + 1) = l.take j ++ [x] := by rw [List.take_add_one, hx]; rfl
      have Hsn := Lib.hid (entText_snoc ahead (l.take j) x)
      rw [← ht, hk, hv] at Hsn
      have kq : ∀ s : BStep wr, Calls Try.prog 48 #[.string e.key] s.val fun e' w' => e' = .returned (.string (quoteB e.key)) ∧ Below s.val.heap.size s.val w' := fun s => quote_any _ _ ok1
      have kt : ∀ s : BStep wr, Calls Try.prog 47 #[.agg #[.int .i64 e.v.kind, .int .i64 e.v.n, .float .f64 e.v.f, .string e.v.s]] s.val fun e' w' => e' = .returned (.string e.v.text) ∧ Below s.val.heap.size s.val w' := fun s => valText_any _ _ ok2
      have ke : ∀ s : BStep wr, Calls Try.prog 50 #[e.kids, .string (ahead ++ ⟨#[32, 32]⟩)] s.val fun e' w' => e' = .returned (.string (entText (ahead ++ ⟨#[32, 32]⟩) x.kids)) ∧ Below s.val.heap.size s.val w' := fun s =>
        ih j e x he hx _ _ (fun b' hb1 hb2 => by rw [← hw b' hb1 hb2, ← hb.block b' (by omega)]; exact s.h.block b' (by omega)) (by have := s.h.size; omega) (show (entText (ahead ++ spB) x.kids).size ≤ _ by omega) ok3
      have hz1 : (entText ahead (l.take j)).size + ahead.size + 2 + (quoteB e.key).size + 1 + e.v.text.size + 1 + (entText (ahead ++ ⟨#[32, 32]⟩) x.kids).size ≤ 1000000000000000000 := by have : (entText (ahead ++ ⟨#[32, 32]⟩) x.kids).size = (entText (ahead ++ spB) x.kids).size := rfl; omega
      generalize hkt : entText (ahead ++ ⟨#[32, 32]⟩) x.kids = kt0 at ke hz1
      generalize hkq : quoteB e.key = kq0 at kq hz1
      generalize hkv : e.v.text = kv0 at kt hz1
      clear ht hsz2 ok1 ok2 ok3 cc hc hcell hsl ih kids hd
      have Hkt := Lib.hid hkt
      have Hkq := Lib.hid hkq
      have Hkv := Lib.hid hkv
      clear hkt hkq hkv
      generalize entText ahead (l.take j) = o0 at *
      go_wp2
      refine wp_region_b (by kernel_rfl) (by kernel_rfl) ?_
      repeat (first | go_big_quiet_skip | (go_big_quiet_want; go_big_quiet_op; first | go_big_quiet_on | go_big_quiet_call ((first | (go_at_call 48; exact callsB (kq _)) | (go_at_call 47; exact callsB (kt _)) | (go_at_call 50; exact callsB (ke _))))))
      refine wpQuiet_nil ?_
      intro W' hC'
      have hBW' := BStep.of hC'
      go_wp2
      go_roundw
      case rel =>
        refine ⟨j + 1, by omega, by go_num, ?_, belowTrans hb hBW'⟩
        rw [Hsn.out, Hkq.out, Hkv.out, show entText (ahead ++ spB) x.kids = kt0 from Hkt.out]
        rfl
      case measure => simp [intOf]; omega
    · obtain rfl : j = l.length := by omega
      rw [List.take_length]
      go_wp2
      go_ret
      exact ⟨rfl, hb⟩

theorem EntAt.under {S : Nat → Prop} {w w' : World} {v : Value} {l : List QEntry} (h : EntAt S w v l) (hb : Below w.heap.size w w') : EntAt S w' v l := h.keep fun b _ hlt => hb.block b hlt
theorem EntAt.text {S : Nat → Prop} {w : World} {v : Value} {l : List QEntry} (h : EntAt S w v l) (ahead : ByteArray) (h1 : (entText ahead l).size ≤ 1000000000000000000) (h2 : entOk l = true) :
    Calls Try.prog 50 #[v, .string ahead] w fun e w' => e = .returned (.string (entText ahead l)) ∧ Below w.heap.size w w' := entries_any h ahead w (fun _ _ _ => rfl) (Nat.le_refl _) h1 h2

set_option maxHeartbeats 400000 in
/-- quireref14.Text of a view without runs. -/
theorem viewText_any {S : Nat → Prop} {v : Value} {l : List QEntry} (w : World) (h : EntAt S w v l) (h1 : (entText noB l).size ≤ 1000000000000000000) (h2 : entOk l = true) :
    Calls Try.prog 23 #[.agg #[.slice none 0 0, v]] w fun e w' => e = .returned (.string (entText noB l)) ∧ Below w.heap.size w w' := by
  have hB : Below w.heap.size w (w.alloc (.cells #[.slice none 0 0, v] 75)) := by (repeat (first | exact Below.refl _ _ | assumption | refine Below.alloc ?_ (by simp <;> omega) _ | refine Below.drew ?_ | refine below_drewN ?_ _ | refine Below.setCell ?_ (by simp <;> omega) _ | refine belowTrans ?_ (by assumption)))
  go_enter Try.func23, Try.ntmps23
  go_wp2
  refine wp_loop_rounds 1 ?_
  rw [rounds_succ]
  go_wp2_with (go_at_call 50; refine (EntAt.text (h.under hB) _ h1 h2).mono ?_; rintro e w1 ⟨rfl, hb⟩)
  go_ret
  exact ⟨by rw [show ByteArray.mk #[] ++ entText noB l = entText noB l from noB_app _]; rfl, hB.trans (hb.mono hB.size)⟩
end Go.Proofs.Yteadongdlacgmaa
