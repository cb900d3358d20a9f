/- A *store.Store in memory: its known texts, those that wait, their clocks. Walks: store.New, known. -/
import Derived.Test.YtaeebgljcdfolaaGreatDoorM16
import Derived.Test.YtaeebgljcdfolaaGreatDoorM19
import Derived.Test.YtaeebgljcdfolaaGreatDoorM09
import Derived.Test.YtaeebgljcdfolaaGreatDoorM11
namespace Go.Proofs.YtaeebgljcdfolaaGreatDoor
open Go.RowKit Go.Lib Go.MapKept

def u64V (c : Int) : Value := .int .u64 c
theorem findNow_u64 (x : Int) : ∀ (es : List MapEntry) (l : List (Int × Value)) (i : Nat), es.map (fun e => (e.key, e.val)) = l.map (fun p => (u64V p.1, p.2)) → Instr.findNow (.int .u64) (u64V x) es i = some (findIx x l i)
  | [], [], _, _ => rfl
  | [], _ :: _, _, h => by simp at h
  | _ :: _, [], _, h => by simp at h
  | e :: es, p :: l, i, h => by
    simp only [List.map_cons, List.cons.injEq, Prod.mk.injEq] at h
    obtain ⟨⟨h1, h2⟩, h3⟩ := h
    unfold Instr.findNow findIx
    rw [h1]
    simp only [u64V, Instr.sameNow]
    by_cases hx : p.1 = x
    · have : (x == p.1) = true := by simp [hx]
      rw [this]
      simp [hx, h2]
    · have : (x == p.1) = false := by simp; exact fun e => hx e.symm
      rw [this]
      simp only [hx, if_false]
      exact findNow_u64 x es l (i + 1) h3
theorem u64Key : KeyQ Tryz.prog 26 u64V where
  inj h := by cases h; rfl
  check w em x := run_checkKey (d := .int .u64) (k := u64V x) (by kernel_rfl) rfl em 9999
  find w x es l h := run_findKey (d := .int .u64) (by kernel_rfl) (findNow_u64 x es l 0 h)
  stays w x := run_keyThatStays (d := .int .u64) (k := u64V x) rfl

/-- a client's known text, as the one operation that it is. -/
def kOp (c : Int) (t : ByteArray) : QOp := tOp ⟨c, 1⟩ idZero idZero t
def kfind (K : List (Int × ByteArray)) (c : Int) : Option ByteArray := (K.find? fun p => decide (p.1 = c)).map (·.2)
/-- how many of a client's clocks are known. -/
def kcount (K : List (Int × ByteArray)) (c : Int) : Int := match kfind K c with
  | some t => (runesB t).length
  | none => 0
structure SLay where
  m : Nat
  row : Int → Value
  wv : Value
  hv : Value
structure StoreAt (w : World) (sb : Nat) (L : SLay) (K : List (Int × ByteArray)) (W : List QOp) (H : List QRng) : Prop where
  st : w.heap[sb]? = some (.cells #[.map (some L.m), L.wv, L.hv] 67 (0, 0))
  map : MapK u64V w L.m (K.map fun p => (p.1, L.row p.1))
  keys : (K.map (·.1)).Nodup
  rows : ∀ p ∈ K, OwnAt 0 35 22 encOp w (L.row p.1) [kOp p.1 p.2]
  waits : OwnAt 0 35 22 encOp w L.wv W
  held : OwnAt 0 72 3 encRng w L.hv H
  rsep : ∀ p ∈ K, ∀ q ∈ K, (L.row p.1).ownBlock = (L.row q.1).ownBlock → p.1 = q.1
  wsep : ∀ p ∈ K, (L.row p.1).ownBlock ≠ L.wv.ownBlock
def SFoot (sb : Nat) (L : SLay) (K : List (Int × ByteArray)) (b : Nat) : Prop :=
  b = sb ∨ b = L.m ∨ (∃ p ∈ K, (L.row p.1).ownBlock = some b) ∨ L.wv.ownBlock = some b ∨ L.hv.ownBlock = some b
def StoreIn (w : World) (F : Nat → Prop) (sb : Nat) (K : List (Int × ByteArray)) (W : List QOp) (H : List QRng) : Prop := ∃ L, StoreAt w sb L K W H ∧ ∀ b, SFoot sb L K b → F b

theorem StoreAt.keep {w w' : World} {sb : Nat} {L : SLay} {K : List (Int × ByteArray)} {W : List QOp} {H : List QRng} (h : StoreAt w sb L K W H) (hb : ∀ b, SFoot sb L K b → w'.heap[b]? = w.heap[b]?) : StoreAt w' sb L K W H where
  st := (hb sb (.inl rfl)).trans h.st
  map := h.map.blk (hb _ (.inr (.inl rfl)))
  keys := h.keys
  rows p hp := ownsRow_blk (h.rows p hp) fun b e => hb b (.inr (.inr (.inl ⟨p, hp, e⟩)))
  waits := ownsRow_blk h.waits fun b e => hb b (.inr (.inr (.inr (.inl e))))
  held := ownsRow_blk h.held fun b e => hb b (.inr (.inr (.inr (.inr e))))
  rsep := h.rsep
  wsep := h.wsep
theorem StoreAt.foot_lt {w : World} {sb : Nat} {L : SLay} {K : List (Int × ByteArray)} {W : List QOp} {H : List QRng} (h : StoreAt w sb L K W H) : ∀ b, SFoot sb L K b → b < w.heap.size := by
  rintro b (rfl | rfl | ⟨p, hp, e⟩ | e | e)
  · exact (Array.getElem?_eq_some_iff.1 h.st).1
  · exact h.map.lt
  · exact ownsRow_lt (h.rows p hp) b e
  · exact ownsRow_lt h.waits b e
  · exact ownsRow_lt h.held b e
theorem StoreAt.below {w w' : World} {sb : Nat} {L : SLay} {K : List (Int × ByteArray)} {W : List QOp} {H : List QRng} (h : StoreAt w sb L K W H) (hb : Below w.heap.size w w') : StoreAt w' sb L K W H := h.keep fun b hf => hb.block b (h.foot_lt b hf)
theorem StoreIn.below {w w' : World} {F : Nat → Prop} {sb : Nat} {K : List (Int × ByteArray)} {W : List QOp} {H : List QRng} (h : StoreIn w F sb K W H) (hb : Below w.heap.size w w') : StoreIn w' F sb K W H := by
  obtain ⟨L, h1, h2⟩ := h
  exact ⟨L, h1.below hb, h2⟩
theorem StoreIn.mods {w w' : World} {F G : Nat → Prop} {sb : Nat} {K : List (Int × ByteArray)} {W : List QOp} {H : List QRng} (h : StoreIn w F sb K W H) (hm : Mods G w w') (hg : ∀ b, F b → ¬ G b) : StoreIn w' F sb K W H := by
  obtain ⟨L, h1, h2⟩ := h
  exact ⟨L, h1.keep fun b hf => hm.block b (h1.foot_lt b hf) (hg b (h2 b hf)), h2⟩

theorem look_kfind (K : List (Int × ByteArray)) (f : Int → Value) (c : Int) : look (K.map fun p => (p.1, f p.1)) c = (kfind K c).map fun _ => f c := by
  unfold look kfind
  rw [List.find?_map, Option.map_map, Option.map_map]
  have : ((fun p : Int × Value => decide (p.1 = c)) ∘ fun p : Int × ByteArray => (p.1, f p.1)) = fun p : Int × ByteArray => decide (p.1 = c) := rfl
  rw [this]
  cases h : K.find? fun p => decide (p.1 = c) with
  | none => rfl
  | some p =>
    have := List.find?_some h
    simp only [decide_eq_true_eq] at this
    simp [this]
theorem kfind_mem {K : List (Int × ByteArray)} {c : Int} {t : ByteArray} (h : kfind K c = some t) : (c, t) ∈ K := by
  unfold kfind at h
  cases h1 : K.find? fun p => decide (p.1 = c) with
  | none => rw [h1] at h; cases h
  | some p =>
    rw [h1] at h
    have h2 := List.find?_some h1
    simp only [decide_eq_true_eq] at h2
    have h3 := List.mem_of_find?_eq_some h1
    obtain ⟨a, b⟩ := p
    simp only [Option.map_some, Option.some.injEq] at h
    subst h h2
    exact h3
theorem zeroRow (w : World) : (zeroValue 25).run Tryz.prog w = .ok (.slice none 0 0) w := by kernel_rfl
theorem StoreAt.lookRow {w : World} {sb : Nat} {L : SLay} {K : List (Int × ByteArray)} {W : List QOp} {H : List QRng} (h : StoreAt w sb L K W H) (c : Int) :
    (Instr.lookup 64 (.map (some L.m)) (.int .u64 c) false).run Tryz.prog w = .ok (((kfind K c).map fun _ => L.row c).getD (.slice none 0 0)) w := by
  have := run_look u64Key (T := 64) (E := 25) (by kernel_rfl) zeroRow h.map c false
  rw [look_kfind] at this
  exact this
theorem OwnAt.one {base : Nat} {w : World} {v : Value} {o : QOp} (h : OwnAt base 35 22 encOp w v [o]) : ∃ b cap, v = .slice (some ⟨b, 0, none⟩) 1 cap ∧ b < w.heap.size ∧ OpCells w b 0 o ∧ ∀ n, w.frozen? ⟨b, n, none⟩ = false := by
  rcases h.2 with ⟨_, h0⟩ | ⟨g, cap, cur, hv, hg, hcur, hn, hm, hc, ht⟩
  · simp at h0
  · refine ⟨g, cap, hv, (Array.getElem?_eq_some_iff.1 hcur).1, fun i y hy => ?_, fun n => by simp [World.frozen?, hcur]⟩
    have hi : i < 22 := (List.getElem?_eq_some_iff.1 hy).1
    rw [World.cell?, hcur]
    simp only [Option.isSome_none, Bool.false_eq_true, if_false, Nat.zero_add]
    have h2 : ([o].flatMap encOp)[i]? = some y := by simpa using hy
    rw [← ht, List.getElem?_take, if_pos (by simp; omega), Array.getElem?_toList] at h2
    exact h2

theorem field_rng2 (x y z : Int) (w : World) : (Instr.field 72 (.agg #[.int .u64 x, .int .u64 y, .int .u64 z]) 2).run Tryz.prog w = .ok (.int .u64 z) w := by kernel_rfl
/-- the texts are no greater than texts may be. -/
def KSmall (K : List (Int × ByteArray)) : Prop := ∀ p ∈ K, p.2.size ≤ 1000000000000
set_option maxRecDepth 100000 in
set_option maxHeartbeats 4000000 in
theorem known_any (F : Nat → Prop) (sb : Nat) (K : List (Int × ByteArray)) (W : List QOp) (H : List QRng) (c : Int) (w : World) (h : StoreIn w F sb K W H) (hK : KSmall K) (hT : Tabs w) :
    Calls Tryz.prog 33 #[.pointer (some ⟨sb, 0, none⟩), .int .u64 c] w fun e w' => e = .returned (.int .u64 (kcount K c)) ∧ Below w.heap.size w w' := by
  obtain ⟨L, hS, _⟩ := h
  have hl := hS.lookRow c
  have s0 : w.cell? ⟨sb, 0, none⟩ = some (.map (some L.m)) := by simp [World.cell?, hS.st]
  unfold kcount
  cases hf : kfind K c with
  | none =>
    rw [hf] at hl
    replace hl : (Instr.lookup 64 (.map (some L.m)) (.int .u64 c) false).run Tryz.prog w = .ok (.slice none 0 0) w := hl
    clear hf hS
    go_enter Tryz.func33, Tryz.ntmps33
    go_wp2_with fail
    go_ret
    exact ⟨rfl, Below.refl _ _⟩
  | some t =>
    rw [hf] at hl
    have hm := kfind_mem hf
    obtain ⟨b, cap, hv, hb, hoc, _⟩ := OwnAt.one (hS.rows _ hm)
    replace hl : (Instr.lookup 64 (.map (some L.m)) (.int .u64 c) false).run Tryz.prog w = .ok (.slice (some ⟨b, 0, none⟩) 1 cap) w := by rw [hl, ← hv]; rfl
    have hs : t.size ≤ 1000000000000 := hK _ hm
    have hle := runesB_le t
    have hr := opsRange_any (kOp c t) w (by show t.size < _; omega) (by show (0 : Int) ≤ 1; omega) (by rw [kOp, tOp_len]; show (1 : Int) + _ < _; omega) hT
    rw [kOp, tOp_rng] at hr
    unfold tRng at hr
    have hload := load_op hoc
    dsimp only at hr hload ⊢
    have hn0 : 0 ≤ ((runesB t).length : Int) := by omega
    have hn1 : ((runesB t).length : Int) ≤ 1000000000000 := by omega
    generalize ((runesB t).length : Int) = N at hr hn0 hn1 ⊢
    clear hf hS hm hv hoc
    go_enter Tryz.func33, Tryz.ntmps33
    go_wp2_with (refine wpList_load_eq (T := 35) (v := opV (kOp c t)) rfl rfl rfl hload ?_)
    refine hr.mono ?_
    rintro e w1 ⟨rfl, hb1⟩
    have hfld := field_rng2 c 1 (1 + N)
    have hN1 : 1 + N - 1 = N := by omega
    go_wp2_with fail
    go_ret
    exact ⟨by simp, hb1⟩
end Go.Proofs.YtaeebgljcdfolaaGreatDoor
/- As XFlow3: reads, then some in one order, then two of which either may be first. -/
namespace Go.Proofs.YtaeebgljcdfolaaGreatDoor
open Go.RowKit
section
variable {P : Program} {ops : Array Oper} {md : Region.Mode} {S : World → Prop} {Q : Exit → Act → World → Prop}

def wpSeqT (P : Program) (ops : Array Oper) (Q : Exit → Act → World → Prop) (S : World → Prop) (n : Nat) (K : Act → World → Prop) : List Nat → Act → World → Prop
  | [], a, w => K a w
  | i :: ms, a, w => wpOp P ops Q i (fun a' w' => (i < n → S w') ∧ wpSeqT P ops Q S n K ms a' w') a w
def preMB (md : Region.Mode) (ops : Array Oper) : List Nat → Array Bool → Bool
  | [], _ => true
  | i :: ms, listed => decide (Region.ready md ops listed = [i]) && preMB md ops ms (listed.setIfInBounds i true)
theorem wpAnyF_pre {n fuel : Nat} {K : Act → World → Prop} : ∀ (ms : List Nat) (listed : Array Bool) (a : Act) (w : World), preMB md ops ms listed = true → (∀ a w, K a w → wpAnyF P md ops Q S n fuel (listAll ms listed) a w) →
    wpSeqT P ops Q S n K ms a w → wpAnyF P md ops Q S n (fuel + ms.length) listed a w
  | [], _, a, w, _, hK, h => hK a w h
  | i :: ms, listed, a, w, hB, hK, h => by
    simp only [preMB, Bool.and_eq_true, decide_eq_true_eq] at hB
    refine ⟨fun h0 => (by rw [hB.1] at h0; cases h0), fun j hj => ?_⟩
    rw [hB.1] at hj
    obtain rfl : j = i := by simpa using hj
    exact wpOp_mono (fun a' w' h' => ⟨h'.1, wpAnyF_pre ms _ a' w' hB.2 hK h'.2⟩) h
theorem wpSeqT_step {n i : Nat} {ms : List Nat} {a : Act} {w : World} {o : Oper} {K : Act → World → Prop} (ho : ops[i]? = some o)
    (h : wpList P ops (fun e a' w' => match e with | .normal => (i < n → S w') ∧ wpSeqT P ops Q S n K ms a' w' | e => Q e a' w') [o] a w) : wpSeqT P ops Q S n K (i :: ms) a w := by
  unfold wpSeqT wpOp
  rw [ho]
  exact h
theorem wpSeqT_nil {n : Nat} {a : Act} {w : World} {K : Act → World → Prop} (h : K a w) : wpSeqT P ops Q S n K [] a w := h

def flow5B (md : Region.Mode) (ops : Array Oper) (n : Nat) (rs ps : List Nat) (i j : Nat) (ms1 ms2 : List Nat) : Bool :=
  Region.noSelect ops && tailT md ops n rs && readsB3 md ops rs (Array.replicate ops.size false) && preMB md ops ps (listAll rs (Array.replicate ops.size false)) &&
  decide (Region.ready md ops (listAll ps (listAll rs (Array.replicate ops.size false))) = [i, j]) && decide (ms1.length = ms2.length) &&
  seqMB md ops ms1 ((listAll ps (listAll rs (Array.replicate ops.size false))).setIfInBounds i true) && seqMB md ops ms2 ((listAll ps (listAll rs (Array.replicate ops.size false))).setIfInBounds j true) && decide (ms1.length + 1 + ps.length + rs.length = ops.size)
theorem wp_region_flow5 {id : Nat} {a : Act} {w : World} {l : List Oper} (n : Nat) (rs ps : List Nat) (i j : Nat) (ms1 ms2 : List Nat) (S : World → Prop) (hm : P.follows .mixedOrders = true) (hB : flow5B .any l.toArray n rs ps i j ms1 ms2 = true)
    (hQ : ∀ c a d v w, Q (.panic c) (Act.put a d v) w → Q (.panic c) a w) (hS : S w.drew)
    (h : wpQuiet P l.toArray S (fun a' => wpSeqT P l.toArray Q S n (fun a2 w2 => wpSeqF P l.toArray Q S n (i :: ms1) a2 w2 ∧ wpSeqF P l.toArray Q S n (j :: ms2) a2 w2) ps a' w.drew) (rs.map fun i => (l[i]?).getD default) a) : (Code.region id l.toArray true).wp P Q a w := by
  unfold flow5B at hB
  simp only [Bool.and_eq_true, decide_eq_true_eq] at hB
  obtain ⟨⟨⟨⟨⟨⟨⟨⟨h1, h2⟩, h3⟩, hp⟩, h4⟩, h5⟩, h6⟩, h7⟩, h8⟩ := hB
  refine wp_region_any hm (wpAny_of_flow (S := S) (n := n) _ _ _ _ ?_)
  suffices H : wpAnyF P .any l.toArray Q S n (ms1.length + 1 + ps.length + rs.length) (Array.replicate l.toArray.size false) a w.drew by rw [h8] at H; exact H
  refine wpAnyF_reads3 h1 hQ rs (ms1.length + 1 + ps.length) _ a w.drew (fun a' => wpSeqT P l.toArray Q S n (fun a2 w2 => wpSeqF P l.toArray Q S n (i :: ms1) a2 w2 ∧ wpSeqF P l.toArray Q S n (j :: ms2) a2 w2) ps a' w.drew) (Closed.none _) h2 h3 hS (fun a' h' => wpAnyF_pre ps _ a' _ hp (fun a2 w2 h2 => wpAnyF_two h4 h5 h6 h7 h2.1 h2.2) h') ?_
  simpa using h
end
end Go.Proofs.YtaeebgljcdfolaaGreatDoor
