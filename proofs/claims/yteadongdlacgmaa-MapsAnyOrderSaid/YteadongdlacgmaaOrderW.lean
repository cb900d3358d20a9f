/- What MapsAnyOrder's walk keeps: two map objects, a row of sets that are left. -/
import Derived.Test.YteadongdlacgmaaGrown
namespace Go.Proofs.Yteadongdlacgmaa
open Go.ChangeShapes Go.WideShapes Go.Deep Go.RowKit

theorem SliceP.below {α : Type} {k : Nat} {enc : α → List Value} {w w' : World} {v : Value} {l : List α} (h : SliceP k enc w v l) (hb : Below w.heap.size w w') : SliceP k enc w' v l := by
  obtain ⟨p, cap, rfl, hn, hc⟩ := h
  refine ⟨p, cap, rfl, hn, fun j x hj => ?_⟩
  obtain ⟨b, off, rfl, hlt, h2⟩ := hc j x hj
  exact ⟨b, off, rfl, Nat.lt_of_lt_of_le hlt hb.size, fun i y hy => (hb.cell (p := ⟨b, off + j * k + i, none⟩) hlt).trans (h2 i y hy)⟩
theorem OwnAt.base {α : Type} {base base' E k : Nat} {enc : α → List Value} {w : World} {v : Value} {l : List α} (h : OwnAt base E k enc w v l) (hb : base' ≤ base) : OwnAt base' E k enc w v l := by
  obtain ⟨h1, h2 | ⟨g, cap, cur, hv, hg, rest⟩⟩ := h
  · exact ⟨h1, .inl h2⟩
  · exact ⟨h1, .inr ⟨g, cap, cur, hv, Nat.le_trans hb hg, rest⟩⟩
theorem OwnAt.keep {α : Type} {base E k : Nat} {enc : α → List Value} {w w' : World} {v : Value} {l : List α} (h : OwnAt base E k enc w v l) (hb : Below w.heap.size w w') : OwnAt base E k enc w' v l := ownsRow_blk h fun b e => hb.block b (World.ownsRow.lt h b e).2

/-- blocks in R are as they were. -/
structure KeptB (R : Nat → Prop) (w w' : World) : Prop where
  out : ∀ b, R b → w'.heap[b]? = w.heap[b]?
theorem KeptB.refl (R : Nat → Prop) (w : World) : KeptB R w w := ⟨fun _ _ => rfl⟩
theorem KeptB.trans {R : Nat → Prop} {a b c : World} (h : KeptB R a b) (g : KeptB R b c) : KeptB R a c := ⟨fun x hx => (g.out x hx).trans (h.out x hx)⟩

theorem MState.through {w0 w w' : World} {R : Nat → Prop} {bm : Nat} {M : QMaps} (h : MState w0 R bm M w) (hsz : w.heap.size ≤ w'.heap.size) (hlow : Below w0.heap.size w0 w') (hk : ∀ b, b < w.heap.size → ¬ R b → w'.heap[b]? = w.heap[b]?) : MState w0 R bm M w' := by
  obtain ⟨F, ⟨L, h1, h3⟩, h2⟩ := h.obj
  exact ⟨hlow, fun b hr => Nat.lt_of_lt_of_le (h.lt b hr) hsz, F, ⟨L, h1.keep fun b hf => hk b (h1.foot_lt b hf) (h2 b (h3 b hf)).2, h3⟩, h2⟩

/-- what lies between two worlds' ends is kept: the object that was made there comes through. -/
theorem MState.later {w w2 w3 wc : World} {bm : Nat} {M : QMaps} (h : MState w (fun b => b < w2.heap.size) bm M w3) {Ra : Nat → Prop} (hRa : ∀ b, w2.heap.size ≤ b → b < w3.heap.size → Ra b) (hk : KeptB Ra w3 wc) (hlow : Below w.heap.size w wc) (left : Value)
    (hl : ∀ b, left.ownBlock = some b → w3.heap.size ≤ b ∧ b < wc.heap.size) : MState w (fun b => (b < wc.heap.size ∧ ¬ (w2.heap.size ≤ b ∧ b < w3.heap.size)) ∨ left.ownBlock = some b) bm M wc := by
  obtain ⟨F, ⟨L, h1, h3⟩, h2⟩ := h.obj
  refine ⟨hlow, fun b hr => ?_, fun b => F b ∧ b < w3.heap.size, ⟨L, h1.keep fun b hf => hk.out b (hRa b ?_ (h1.foot_lt b hf)), fun b hf => ⟨h3 b hf, h1.foot_lt b hf⟩⟩, fun b hf => ⟨(h2 b hf.1).1, fun hr => ?_⟩⟩
  · rcases hr with hr | hr
    · exact hr.1
    · exact (hl b hr).2
  · have := (h2 b (h3 b hf)).2
    omega
  · rcases hr with hr | hr
    · have := (h2 b hf.1).2
      exact hr.2 ⟨by omega, hf.2⟩
    · have := (hl b hr).1
      have := hf.2
      omega
/-- a set of an owned row, as a whole. -/
theorem OwnAt.opAt {base : Nat} {w : World} {v : Value} {l : List QOp} {j : Nat} {o : QOp} (h : OwnAt base 41 22 encOp w v l) (hj : l[j]? = some o) : ∃ g c, v = .slice (some ⟨g, 0, none⟩) l.length c ∧ l.length ≤ c ∧ g < w.heap.size ∧ OpCells w g (j * 22) o := by
  have hjl := (List.getElem?_eq_some_iff.1 hj).1
  rcases h.2 with ⟨_, e⟩ | ⟨g, cap, cur, rfl, _, hcur, hn, _⟩
  · omega
  · refine ⟨g, cap, rfl, hn, (Array.getElem?_eq_some_iff.1 hcur).1, fun i y hy => ?_⟩
    have hi : i < 22 := (List.getElem?_eq_some_iff.1 hy).1
    have h1 := h.cellAt (j * 22 + i) (by omega)
    exact h1.trans ((flat_get (enc := encOp) (k := 22) (fun _ => rfl) l j i o hj hi).trans hy)
theorem OwnAt.slice_shape {base : Nat} {w : World} {v : Value} {l : List QOp} (h : OwnAt base 41 22 encOp w v l) : ∃ p c, v = .slice p l.length c := by
  rcases h.2 with ⟨rfl, e⟩ | ⟨g, cap, cur, e, _⟩
  · exact ⟨none, 0, by rw [e]⟩
  · exact ⟨_, cap, e⟩

/-- the cells of an owned row. -/
theorem rowCells {base : Nat} {w : World} {g c : Nat} {l : List QOp} (h : OwnAt base 41 22 encOp w (.slice (some ⟨g, 0, none⟩) l.length c) l) : ∀ j u, (l.flatMap encOp)[j]? = some u → w.cell? ((⟨g, 0, none⟩ : Addr).add j) = some u := fun j u hu => by
  rw [Addr.add_lit, Nat.zero_add]
  have hj := (List.getElem?_eq_some_iff.1 hu).1
  exact (h.cellAt j (by rwa [flat_length (enc := encOp) (k := 22) (fun _ => rfl) l] at hj)).trans hu
theorem opCells_one (l : List QOp) : ∀ u ∈ l.flatMap encOp, u.oneCell' = true := fun u hu => by
  obtain ⟨o, _, ho⟩ := List.mem_flatMap.1 hu
  simp [encOp] at ho
  rcases ho with h | h | h | h | h | h | h | h | h | h | h | h | h | h | h | h | h | h | h | h | h | h <;> (subst h; rfl)
/-- the cells of its parts. -/
theorem takeCells {w : World} {g n c base : Nat} {l : List QOp} (h : OwnAt base 41 22 encOp w (.slice (some ⟨g, 0, none⟩) n c) l) (hn : n = l.length) (k : Nat) : ∀ j u, ((l.take k).flatMap encOp)[j]? = some u → w.cell? ((⟨g, 0, none⟩ : Addr).add j) = some u := fun j u hu => by
  subst hn
  refine rowCells h j u ?_
  conv => lhs; rw [← List.take_append_drop k l, List.flatMap_append]
  rw [List.getElem?_append_left (List.getElem?_eq_some_iff.1 hu).1]
  exact hu
theorem dropCells {w : World} {g n c base off : Nat} {l : List QOp} (h : OwnAt base 41 22 encOp w (.slice (some ⟨g, 0, none⟩) n c) l) (hn : n = l.length) (k : Nat) (ho : k < l.length → off = k * 22) : ∀ j u, ((l.drop k).flatMap encOp)[j]? = some u → w.cell? ((⟨g, off, none⟩ : Addr).add j) = some u := fun j u hu => by
  subst hn
  have hk : k < l.length := by
    rcases Nat.lt_or_ge k l.length with h1 | h1
    · exact h1
    · rw [List.drop_eq_nil_of_le h1] at hu
      simp at hu
  rw [ho hk]
  have h1 := rowCells h (k * 22 + j) u (by
    conv => lhs; rw [← List.take_append_drop k l, List.flatMap_append]
    rw [List.getElem?_append_right (by rw [flat_length (enc := encOp) (k := 22) (fun _ => rfl), List.length_take]; have : min k l.length = k := by omega
                                       rw [this]; omega), flat_length (enc := encOp) (k := 22) (fun _ => rfl), List.length_take, show min k l.length = k by omega, show k * 22 + j - k * 22 = j by omega]
    exact hu)
  rw [Addr.add_lit] at h1 ⊢
  rwa [Nat.zero_add] at h1
/-- the second object while sets come to it: Ra: all that was there besides. -/
structure OState (w w6 : World) (Ra : Nat → Prop) (bm : Nat) (l : List QOp) (left : Value) (lf B : List QOp) (wr : World) : Prop where
  st : MState w (fun b => Ra b ∨ left.ownBlock = some b) bm ⟨B, []⟩ wr
  own : OwnAt w.heap.size 41 22 encOp wr left lf
  kept : KeptB Ra w6 wr
  wf : MWf B
  perm : (B ++ lf).Perm l
  size : w6.heap.size ≤ wr.heap.size

theorem OState.below {w w6 wr wr' : World} {Ra : Nat → Prop} {bm : Nat} {l lf B : List QOp} {left : Value} (h : OState w w6 Ra bm l left lf B wr) (hb : Below wr.heap.size wr wr') : OState w w6 Ra bm l left lf B wr' :=
  ⟨h.st.below hb, h.own.keep hb, h.kept.trans ⟨fun b hr => hb.block b (h.st.lt b (.inl hr))⟩, h.wf, h.perm, Nat.le_trans h.size hb.size⟩
theorem OState.next {w w6 wr ws wn : World} {Ra : Nat → Prop} {bm : Nat} {l lf B : List QOp} {left left' : Value} {k : Nat} {o : QOp} (h : OState w w6 Ra bm l left lf B wr) (hg : Grown l) (hk : lf[k]? = some o) (hm : QMaps.isMap ⟨B, []⟩ o.parent = true)
    (hs : MStep2 w (fun b => Ra b ∨ left.ownBlock = some b) bm ⟨B ++ [o], []⟩ wr ws) (hb : Below ws.heap.size ws wn) (hn : OwnAt ws.heap.size 41 22 encOp wn left' (lf.take k ++ lf.drop (k + 1))) : OState w w6 Ra bm l left' (lf.take k ++ lf.drop (k + 1)) (B ++ [o]) wn := by
  obtain ⟨h1, h2, h3⟩ := hg.come [] h.perm hk hm
  have hw := h.wf.snoc h1
  have ho : o ∈ l := h.perm.mem_iff.1 (List.mem_append_right _ (List.mem_of_getElem? hk))
  rw [(hg.good o ho).2.2.1] at hw
  exact ⟨(hs.st.less (R' := Ra) fun b hb => .inl hb).reserve hb fun b hb' => hb'.elim .inl fun e => .inr (World.ownsRow.lt hn b e),
    hn.base hs.st.low.size, h.kept.trans ⟨fun b hr => (hb.block b (hs.st.lt b (.inl hr))).trans (hs.kept b (.inl hr))⟩, hw, h3, Nat.le_trans h.size (Nat.le_trans hs.size hb.size)⟩

set_option maxRecDepth 20000 in
/-- the parts of a row of sets that a slice expression tells. -/
theorem slice_hi (g n c k : Nat) (h : k < n) (hc : n ≤ c) (w : World) : (Instr.slice 26 (.slice (some ⟨g, 0, none⟩) n c) none (some (.int .i64 (k : Int))) none).run Try.prog w = .ok (.slice (some ⟨g, 0, none⟩) k c) w := by
  rw [run_slice_h w 26 _ n c (by kernel_rfl) .i64 k (by omega) (by omega)]
  rw [show (sizeOf (Try.prog.elem 26)).run Try.prog w = .ok 22 w by kernel_rfl]
  simp [Result.andThen_ok, sliced, Addr.add]
set_option maxRecDepth 20000 in
theorem slice_lo (g n c k : Nat) (h : k < n) (hc : n ≤ c) : ∃ off, (k + 1 < n → off = (k + 1) * 22) ∧ ∀ w : World, (Instr.slice 26 (.slice (some ⟨g, 0, none⟩) n c) (some (.int .i64 ((k : Int) + 1))) none none).run Try.prog w = .ok (.slice (some ⟨g, off, none⟩) (n - (k + 1)) (c - (k + 1))) w := by
  refine ⟨if c = k + 1 then 0 else (k + 1) * 22, fun h2 => by rw [if_neg (by omega)], fun w => ?_⟩
  rw [run_slice_l w 26 _ n c (by kernel_rfl) .i64 ((k : Int) + 1) (by omega) (by omega)]
  rw [show (sizeOf (Try.prog.elem 26)).run Try.prog w = .ok 22 w by kernel_rfl]
  by_cases hck : c = k + 1
  · simp [Result.andThen_ok, sliced, hck, show ((k : Int) + 1).toNat = k + 1 by omega]
  · simp [Result.andThen_ok, sliced, hck, show ((k : Int) + 1).toNat = k + 1 by omega, Addr.add]

set_option maxRecDepth 20000 in
/-- a slice that came in, as a list of ranges. -/
theorem sliceAt_rngs {H : Type} {enc : TypeId × Value → H} {W : World} {r : Reach} {base0 base : Nat} {spare : Nat → Bool} {held : Bool} {fuel : Nat} {a : Option Addr} {len cap : Nat} {x : DataW H × List MemPlace}
    (hv : Value.okWide Try.prog W r base0 24 (.slice a len cap)) (h : DataW.trod enc Try.prog W base spare held fuel 24 (Value.slice a len cap).cells.toList = some x) : ∃ rs : List QRng, SliceAt 3 encRng W (.slice a len cap) rs := by
  have hu : Try.prog.underlying 24 = some (.slice 54) := Try.underlying24
  simp only [Value.okWide, hu, Cell.okWide, Cell.ok] at hv
  rcases open_slice_fields Try.underlying24 Try.underlying54 (by kernel_rfl) (by kernel_rfl) h with hcs | ⟨y, l, c, hcs, hl, hm, hf⟩
  · simp [Value.cells] at hcs
    obtain ⟨rfl, rfl, rfl⟩ := hcs
    exact ⟨[], .inl ⟨rfl, rfl⟩⟩
  · simp [Value.cells] at hcs
    obtain ⟨rfl, rfl, rfl⟩ := hcs
    obtain ⟨_, _, _, hsp, row, cells, hshape, _⟩ := hv
    obtain ⟨b, off, spot⟩ := y
    simp only at hsp hshape
    subst hsp
    have hb : b < W.heap.size := by
      unfold World.shape? at hshape
      rcases Nat.lt_or_ge b W.heap.size with h1 | h1
      · exact h1
      · rw [Array.getElem?_eq_none h1] at hshape
        cases hshape
    obtain ⟨vs, hvl, hvs⟩ := list_of (fun i (v : QRng) => ∀ k u, (encRng v)[k]? = some u → W.cell? ((⟨b, off, none⟩ : Addr).add (i * 3 + k)) = some u) len (fun i hi => by
      obtain ⟨n, hn⟩ := hf i hi
      obtain ⟨v0, y0, c0, t0⟩ := hn 0 _ rfl
      obtain ⟨v1, y1, c1, t1⟩ := hn 1 _ rfl
      obtain ⟨v2, y2, c2, t2⟩ := hn 2 _ rfl
      obtain ⟨n0, e0, _⟩ := DataW.trod_int Try.underlying32 t0
      obtain ⟨n1, e1, _⟩ := DataW.trod_int Try.underlying32 t1
      obtain ⟨n2, e2, _⟩ := DataW.trod_int Try.underlying32 t2
      simp only [List.cons.injEq, and_true] at e0 e1 e2
      subst e0; subst e1; subst e2
      refine ⟨⟨n0, n1, n2⟩, fun k u hk => ?_⟩
      match k, hk with
      | 0, hk => simp [encRng] at hk; subst hk; exact c0
      | 1, hk => simp [encRng] at hk; subst hk; exact c1
      | 2, hk => simp [encRng] at hk; subst hk; exact c2
      | k + 3, hk => simp [encRng] at hk)
    refine ⟨vs, .inr ⟨b, off, cap, by rw [hvl], by unfold maxLen at hm; omega, hb, fun j v hj i u hi => ?_⟩⟩
    have := hvs j v hj i u hi
    rw [Addr.add_lit] at this
    rwa [Nat.add_assoc]
end Go.Proofs.Yteadongdlacgmaa
