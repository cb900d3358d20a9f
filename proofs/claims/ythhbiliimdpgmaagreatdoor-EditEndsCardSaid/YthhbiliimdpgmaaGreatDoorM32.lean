/- Maps.Set, in memory: what the object is after its stores. -/
import Derived.Test.YthhbiliimdpgmaaGreatDoorM30
import Derived.Maps.AppendAt
import Derived.StillTailTactics
namespace Go.Proofs.YthhbiliimdpgmaaGreatDoor
open Go.RowKit

def memK (ks : List ByteArray) (k : ByteArray) : Bool := ks.any fun x => decide (x = k)
theorem memK_iff {ks : List ByteArray} {k : ByteArray} : memK ks k = true ↔ k ∈ ks := by
  unfold memK
  rw [List.any_eq_true]
  constructor
  · rintro ⟨x, hx, he⟩; exact (of_decide_eq_true he) ▸ hx
  · intro h; exact ⟨k, h, decide_eq_true rfl⟩
theorem keysAt_snoc (l : List QOp) (o : QOp) (p : QId) : keysAt (l ++ [o]) p = if o.parent = p ∧ memK (keysAt l p) o.key = false then keysAt l p ++ [o.key] else keysAt l p := by
  unfold keysAt
  rw [List.foldl_append, List.foldl_cons, List.foldl_nil]
  rfl
theorem parents_snoc (l : List QOp) (o : QOp) : parents (l ++ [o]) = if o.parent ∈ parents l then parents l else parents l ++ [o.parent] := by
  unfold parents
  rw [List.foldl_append, List.foldl_cons, List.foldl_nil]
theorem opsAt_snoc (l : List QOp) (o : QOp) (p : QId) (k : ByteArray) : opsAt (l ++ [o]) p k = if o.parent = p ∧ o.key = k then opsAt l p k ++ [o] else opsAt l p k := by
  unfold opsAt
  rw [List.filter_append]
  by_cases h : o.parent = p ∧ o.key = k
  · rw [if_pos h, h.1.symm, h.2.symm]; simp
  · rw [if_neg h]
    have : (decide (o.parent = p) && decide (o.key = k)) = false := by
      rw [Bool.and_eq_false_iff]
      by_cases hp : o.parent = p
      · exact .inr (decide_eq_false fun hk => h ⟨hp, hk⟩)
      · exact .inl (decide_eq_false hp)
    simp [this]
theorem put_keys (ks : List ByteArray) (f : ByteArray → Value) (key : ByteArray) (v : Value) :
    put (ks.map fun k => (k, f k)) key v = (if memK ks key then ks else ks ++ [key]).map fun k => (k, if k = key then v else f k) := by
  unfold put
  by_cases hkk : memK ks key = true
  · have hk := memK_iff.1 hkk
    have hl : (look (ks.map fun k => (k, f k)) key).isSome = true := by
      cases h : look (ks.map fun k => (k, f k)) key with
      | some _ => rfl
      | none =>
        exfalso
        unfold look at h
        rw [Option.map_eq_none_iff, List.find?_eq_none] at h
        exact h (key, f key) (List.mem_map.2 ⟨key, hk, rfl⟩) (decide_eq_true rfl)
    rw [if_pos hl, if_pos hkk, List.map_map]
    apply List.map_congr_left
    intro k _
    by_cases e : k = key
    · subst e; simp
    · simp [e]
  · have hk : ¬ key ∈ ks := fun h => hkk (memK_iff.2 h)
    rw [look_row_no _ _ _ hk, if_neg hkk, if_neg (by simp), List.map_append]
    congr 1
    · apply List.map_congr_left
      intro k hk2
      have e : k ≠ key := fun e => hk (e ▸ hk2)
      simp [e]
    · simp
theorem put_all (M : QMaps) (o : QOp) (h : M.has o.id = false) : put (M.ops.map fun o => (o.id, opV o)) o.id (opV o) = (M.ops ++ [o]).map fun o => (o.id, opV o) := by
  unfold put
  have : look (M.ops.map fun o => (o.id, opV o)) o.id = none := by
    rw [look_find opV QOp.id]
    unfold QMaps.has QMaps.at_ at h
    cases hf : List.find? (fun x : QOp => decide (x.id = o.id)) M.ops with
    | none => rfl
    | some x => rw [hf] at h; cases h
  rw [this, if_neg (by simp)]
  simp

theorem MapK.ne_own {κ : Type} {enc : κ → Value} {w : World} {r b : Nat} {l : List (κ × Value)} {base e size n : Nat} {v : Value} {xs : List Value} (h : MapK enc w r l) (hv : w.ownsRow base e size v n xs) (hb : v.ownBlock = some b) : r ≠ b := by
  rcases hv.2 with ⟨e1, _⟩ | ⟨g, cap, cur, e1, _, hcur, _⟩
  · rw [e1] at hb; cases hb
  · rw [e1] at hb; cases hb; exact h.ne hcur
theorem ownsRow_type {w : World} {base e size n base' e' size' n' b : Nat} {v v' : Value} {xs xs' : List Value} (h : w.ownsRow base e size v n xs) (h' : w.ownsRow base' e' size' v' n' xs') (hb : v.ownBlock = some b) (hb' : v'.ownBlock = some b) : e = e' := by
  rcases h.2 with ⟨e1, _⟩ | ⟨g, cap, cur, e1, _, hcur, _⟩
  · rw [e1] at hb; cases hb
  · rcases h'.2 with ⟨e2, _⟩ | ⟨g', cap', cur', e2, _, hcur', _⟩
    · rw [e2] at hb'; cases hb'
    · rw [e1] at hb; rw [e2] at hb'; cases hb; cases hb'; rw [hcur] at hcur'; cases hcur'; rfl

theorem rowOf_own {w : World} {bm : Nat} {L : MLay} {M : QMaps} (h : MapsAt w bm L M) (p : QId) (k : ByteArray) : OwnAt 0 35 22 encOp w (rowOf L M p k) (opsAt M.ops p k) := by
  unfold rowOf
  by_cases hne : opsAt M.ops p k = []
  · rw [if_pos hne, hne]; exact OwnAt.nil
  · rw [if_neg hne]; exact h.rows p k hne
theorem rowOf_block {L : MLay} {M : QMaps} {p : QId} {k : ByteArray} {b : Nat} (h : (rowOf L M p k).ownBlock = some b) : opsAt M.ops p k ≠ [] ∧ (L.row p k).ownBlock = some b := by
  unfold rowOf at h
  by_cases hne : opsAt M.ops p k = []
  · rw [if_pos hne] at h; cases h
  · rw [if_neg hne] at h; exact ⟨hne, h⟩

theorem parent_nodup {w : World} {bm : Nat} {L : MLay} {M : QMaps} (h : MapsAt w bm L M) : (L.PL.map (·.1)).Nodup := by
  rw [h.par]
  unfold parents
  have : ∀ (l : List QOp) (acc : List QId), acc.Nodup → (l.foldl (fun (ps : List QId) (o : QOp) => if o.parent ∈ ps then ps else ps ++ [o.parent]) acc).Nodup := by
    intro l
    induction l with
    | nil => intro acc h; exact h
    | cons o l ih =>
      intro acc h
      rw [List.foldl_cons]
      apply ih
      by_cases hp : o.parent ∈ acc
      · rw [if_pos hp]; exact h
      · rw [if_neg hp]
        refine List.nodup_append.2 ⟨h, by simp, fun a ha b hb => ?_⟩
        obtain rfl : b = o.parent := by simpa using hb
        rintro rfl
        exact hp ha
  exact this _ _ List.nodup_nil
theorem MapsAt.set {w w' : World} {bm : Nat} {L : MLay} {M : QMaps} {o : QOp} {r : Nat} {PL' : List (QId × Nat)} {v' : Value} (h : MapsAt w bm L M) (ho : M.has o.id = false)
    (hPL : (PL' = L.PL ∧ (o.parent, r) ∈ L.PL) ∨ (PL' = L.PL ++ [(o.parent, r)] ∧ w.heap.size ≤ r ∧ innBlk L o.parent = none))
    (hm : Mods (fun b => b = L.all ∨ b = L.inn ∨ b = r ∨ (rowOf L M o.parent o.key).ownBlock = some b) w w')
    (hall : MapK idV w' L.all (put (M.ops.map fun o => (o.id, opV o)) o.id (opV o)))
    (hinn : MapK idV w' L.inn (PL'.map fun p => (p.1, .map (some p.2))))
    (hin : MapK Value.string w' r (put ((keysAt M.ops o.parent).map fun k => (k, L.row o.parent k)) o.key v'))
    (hrow : OwnAt 0 35 22 encOp w' v' (opsAt M.ops o.parent o.key ++ [o]))
    (hblk : v'.ownBlock = (rowOf L M o.parent o.key).ownBlock ∨ ∃ b, v'.ownBlock = some b ∧ w.heap.size ≤ b) :
    MapsAt w' bm ⟨L.all, L.inn, L.hv, PL', fun p k => if p = o.parent ∧ k = o.key then v' else L.row p k⟩ ⟨M.ops ++ [o], M.hidden⟩ ∧
    ∀ b, MFoot bm ⟨L.all, L.inn, L.hv, PL', fun p k => if p = o.parent ∧ k = o.key then v' else L.row p k⟩ ⟨M.ops ++ [o], M.hidden⟩ b → MFoot bm L M b ∨ w.heap.size ≤ b := by
  have hlt := h.foot_lt
  have hrowOwn := rowOf_own h o.parent o.key
  have bm_lt := hlt bm (.inl rfl)
  have hr_old : r < w.heap.size → (o.parent, r) ∈ L.PL := by
    rcases hPL with ⟨_, h2⟩ | ⟨_, h2, _⟩
    · exact fun _ => h2
    · intro h3; omega
  -- the blocks that stay
  have stay : ∀ b, b < w.heap.size → b ≠ L.all → b ≠ L.inn → (b = r → (o.parent, r) ∈ L.PL → False) → (rowOf L M o.parent o.key).ownBlock ≠ some b → w'.heap[b]? = w.heap[b]? := by
    intro b hb h1 h2 h3 h4
    refine hm.block b hb ?_
    rintro (e | e | e | e)
    · exact h1 e
    · exact h2 e
    · exact h3 e (hr_old (e ▸ hb))
    · exact h4 e
  have hPLin : ∀ p ∈ L.PL, p ∈ PL' := by
    rcases hPL with ⟨e, _⟩ | ⟨e, _, _⟩
    · rw [e]; exact fun p hp => hp
    · rw [e]; exact fun p hp => List.mem_append_left _ hp
  have hPLr : (o.parent, r) ∈ PL' := by
    rcases hPL with ⟨e, h2⟩ | ⟨e, _, _⟩
    · rw [e]; exact h2
    · rw [e]; simp
  obtain ⟨hH, hH1, hH2⟩ := h.hid
  have hsep := h.sep
  have hcase : ∀ p ∈ PL', p = (o.parent, r) ∨ (p ∈ L.PL ∧ p.1 ≠ o.parent) := by
    intro p hp
    rcases hPL with ⟨e, h2⟩ | ⟨e, _, h3⟩
    · rw [e] at hp
      by_cases hpp : p.1 = o.parent
      · left
        have hnd := parent_nodup h
        have : ∀ (l : List (QId × Nat)), (l.map (·.1)).Nodup → p ∈ l → (o.parent, r) ∈ l → p = (o.parent, r) := by
          intro l
          induction l with
          | nil => intro _ h; cases h
          | cons a l ih =>
            intro hn hp hq
            rw [List.map_cons, List.nodup_cons] at hn
            rcases List.mem_cons.1 hp with e1 | hp
            · rcases List.mem_cons.1 hq with e2 | hq
              · rw [e1, e2]
              · exfalso; apply hn.1; rw [← e1, hpp]; exact List.mem_map.2 ⟨_, hq, rfl⟩
            · rcases List.mem_cons.1 hq with e2 | hq
              · exfalso; apply hn.1; rw [← e2]; exact List.mem_map.2 ⟨p, hp, hpp⟩
              · exact ih hn.2 hp hq
        exact this _ hnd hp h2
      · exact .inr ⟨hp, hpp⟩
    · rw [e] at hp
      rcases List.mem_append.1 hp with hp | hp
      · right
        refine ⟨hp, fun hpp => ?_⟩
        unfold innBlk at h3
        simp only [Option.map_eq_none_iff, List.find?_eq_none, decide_eq_true_eq] at h3
        exact h3 p hp hpp
      · left; simpa using hp
  have hrows' : ∀ p k, opsAt (M.ops ++ [o]) p k ≠ [] → ¬ (p = o.parent ∧ k = o.key) → opsAt M.ops p k ≠ [] := by
    intro p k hne hn
    rw [opsAt_snoc, if_neg (fun e => hn ⟨e.1.symm, e.2.symm⟩)] at hne
    exact hne
  have hvb : ∀ b, v'.ownBlock = some b → (opsAt M.ops o.parent o.key ≠ [] ∧ (L.row o.parent o.key).ownBlock = some b) ∨ w.heap.size ≤ b := by
    intro b hb
    rcases hblk with e | ⟨b', e, hb'⟩
    · rw [hb] at e; exact .inl (rowOf_block e.symm)
    · rw [hb] at e; cases e; exact .inr hb'
  refine ⟨{ st := ?_, hid := ?_, all := ?_, inn := ?_, par := ?_, inner := ?_, rows := ?_, sep := ?_, rsep := ?_ }, ?_⟩
  · refine (stay bm bm_lt (h.all.ne h.st).symm (h.inn.ne h.st).symm (fun e hp => (h.inner _ hp).ne h.st (by simpa using e.symm)) (ownsRow_ne hrowOwn h.st (by decide))).trans h.st
  · refine ⟨hH, ownsRow_blk hH1 fun b hb => ?_, hH2⟩
    refine stay b (ownsRow_lt hH1 b hb) (h.all.ne_own hH1 hb).symm (h.inn.ne_own hH1 hb).symm (fun e hp => (h.inner _ hp).ne_own hH1 hb (by simpa using e.symm)) (fun e => ?_)
    have := ownsRow_type hH1 hrowOwn hb e
    revert this; decide
  · rw [← put_all M o ho]; exact hall
  · exact hinn
  · show PL'.map (·.1) = parents (M.ops ++ [o])
    rw [parents_snoc, ← h.par]
    rcases hPL with ⟨e, h2⟩ | ⟨e, _, h3⟩
    · rw [e, if_pos (List.mem_map.2 ⟨_, h2, rfl⟩)]
    · rw [e, if_neg, List.map_append]
      · rfl
      · intro hp
        obtain ⟨x, hx, hxp⟩ := List.mem_map.1 hp
        unfold innBlk at h3
        simp only [Option.map_eq_none_iff, List.find?_eq_none, decide_eq_true_eq] at h3
        exact h3 x hx hxp
  · intro p hp
    show MapK Value.string w' p.2 ((keysAt (M.ops ++ [o]) p.1).map fun k => (k, if p.1 = o.parent ∧ k = o.key then v' else L.row p.1 k))
    rcases hcase p hp with rfl | ⟨hpl, hpp⟩
    · rw [put_keys] at hin
      rw [keysAt_snoc]
      have e : (if o.parent = (o.parent, r).1 ∧ memK (keysAt M.ops (o.parent, r).1) o.key = false then keysAt M.ops (o.parent, r).1 ++ [o.key] else keysAt M.ops (o.parent, r).1) = if memK (keysAt M.ops o.parent) o.key then keysAt M.ops o.parent else keysAt M.ops o.parent ++ [o.key] := by
        cases hmk : memK (keysAt M.ops o.parent) o.key <;> simp [hmk]
      rw [e]
      simpa using hin
    · rw [keysAt_snoc, if_neg (fun e => hpp e.1.symm)]
      have e : (fun k => (k, if p.1 = o.parent ∧ k = o.key then v' else L.row p.1 k)) = fun k => (k, L.row p.1 k) := by
        funext k
        rw [if_neg (fun e => hpp e.1)]
      rw [e]
      refine (h.inner p hpl).blk (stay p.2 (h.inner p hpl).lt ?_ ?_ ?_ ?_)
      · intro e2; rw [List.nodup_cons] at hsep; exact hsep.1 (by rw [← e2]; simp; exact .inr ⟨p.1, by simpa using hpl⟩)
      · intro e2; rw [List.nodup_cons, List.nodup_cons] at hsep; exact hsep.2.1 (by rw [← e2]; simp; exact ⟨p.1, by simpa using hpl⟩)
      · intro e2 hq
        rw [List.nodup_cons, List.nodup_cons] at hsep
        have hnd := hsep.2.2
        have : ∀ (l : List (QId × Nat)), (l.map (·.2)).Nodup → p ∈ l → (o.parent, r) ∈ l → p = (o.parent, r) := by
          intro l
          induction l with
          | nil => intro _ h; cases h
          | cons a l ih =>
            intro hn hp hq
            rw [List.map_cons, List.nodup_cons] at hn
            rcases List.mem_cons.1 hp with e1 | hp
            · rcases List.mem_cons.1 hq with e3 | hq
              · rw [e1, e3]
              · exfalso; apply hn.1; rw [← e1, e2]; exact List.mem_map.2 ⟨_, hq, rfl⟩
            · rcases List.mem_cons.1 hq with e3 | hq
              · exfalso; apply hn.1; rw [← e3]; exact List.mem_map.2 ⟨p, hp, e2⟩
              · exact ih hn.2 hp hq
        exact hpp (by rw [this _ hnd hpl hq])
      · intro e2
        exact (h.inner p hpl).ne_own hrowOwn e2 rfl
  · intro p k hne
    show OwnAt 0 35 22 encOp w' (if p = o.parent ∧ k = o.key then v' else L.row p k) (opsAt (M.ops ++ [o]) p k)
    by_cases hpk : p = o.parent ∧ k = o.key
    · rw [if_pos hpk, opsAt_snoc, if_pos ⟨hpk.1.symm, hpk.2.symm⟩, hpk.1, hpk.2]; exact hrow
    · have hne' := hrows' p k hne hpk
      rw [if_neg hpk, opsAt_snoc, if_neg (fun e => hpk ⟨e.1.symm, e.2.symm⟩)]
      have hown := h.rows p k hne'
      refine ownsRow_blk hown fun b hb => stay b (ownsRow_lt hown b hb) (h.all.ne_own hown hb).symm (h.inn.ne_own hown hb).symm (fun e hp => (h.inner _ hp).ne_own hown hb (by simpa using e.symm)) (fun e => ?_)
      obtain ⟨hne2, e2⟩ := rowOf_block e
      exact hpk (h.rsep p k o.parent o.key hne' hne2 (hb.trans e2.symm))
  · show (L.all :: L.inn :: PL'.map (·.2)).Nodup
    rcases hPL with ⟨e, _⟩ | ⟨e, h2, _⟩
    · rw [e]; exact hsep
    · rw [e, List.map_append, ← List.cons_append, ← List.cons_append]
      refine List.nodup_append.2 ⟨hsep, by simp, fun a ha b hb => ?_⟩
      obtain rfl : b = r := by simpa using hb
      rintro rfl
      have : a < w.heap.size := by
        rcases List.mem_cons.1 ha with rfl | ha
        · exact hlt _ (.inr (.inl rfl))
        · rcases List.mem_cons.1 ha with rfl | ha
          · exact hlt _ (.inr (.inr (.inl rfl)))
          · exact hlt _ (.inr (.inr (.inr (.inl ha))))
      omega
  · intro p k p' k' hne hne' he
    show p = p' ∧ k = k'
    have old_lt : ∀ p k b, opsAt M.ops p k ≠ [] → (L.row p k).ownBlock = some b → b < w.heap.size := fun p k b h1 h2 => ownsRow_lt (h.rows p k h1) b h2
    have has_blk : ∀ {l : List QOp} {v : Value} {w : World}, l ≠ [] → OwnAt 0 35 22 encOp w v l → ∃ b, v.ownBlock = some b := by
      intro l v w hl hv
      rcases hv.2 with ⟨_, e⟩ | ⟨g, cap, cur, e, _⟩
      · exact absurd (List.eq_nil_of_length_eq_zero e) hl
      · exact ⟨g, by rw [e]; rfl⟩
    have key : ∀ p k, opsAt M.ops p k ≠ [] → ¬ (p = o.parent ∧ k = o.key) → v'.ownBlock = (L.row p k).ownBlock → False := by
      intro p k h1 h2 h3
      obtain ⟨b, hb⟩ := has_blk h1 (h.rows p k h1)
      rcases hvb b (h3.trans hb) with ⟨h4, h5⟩ | h4
      · obtain ⟨e1, e2⟩ := h.rsep p k o.parent o.key h1 h4 (hb.trans h5.symm)
        exact h2 ⟨e1, e2⟩
      · have := old_lt p k b h1 hb; omega
    by_cases hpk : p = o.parent ∧ k = o.key
    · by_cases hpk' : p' = o.parent ∧ k' = o.key
      · exact ⟨hpk.1.trans hpk'.1.symm, hpk.2.trans hpk'.2.symm⟩
      · exfalso
        have he' : v'.ownBlock = (L.row p' k').ownBlock := by simpa [if_pos hpk, if_neg hpk'] using he
        exact key p' k' (hrows' p' k' hne' hpk') hpk' he'
    · by_cases hpk' : p' = o.parent ∧ k' = o.key
      · exfalso
        have he' : (L.row p k).ownBlock = v'.ownBlock := by simpa [if_pos hpk', if_neg hpk] using he
        exact key p k (hrows' p k hne hpk) hpk he'.symm
      · have he' : (L.row p k).ownBlock = (L.row p' k').ownBlock := by simpa [if_neg hpk', if_neg hpk] using he
        exact h.rsep p k p' k' (hrows' p k hne hpk) (hrows' p' k' hne' hpk') he'
  · rintro b (e | e | e | e | e | ⟨p, k, hne, e⟩)
    · exact .inl (.inl e)
    · exact .inl (.inr (.inl e))
    · exact .inl (.inr (.inr (.inl e)))
    · obtain ⟨x, hx, hxb⟩ := List.mem_map.1 e
      rcases hPL with ⟨e2, _⟩ | ⟨e2, h2, _⟩
      · rw [e2] at hx; exact .inl (.inr (.inr (.inr (.inl (List.mem_map.2 ⟨x, hx, hxb⟩)))))
      · rw [e2] at hx
        rcases List.mem_append.1 hx with hx | hx
        · exact .inl (.inr (.inr (.inr (.inl (List.mem_map.2 ⟨x, hx, hxb⟩)))))
        · obtain rfl : x = (o.parent, r) := by simpa using hx
          exact .inr (hxb ▸ h2)
    · exact .inl (.inr (.inr (.inr (.inr (.inl e)))))
    · by_cases hpk : p = o.parent ∧ k = o.key
      · have e' : v'.ownBlock = some b := by simpa [if_pos hpk] using e
        rcases hvb b e' with ⟨h4, h5⟩ | h4
        · exact .inl (.inr (.inr (.inr (.inr (.inr ⟨_, _, h4, h5⟩)))))
        · exact .inr h4
      · have e' : (L.row p k).ownBlock = some b := by simpa [if_neg hpk] using e
        exact .inl (.inr (.inr (.inr (.inr (.inr ⟨p, k, hrows' p k hne hpk, e'⟩)))))

theorem innBlk_snoc {L : MLay} {p : QId} {r : Nat} (h : innBlk L p = none) : ((L.PL ++ [(p, r)]).find? fun x => decide (x.1 = p)).map (·.2) = some r := by
  unfold innBlk at h
  rw [Option.map_eq_none_iff] at h
  rw [List.find?_append, h]
  simp
theorem look_inn2 {w : World} {b r : Nat} {PL : List (QId × Nat)} {p : QId} (h : MapK idV w b (PL.map fun p => (p.1, .map (some p.2)))) (hr : (PL.find? fun x => decide (x.1 = p)).map (·.2) = some r) :
    (Instr.lookup 88 (.map (some b)) (.agg #[.int .u64 p.c, .int .u64 p.k]) false).run Tryz.prog w = .ok (.map (some r)) w := by
  have := run_look (T := 88) (E := 206) idKey (by kernel_rfl) (z := .map none) (fun w => by kernel_rfl) h p false
  refine this.trans ?_
  rw [if_neg (by decide), look_find (fun x : QId × Nat => Value.map (some x.2)) Prod.fst]
  cases hf : List.find? (fun o : QId × Nat => decide (o.1 = p)) PL with
  | none => rw [hf] at hr; cases hr
  | some x => rw [hf] at hr; cases hr; rfl
theorem look_key2 {w : World} {r : Nat} {L : MLay} {M : QMaps} {p : QId} (h : MapK Value.string w r ((keysAt M.ops p).map fun k => (k, L.row p k))) (k : ByteArray) :
    (Instr.lookup 206 (.map (some r)) (.string k) false).run Tryz.prog w = .ok (rowOf L M p k) w := by
  unfold rowOf
  have := run_look (T := 206) (E := 39) strKey (by kernel_rfl) (z := .slice none 0 0) (fun w => by kernel_rfl) h k false
  rw [this, if_neg (by decide)]
  by_cases hne : opsAt M.ops p k = []
  · rw [look_row_no _ _ _ (fun hm => mem_keysAt_iff.1 hm hne), if_pos hne]; rfl
  · rw [look_row_yes _ _ _ (mem_keysAt_iff.2 hne), if_neg hne]
theorem put_all_run {w : World} {b : Nat} {l : List (QId × Value)} (h : MapK idV w b l) (i : QId) (v : Value) :
    ∃ o, (Instr.mapUpdate 59 (.map (some b)) (.agg #[.int .u64 i.c, .int .u64 i.k]) v).run Tryz.prog w = .ok () (putMap w b o) ∧ MapK idV (putMap w b o) b (put l i v) :=
  run_put (T := 59) (E := 35) idKey (by kernel_rfl) h i v
theorem put_inn_run {w : World} {b : Nat} {l : List (QId × Value)} (h : MapK idV w b l) (i : QId) (v : Value) :
    ∃ o, (Instr.mapUpdate 88 (.map (some b)) (.agg #[.int .u64 i.c, .int .u64 i.k]) v).run Tryz.prog w = .ok () (putMap w b o) ∧ MapK idV (putMap w b o) b (put l i v) :=
  run_put (T := 88) (E := 206) idKey (by kernel_rfl) h i v
theorem put_key_run {w : World} {b : Nat} {l : List (ByteArray × Value)} (h : MapK Value.string w b l) (k : ByteArray) (v : Value) :
    ∃ o, (Instr.mapUpdate 206 (.map (some b)) (.string k) v).run Tryz.prog w = .ok () (putMap w b o) ∧ MapK Value.string (putMap w b o) b (put l k v) :=
  run_put (T := 206) (E := 39) strKey (by kernel_rfl) h k v
theorem put_inn_eq {L : MLay} {p : QId} {r : Nat} (h : innBlk L p = none) : put (L.PL.map fun p => (p.1, Value.map (some p.2))) p (.map (some r)) = (L.PL ++ [(p, r)]).map fun p => (p.1, Value.map (some p.2)) := by
  unfold put
  have : look (L.PL.map fun p => (p.1, Value.map (some p.2))) p = none := by
    rw [look_find (fun x : QId × Nat => Value.map (some x.2)) Prod.fst]
    unfold innBlk at h
    rw [Option.map_eq_none_iff] at h
    rw [h]; rfl
  rw [this, if_neg (by simp)]
  simp

theorem Mods.putMap {S : Nat → Prop} {w w' : World} (h : Mods S w w') {b : Nat} (hb : S b ∨ w.heap.size ≤ b) (o : Obj) : Mods S w (putMap w' b o) :=
  ⟨h.os, h.tape, h.output, by rw [putMap_size]; exact h.size, fun k hk hs => (putMap_other (by rintro rfl; rcases hb with hb | hb; exact hs hb; omega)).trans (h.block k hk hs)⟩

/-- the box with the cleaned value laid in. -/
theorem OpBox.setV {w : World} {b : Nat} {o : QOp} (h : OpBox w b o) (v : QVal) :
    OpBox ((((w.setCell ⟨b, 9, none⟩ (.int .i64 v.kind)).setCell ⟨b, 10, none⟩ (.int .i64 v.n)).setCell ⟨b, 11, none⟩ (.float .f64 v.f)).setCell ⟨b, 12, none⟩ (.string v.s)) b { o with v := v } := by
  unfold OpBox at *
  simp [World.setCell, Array.getElem?_modify, h, encOp]

theorem wpStill_load {P : Program} {ops : Array Oper} {w : World} {Q : Act → Prop} {a : Act} {o : Oper} {rest : List Oper} {T : TypeId} {x : Operand} {ad : Addr} {v : Value} (hg : o.guard = none) (ho : o.op = .load T x) (hx : a.eval x = .pointer (some ad)) (hr : (loadVar T ad).run P w = .ok v w)
    (h : wpStill P ops w Q rest (a.put o.dst v)) : wpStill P ops w Q (o :: rest) a :=
  wpStill_step fun K hK => by
    rw [if_pos (by unfold Region.wanted; rw [hg])]
    unfold Oper.still execOp
    simp only [ho, hx, Instr.loadAt, Instr.sureAddr, Sem.run_bind, Sem.run_pure, Result.andThen_ok, hr]
    exact ⟨rfl, hK _ h⟩
end Go.Proofs.YthhbiliimdpgmaaGreatDoor
