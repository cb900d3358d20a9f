/- Plain law: what waits, and is taken, in whichever pieces and order; all is known in the end. -/
import Derived.Test.YthhbiliimdpgmaaGreatDoorM18
namespace Go.Proofs.YthhbiliimdpgmaaGreatDoor

/-- clients with right texts. -/
structure Texts (m : Nat) (tx : Int → ByteArray) : Prop where
  few : m ≤ 5
  ok : ∀ c : Int, 1 ≤ c → c ≤ m → okB (tx c) = true ∧ 1 ≤ (runesB (tx c)).length ∧ (runesB (tx c)).length ≤ 60
def wholeN (tx : Int → ByteArray) (c : Int) : Nat := (runesB (tx c)).length
/-- between two calls. -/
structure BInv (m : Nat) (tx : Int → ByteArray) (K : List (Int × ByteArray)) (Q : List QOp) (H : List QRng) : Prop where
  keys : (K.map (·.1)).Nodup
  kn : ∀ p ∈ K, 1 ≤ p.1 ∧ p.1 ≤ m ∧ ∃ n : Nat, 0 < n ∧ n ≤ wholeN tx p.1 ∧ p.2 = cutB (tx p.1) 0 n
  q : ∀ o ∈ Q, ∃ (c : Int) (f e : Nat), o = pc c (tx c) f e ∧ 1 ≤ c ∧ c ≤ m ∧ f < e ∧ e ≤ wholeN tx c ∧ kcount K c ≤ f
  apart : Q.Pairwise fun x y => ∀ i, x.rng.inR i → ¬ y.rng.inR i
  hc : CleanL H
  hh : ∀ i, hasRngs H i = true ↔ ∃ o ∈ Q, o.rng.inR i

theorem pc_rng2 {c : Int} {t : ByteArray} {f e : Nat} (hf : f ≤ e) (he : e ≤ (runesB t).length) : (pc c t f e).rng = ⟨c, 1 + f, 1 + e⟩ := by
  rw [pc_eq, tOp_rng, pc_rng c t f e hf he]
theorem BInv.start (m : Nat) (tx : Int → ByteArray) : BInv m tx [] [] [] :=
  ⟨by simp, by simp, by simp, by simp, ⟨by simp, by simp⟩, fun i => by simp [hasRngs]⟩
theorem kcount_of {K : List (Int × ByteArray)} {c : Int} {t : ByteArray} (h : kfind K c = some t) : kcount K c = (runesB t).length := by unfold kcount; rw [h]
theorem BInv.count {m : Nat} {tx : Int → ByteArray} {K : List (Int × ByteArray)} {Q : List QOp} {H : List QRng} (h : BInv m tx K Q H) (c : Int) :
    (kfind K c = none ∧ kcount K c = 0) ∨ ∃ n : Nat, 1 ≤ c ∧ c ≤ m ∧ 0 < n ∧ n ≤ wholeN tx c ∧ kfind K c = some (cutB (tx c) 0 n) ∧ kcount K c = n := by
  cases hf : kfind K c with
  | none => exact .inl ⟨rfl, by unfold kcount; rw [hf]⟩
  | some t =>
    obtain ⟨h1, h2, n, h3, h4, h5⟩ := h.kn _ (kfind_mem hf)
    refine .inr ⟨n, h1, h2, h3, h4, by rw [← h5], ?_⟩
    rw [kcount_of hf, show t = cutB (tx c) 0 n from h5, cutB_len _ _ _ h4]
    simp
theorem BInv.count_le {m : Nat} {tx : Int → ByteArray} (hx : Texts m tx) {K : List (Int × ByteArray)} {Q : List QOp} {H : List QRng} (h : BInv m tx K Q H) (c : Int) : 0 ≤ kcount K c ∧ kcount K c ≤ 60 := by
  rcases h.count c with ⟨_, e⟩ | ⟨n, h1, h2, _, h4, _, e⟩
  · omega
  · have := (hx.ok c h1 h2).2.2
    unfold wholeN at h4
    omega
theorem has_one_iff {r : QRng} (h : r.near) {i : QId} : hasRngs [r] i = true ↔ i.rightB = true ∧ r.inR i := by
  simp [hasRngs, ← near_has h]
theorem inR_right {m : Nat} {i : QId} {a b : Int} (hm : m ≤ 5) (h1 : 1 ≤ i.c) (h2 : i.c ≤ m) (ha : 1 ≤ a) (hb : b ≤ 100) (h3 : a ≤ i.k) (h4 : i.k < b) : i.rightB = true := by
  simp only [QId.rightB, numB, Bool.and_eq_true, decide_eq_true_eq]; omega
theorem len_incr : ∀ (l : List Int) (lo hi : Int), (∀ x ∈ l, lo ≤ x ∧ x < hi) → l.Pairwise (· < ·) → (l.length : Int) ≤ max (hi - lo) 0
  | [], _, _, _, _ => by simp; omega
  | x :: l, lo, hi, hb, hp => by
    obtain ⟨hp1, hp2⟩ := List.pairwise_cons.1 hp
    have hx := hb x (by simp)
    have := len_incr l (lo + 1) hi (fun y hy => by
      have := hb y (by simp [hy])
      have := hp1 y hy
      omega) hp2
    simp only [List.length_cons]
    omega
theorem len_nodup (l : List Int) (lo hi : Int) (hb : ∀ x ∈ l, lo ≤ x ∧ x < hi) (hn : l.Nodup) : (l.length : Int) ≤ max (hi - lo) 0 := by
  have hp := List.mergeSort_perm l fun x y => decide (x ≤ y)
  have tr : ∀ a b c : Int, decide (a ≤ b) = true → decide (b ≤ c) = true → decide (a ≤ c) = true := fun a b c h1 h2 => by simp only [decide_eq_true_eq] at *; omega
  have tot : ∀ a b : Int, (decide (a ≤ b) || decide (b ≤ a)) = true := fun a b => by simp only [Bool.or_eq_true, decide_eq_true_eq]; omega
  have hs := List.pairwise_mergeSort tr tot l
  have hn2 : (l.mergeSort fun x y => decide (x ≤ y)).Nodup := hp.nodup_iff.2 hn
  rw [← hp.length_eq]
  refine len_incr _ lo hi (fun x hx => hb x (hp.mem_iff.1 hx)) ?_
  refine (hs.and hn2).imp fun {a b} h => ?_
  have h1 := h.1
  have h2 := h.2
  simp only [decide_eq_true_eq] at h1
  omega
theorem clean_has {l : List QRng} (h : CleanL l) (i : QId) : hasRngs l i = true ↔ ∃ x ∈ l, x.inR i := by
  simp only [hasRngs, Bool.and_eq_true, List.any_eq_true]
  constructor
  · rintro ⟨_, x, hx, hh⟩
    exact ⟨x, hx, (near_has (right_near (h.1 x hx)) i).1 hh⟩
  · rintro ⟨x, hx, hh⟩
    refine ⟨?_, x, hx, (near_has (right_near (h.1 x hx)) i).2 hh⟩
    have := right_lt (h.1 x hx)
    obtain ⟨h1, h2, h3⟩ := hh
    simp only [QId.rightB, numB, Bool.and_eq_true, decide_eq_true_eq]; omega
theorem BInv.rng {m : Nat} {tx : Int → ByteArray} {K : List (Int × ByteArray)} {Q : List QOp} {H : List QRng} (h : BInv m tx K Q H) {o : QOp} (ho : o ∈ Q) :
    ∃ (c : Int) (f e : Nat), o = pc c (tx c) f e ∧ o.rng = ⟨c, 1 + f, 1 + e⟩ ∧ 1 ≤ c ∧ c ≤ m ∧ f < e ∧ e ≤ wholeN tx c ∧ kcount K c ≤ f := by
  obtain ⟨c, f, e, rfl, h1, h2, h3, h4, h5⟩ := h.q o ho
  exact ⟨c, f, e, rfl, pc_rng2 (by omega) h4, h1, h2, h3, h4, h5⟩
theorem BInv.few {m : Nat} {tx : Int → ByteArray} (hx : Texts m tx) {K : List (Int × ByteArray)} {Q : List QOp} {H : List QRng} (h : BInv m tx K Q H) : Q.length ≤ 600 ∧ H.length ≤ 600 := by
  have hm := hx.few
  have hb : ∀ o ∈ Q, 1 ≤ o.rng.c ∧ o.rng.c ≤ 5 ∧ 1 ≤ o.rng.a ∧ o.rng.a ≤ 60 ∧ o.rng.inR ⟨o.rng.c, o.rng.a⟩ ∧ o.rng.b ≤ 61 := fun o ho => by
    obtain ⟨c, f, e, _, hr, h1, h2, h3, h4, _⟩ := h.rng ho
    have := (hx.ok c h1 h2).2.2
    unfold wholeN at h4
    rw [hr]
    refine ⟨h1, by show c ≤ 5; omega, by show (1 : Int) ≤ 1 + f; omega, by show (1 : Int) + f ≤ 60; omega, ⟨rfl, Int.le_refl _, by show (1 : Int) + f < 1 + e; omega⟩, by show (1 : Int) + e ≤ 61; omega⟩
  constructor
  · have h1 := len_nodup (Q.map fun o => 100 * o.rng.c + o.rng.a) 0 600 (fun x hxm => by
      obtain ⟨o, ho, rfl⟩ := List.mem_map.1 hxm
      have := hb o ho
      omega) (by
      refine List.pairwise_map.2 (h.apart.imp_of_mem fun {x y} hx' hy' hne e => ?_)
      have b1 := hb x hx'
      have b2 := hb y hy'
      have e1 : x.rng.c = y.rng.c := by omega
      have e2 : x.rng.a = y.rng.a := by omega
      refine hne _ b1.2.2.2.2.1 ?_
      rw [e1, e2]
      exact b2.2.2.2.2.1)
    rw [List.length_map] at h1
    omega
  · have hbh : ∀ x ∈ H, 1 ≤ x.c ∧ x.c ≤ 5 ∧ 1 ≤ x.a ∧ x.a ≤ 60 ∧ x.a < x.b := fun x hxm => by
      have hr := right_lt (h.hc.1 x hxm)
      have h1 := (clean_has h.hc ⟨x.c, x.a⟩).2 ⟨x, hxm, rfl, Int.le_refl _, hr.1⟩
      obtain ⟨o, ho, ⟨e1, e2, e3⟩⟩ := (h.hh _).1 h1
      have := hb o ho
      dsimp only at e1 e2 e3
      omega
    have h1 := len_incr (H.map fun x => 100 * x.c + x.a) 0 600 (fun y hy => by
      obtain ⟨x, hxm, rfl⟩ := List.mem_map.1 hy
      have := hbh x hxm
      omega) (List.pairwise_map.2 (h.hc.2.imp_of_mem fun {x y} hx' hy' h => by
        have := hbh x hx'
        have := hbh y hy'
        omega))
    rw [List.length_map] at h1
    omega
theorem pcR_rng {t : ByteArray} {x : QRng} (h1 : 1 ≤ x.a) (h2 : x.a ≤ x.b) (h3 : x.b - 1 ≤ (runesB t).length) : (pcR t x).rng = x := by
  unfold pcR
  rw [pc_rng2 (by omega) (by omega)]
  obtain ⟨c, a, b⟩ := x
  dsimp only at *
  congr 1 <;> omega
theorem waitRng_near {n c I J : Int} (h1 : 1 ≤ c) (h2 : c ≤ 5) (h3 : 1 ≤ I) (h4 : J ≤ 100) (h5 : 0 ≤ n) (h6 : 1 ≤ J) : (waitRng n c I J).near := by
  unfold waitRng QRng.near
  dsimp only
  split <;> omega
/-- what comes to wait. -/
theorem BInv.wait {m : Nat} {tx : Int → ByteArray} (hx : Texts m tx) {K : List (Int × ByteArray)} {Q : List QOp} {H : List QRng} (h : BInv m tx K Q H) {c : Int} {f e : Nat} (hc1 : 1 ≤ c) (hc2 : c ≤ m) (he : e ≤ wholeN tx c) {xs H' : List QRng}
    (h1 : CleanL xs) (h2 : ∀ i, hasRngs xs i = (hasRngs [waitRng (kcount K c) c (1 + f) (1 + e)] i && !hasRngs H i)) (h3 : CleanL H') (h4 : ∀ i, hasRngs H' i = (hasRngs H i || hasRngs [waitRng (kcount K c) c (1 + f) (1 + e)] i)) :
    BInv m tx K (Q ++ xs.map (pcR (tx c))) H' := by
  have hw := clean_within h1 (r := waitRng (kcount K c) c (1 + f) (1 + e)) fun i hi => by
    rw [h2 i, Bool.and_eq_true] at hi
    exact hi.1
  have hn := h.count_le hx c
  have hwn : ∀ x ∈ xs, x.c = c ∧ 1 + (f : Int) ≤ x.a ∧ x.a < x.b ∧ x.b ≤ 1 + e ∧ kcount K c + 1 ≤ x.a := fun x hxm => by
    obtain ⟨e1, e2, e3, e4⟩ := hw x hxm
    unfold waitRng at e1 e2 e4
    dsimp only at e1 e2 e4
    split at e2 <;> omega
  have hN := (hx.ok c hc1 hc2).2
  have hwl : (wholeN tx c : Int) = (runesB (tx c)).length := rfl
  have hrg : ∀ x ∈ xs, (pcR (tx c) x).rng = x := fun x hxm => by
    have := hwn x hxm
    exact pcR_rng (by omega) (by omega) (by omega)
  refine { keys := h.keys, kn := h.kn, q := ?_, apart := ?_, hc := h3, hh := ?_ }
  · intro o ho
    rcases List.mem_append.1 ho with ho | ho
    · exact h.q o ho
    · obtain ⟨x, hxm, rfl⟩ := List.mem_map.1 ho
      obtain ⟨e1, e2, e3, e4, e5⟩ := hwn x hxm
      refine ⟨c, (x.a - 1).toNat, (x.b - 1).toNat, by unfold pcR; rw [e1], hc1, hc2, by omega, by omega, by omega⟩
  · refine List.pairwise_append.2 ⟨h.apart, ?_, ?_⟩
    · refine List.pairwise_map.2 (h1.2.imp_of_mem fun {x y} hx' hy' hxy i hi hj => ?_)
      rw [hrg x hx'] at hi
      rw [hrg y hy'] at hj
      obtain ⟨a1, a2, a3⟩ := hi
      obtain ⟨b1, b2, b3⟩ := hj
      omega
    · intro o ho p hp i hi hj
      obtain ⟨x, hxm, rfl⟩ := List.mem_map.1 hp
      rw [hrg x hxm] at hj
      have g1 := (h.hh i).2 ⟨o, ho, hi⟩
      have g2 := (clean_has h1 i).2 ⟨x, hxm, hj⟩
      rw [h2 i, g1] at g2
      simp at g2
  · intro i
    rw [h4 i, Bool.or_eq_true]
    constructor
    · rintro (g | g)
      · obtain ⟨o, ho, hi⟩ := (h.hh i).1 g
        exact ⟨o, List.mem_append_left _ ho, hi⟩
      · cases g2 : hasRngs H i
        · have g3 := h2 i
          rw [g, g2] at g3
          obtain ⟨x, hxm, hi⟩ := (clean_has h1 i).1 g3
          exact ⟨_, List.mem_append_right _ (List.mem_map.2 ⟨x, hxm, rfl⟩), by rw [hrg x hxm]; exact hi⟩
        · obtain ⟨o, ho, hi⟩ := (h.hh i).1 g2
          exact ⟨o, List.mem_append_left _ ho, hi⟩
    · rintro ⟨o, ho, hi⟩
      rcases List.mem_append.1 ho with ho | ho
      · exact .inl ((h.hh i).2 ⟨o, ho, hi⟩)
      · obtain ⟨x, hxm, rfl⟩ := List.mem_map.1 ho
        rw [hrg x hxm] at hi
        have g := (clean_has h1 i).2 ⟨x, hxm, hi⟩
        rw [h2 i, Bool.and_eq_true] at g
        exact .inr g.1
theorem kfind_cons (p : Int × ByteArray) (K : List (Int × ByteArray)) (c : Int) : kfind (p :: K) c = if p.1 = c then some p.2 else kfind K c := by
  unfold kfind
  rw [List.find?_cons]
  by_cases h : p.1 = c
  · simp [h]
  · simp [h]
theorem kfind_map (c : Int) (u : ByteArray) (d : Int) : ∀ K : List (Int × ByteArray), kfind (K.map fun p => if p.1 = c then (p.1, p.2 ++ u) else p) d = (kfind K d).map fun t => if d = c then t ++ u else t
  | [] => rfl
  | p :: K => by
    rw [List.map_cons, kfind_cons, kfind_cons, kfind_map c u d K]
    by_cases h1 : p.1 = c
    · rw [if_pos h1]
      by_cases h2 : p.1 = d
      · rw [if_pos h2, if_pos h2, Option.map_some, if_pos (h2.symm.trans h1)]
      · rw [if_neg h2, if_neg h2]
    · rw [if_neg h1]
      by_cases h2 : p.1 = d
      · have : ¬ d = c := fun e => h1 (h2.trans e)
        simp [h2, this]
      · simp [h2]
theorem kfind_append (c : Int) (u : ByteArray) (d : Int) : ∀ K : List (Int × ByteArray), kfind (K ++ [(c, u)]) d = match kfind K d with | some t => some t | none => if c = d then some u else none
  | [] => by rw [List.nil_append, kfind_cons]; rfl
  | p :: K => by
    rw [List.cons_append, kfind_cons, kfind_cons, kfind_append c u d K]
    by_cases h2 : p.1 = d
    · simp [h2]
    · simp [h2]
theorem kfind_kadd (K : List (Int × ByteArray)) (c : Int) (u : ByteArray) (d : Int) : kfind (kadd K c u) d = if d = c then some (((kfind K c).getD ⟨#[]⟩) ++ u) else kfind K d := by
  unfold kadd
  cases h : kfind K c with
  | some t =>
    dsimp only
    rw [kfind_map]
    by_cases hd : d = c
    · subst hd; simp [h]
    · simp [hd]
  | none =>
    dsimp only
    rw [kfind_append]
    by_cases hd : d = c
    · subst hd
      rw [h]
      have : (⟨#[]⟩ : ByteArray) ++ u = u := by apply ext_bytes; simp
      simp [this]
    · rw [if_neg hd]
      have : ¬ c = d := fun e => hd e.symm
      cases kfind K d <;> simp [this]
theorem kadd_mem {K : List (Int × ByteArray)} (hk : (K.map (·.1)).Nodup) {c : Int} {u : ByteArray} {p : Int × ByteArray} (hp : p ∈ kadd K c u) : p ∈ K ∧ p.1 ≠ c ∨ p = (c, ((kfind K c).getD ⟨#[]⟩) ++ u) := by
  have h1 := kadd_keys K c u hk
  have h2 : kfind (kadd K c u) p.1 = some p.2 := by
    have : ∀ l : List (Int × ByteArray), (l.map (·.1)).Nodup → p ∈ l → kfind l p.1 = some p.2 := by
      intro l
      induction l with
      | nil => intro _ h; simp at h
      | cons q l ih =>
        intro hn hm
        rw [List.map_cons, List.nodup_cons] at hn
        rw [kfind_cons]
        rcases List.mem_cons.1 hm with rfl | hm
        · simp
        · rw [if_neg (fun e : q.1 = p.1 => hn.1 (by rw [e]; exact List.mem_map.2 ⟨p, hm, rfl⟩))]
          exact ih hn.2 hm
    exact this _ h1 hp
  rw [kfind_kadd] at h2
  by_cases h3 : p.1 = c
  · rw [if_pos h3] at h2
    right
    obtain ⟨a, b⟩ := p
    simp only [Option.some.injEq] at h2
    rw [h2]
    exact Prod.ext h3 rfl
  · rw [if_neg h3] at h2
    left
    exact ⟨kfind_mem h2, h3⟩
theorem eraseIdx_mem {α : Type} {l : List α} {k : Nat} {x : α} (h : x ∈ l.eraseIdx k) : ∃ j, j ≠ k ∧ l[j]? = some x := by
  obtain ⟨j, hj⟩ := List.mem_iff_getElem?.1 h
  rw [List.getElem?_eraseIdx] at hj
  by_cases h1 : j < k
  · rw [if_pos h1] at hj; exact ⟨j, by omega, hj⟩
  · rw [if_neg h1] at hj; exact ⟨j + 1, by omega, hj⟩
theorem mem_eraseIdx' {α : Type} {l : List α} {k j : Nat} {x : α} (h : l[j]? = some x) (hne : j ≠ k) : x ∈ l.eraseIdx k := by
  refine List.mem_iff_getElem?.2 ?_
  by_cases h1 : j < k
  · exact ⟨j, by rw [List.getElem?_eraseIdx, if_pos h1]; exact h⟩
  · refine ⟨j - 1, ?_⟩
    rw [List.getElem?_eraseIdx, if_neg (by omega), show j - 1 + 1 = j by omega]
    exact h
theorem pairwise_ne {α : Type} {R : α → α → Prop} (hs : ∀ x y, R x y → R y x) {l : List α} (h : l.Pairwise R) {i j : Nat} {x y : α} (hi : l[i]? = some x) (hj : l[j]? = some y) (hne : i ≠ j) : R x y := by
  obtain ⟨h1, rfl⟩ := List.getElem?_eq_some_iff.1 hi
  obtain ⟨h2, rfl⟩ := List.getElem?_eq_some_iff.1 hj
  rw [List.pairwise_iff_getElem] at h
  rcases Nat.lt_or_gt_of_ne hne with h3 | h3
  · exact h i j h1 h2 h3
  · exact hs _ _ (h j i h2 h1 h3)
/-- what is ready is taken. -/
theorem BInv.take {m : Nat} {tx : Int → ByteArray} (hx : Texts m tx) {K : List (Int × ByteArray)} {Q : List QOp} {H : List QRng} (h : BInv m tx K Q H) {k : Nat} {c : Int} {f e : Nat} (ho : Q[k]? = some (pc c (tx c) f e)) (hc1 : 1 ≤ c) (hc2 : c ≤ m) (hf : f < e) (he : e ≤ wholeN tx c)
    (hr : kcount K c = f) {H' : List QRng} (h3 : CleanL H') (h4 : ∀ i, hasRngs H' i = (hasRngs H i && !hasRngs [(⟨c, 1 + f, 1 + e⟩ : QRng)] i)) :
    BInv m tx (kadd K c (cutB (tx c) f e)) (Q.eraseIdx k) H' ∧ kcount (kadd K c (cutB (tx c) f e)) c = e ∧ kfind (kadd K c (cutB (tx c) f e)) c = some (cutB (tx c) 0 e) := by
  have hN := (hx.ok c hc1 hc2).2
  have hm := hx.few
  have he' : e ≤ (runesB (tx c)).length := he
  have hnew : ((kfind K c).getD ⟨#[]⟩) ++ cutB (tx c) f e = cutB (tx c) 0 e := by
    rcases h.count c with ⟨h1, h2⟩ | ⟨n, _, _, _, _, h1, h2⟩
    · obtain rfl : f = 0 := by omega
      rw [h1]
      apply ext_bytes; simp
    · obtain rfl : f = n := by omega
      rw [h1]
      exact cutB_append (tx c) (Nat.zero_le _) (by omega)
  have hk2 : kfind (kadd K c (cutB (tx c) f e)) c = some (cutB (tx c) 0 e) := by rw [kfind_kadd, if_pos rfl, hnew]
  have hcnt : kcount (kadd K c (cutB (tx c) f e)) c = e := by
    rw [kcount_of hk2, cutB_len _ _ _ he']; simp
  have hcnt2 : ∀ d, d ≠ c → kcount (kadd K c (cutB (tx c) f e)) d = kcount K d := fun d hd => by
    unfold kcount
    rw [kfind_kadd, if_neg hd]
  have horng : (pc c (tx c) f e).rng = ⟨c, 1 + f, 1 + e⟩ := pc_rng2 (by omega) he'
  have hdis : ∀ o' j, Q[j]? = some o' → j ≠ k → ∀ i, o'.rng.inR i → ¬ (pc c (tx c) f e).rng.inR i := fun o' j hj hne =>
    pairwise_ne (R := fun x y : QOp => ∀ i, x.rng.inR i → ¬ y.rng.inR i) (fun x y hxy i h1 h2 => hxy i h2 h1) h.apart hj ho hne
  refine ⟨{ keys := kadd_keys K c _ h.keys, kn := ?_, q := ?_, apart := h.apart.sublist (List.eraseIdx_sublist _ _), hc := h3, hh := ?_ }, hcnt, hk2⟩
  · intro p hp
    rcases kadd_mem h.keys hp with ⟨h1, _⟩ | rfl
    · exact h.kn p h1
    · exact ⟨hc1, hc2, e, by omega, he, hnew⟩
  · intro o' hm'
    obtain ⟨j, hne, hj⟩ := eraseIdx_mem hm'
    obtain ⟨c', f', e', rfl, hr', g1, g2, g3, g4, g5⟩ := h.rng (List.mem_of_getElem? hj)
    refine ⟨c', f', e', rfl, g1, g2, g3, g4, ?_⟩
    by_cases hcc : c' = c
    · subst hcc
      rw [hcnt]
      rw [hr] at g5
      have := hdis _ j hj hne ⟨c', 1 + f'⟩
      rw [hr', horng] at this
      have h5 := this ⟨rfl, Int.le_refl _, by show (1 : Int) + f' < 1 + e'; omega⟩
      have h6 : ¬ (f' : Int) < e := fun h6 => h5 ⟨rfl, by show (1 : Int) + f ≤ 1 + f'; omega, by show (1 : Int) + f' < 1 + e; omega⟩
      omega
    · rw [hcnt2 c' hcc]; exact g5
  · intro i
    have hnear : (⟨c, 1 + f, 1 + e⟩ : QRng).near := by
      unfold QRng.near
      dsimp only
      omega
    rw [h4 i, Bool.and_eq_true]
    constructor
    · rintro ⟨g1, g2⟩
      obtain ⟨o', ho', hi⟩ := (h.hh i).1 g1
      obtain ⟨j, hj⟩ := List.mem_iff_getElem?.1 ho'
      refine ⟨o', mem_eraseIdx' hj ?_, hi⟩
      rintro rfl
      rw [ho] at hj
      cases hj
      rw [horng] at hi
      have hri : i.rightB = true := by
        simp only [hasRngs, Bool.and_eq_true] at g1
        exact g1.1
      have := (has_one_iff hnear).2 ⟨hri, hi⟩
      rw [this] at g2
      simp at g2
    · rintro ⟨o', hm', hi⟩
      obtain ⟨j, hne, hj⟩ := eraseIdx_mem hm'
      refine ⟨(h.hh i).2 ⟨o', List.mem_of_getElem? hj, hi⟩, ?_⟩
      have := hdis o' j hj hne i hi
      rw [horng] at this
      cases g : hasRngs [(⟨c, 1 + f, 1 + e⟩ : QRng)] i
      · rfl
      · exact absurd ((has_one_iff hnear).1 g).2 this
/-- each clock of a client is known, or waits. -/
def Cov (tx : Int → ByteArray) (K : List (Int × ByteArray)) (Q : List QOp) (c : Int) : Prop := ∀ k : Nat, k < wholeN tx c → (k : Int) < kcount K c ∨ ∃ o ∈ Q, o.rng.inR ⟨c, 1 + k⟩
theorem Cov.wait {tx : Int → ByteArray} {K : List (Int × ByteArray)} {Q : List QOp} {c : Int} (h : Cov tx K Q c) (l : List QOp) : Cov tx K (Q ++ l) c := fun k hk => by
  rcases h k hk with h1 | ⟨o, ho, hi⟩
  · exact .inl h1
  · exact .inr ⟨o, List.mem_append_left _ ho, hi⟩
theorem cov_whole {m : Nat} {tx : Int → ByteArray} (hx : Texts m tx) {K : List (Int × ByteArray)} {Q : List QOp} {H : List QRng} (h : BInv m tx K Q H) {c : Int} (hc1 : 1 ≤ c) (hc2 : c ≤ m) {xs : List QRng}
    (h1 : CleanL xs) (h2 : ∀ i, hasRngs xs i = (hasRngs [waitRng (kcount K c) c (1 + (0 : Nat)) (1 + wholeN tx c)] i && !hasRngs H i)) : Cov tx K (Q ++ xs.map (pcR (tx c))) c := by
  intro k hk
  have hm := hx.few
  have hN := (hx.ok c hc1 hc2).2
  have hn := h.count_le hx c
  have hw : (wholeN tx c : Int) = (runesB (tx c)).length := rfl
  by_cases hlt : (k : Int) < kcount K c
  · exact .inl hlt
  · refine .inr ?_
    have hri : (⟨c, 1 + (k : Int)⟩ : QId).rightB = true := by
      simp only [QId.rightB, numB, Bool.and_eq_true, decide_eq_true_eq]; omega
    cases g : hasRngs H ⟨c, 1 + (k : Int)⟩
    · have g1 : hasRngs [waitRng (kcount K c) c (1 + (0 : Nat)) (1 + wholeN tx c)] ⟨c, 1 + (k : Int)⟩ = true := by
        refine (has_one_iff (waitRng_near hc1 (by omega) (by omega) (by omega) (by omega) (by omega))).2 ⟨hri, rfl, ?_, ?_⟩
        · unfold waitRng
          dsimp only
          split <;> omega
        · show (1 : Int) + k < 1 + wholeN tx c
          omega
      have g2 := h2 ⟨c, 1 + (k : Int)⟩
      rw [g, g1] at g2
      obtain ⟨x, hxm, hi⟩ := (clean_has h1 _).1 g2
      have hwi := clean_within h1 (r := waitRng (kcount K c) c (1 + (0 : Nat)) (1 + wholeN tx c)) (fun i hi => by
        rw [h2 i, Bool.and_eq_true] at hi
        exact hi.1) x hxm
      refine ⟨pcR (tx c) x, List.mem_append_right _ (List.mem_map.2 ⟨x, hxm, rfl⟩), ?_⟩
      rw [pcR_rng (right_lt (h1.1 x hxm)).2.1 (by omega) ?_]
      · exact hi
      · have := hwi.2.2.2
        unfold waitRng at this
        dsimp only at this
        omega
    · obtain ⟨o, ho, hi⟩ := (h.hh _).1 g
      exact ⟨o, List.mem_append_left _ ho, hi⟩
theorem Cov.take {tx : Int → ByteArray} {K : List (Int × ByteArray)} {Q : List QOp} {k : Nat} {c : Int} {f e : Nat} (ho : Q[k]? = some (pc c (tx c) f e)) (hf : f < e) (he : e ≤ wholeN tx c)
    (hcnt : kcount (kadd K c (cutB (tx c) f e)) c = e) (hle : kcount K c ≤ e) {d : Int} (h : Cov tx K Q d) : Cov tx (kadd K c (cutB (tx c) f e)) (Q.eraseIdx k) d := by
  intro j hj
  have hcnt2 : d ≠ c → kcount (kadd K c (cutB (tx c) f e)) d = kcount K d := fun hd => by
    unfold kcount
    rw [kfind_kadd, if_neg hd]
  rcases h j hj with h1 | ⟨o, hom, hi⟩
  · left
    by_cases hd : d = c
    · subst hd; rw [hcnt]; omega
    · rw [hcnt2 hd]; exact h1
  · obtain ⟨i, hig⟩ := List.mem_iff_getElem?.1 hom
    by_cases hik : i = k
    · subst hik
      rw [ho] at hig
      cases hig
      rw [pc_rng2 (by omega) he] at hi
      obtain ⟨e1, e2, e3⟩ := hi
      dsimp only at e1 e2 e3
      subst e1
      left
      rw [hcnt]; omega
    · exact .inr ⟨o, mem_eraseIdx' hig hik, hi⟩
/-- may it be taken? -/
def readyO (K : List (Int × ByteArray)) (o : QOp) : Prop := o.id.k ≤ kcount K o.id.c + 1
theorem BInv.done {m : Nat} {tx : Int → ByteArray} (hx : Texts m tx) {K : List (Int × ByteArray)} {Q : List QOp} {H : List QRng} (h : BInv m tx K Q H) (hcov : ∀ c : Int, 1 ≤ c → c ≤ m → Cov tx K Q c) (hno : ∀ o ∈ Q, ¬ readyO K o) :
    Q = [] ∧ H = [] ∧ (∀ c : Int, 1 ≤ c → c ≤ m → kfind K c = some (tx c)) ∧ ∀ p ∈ K, 1 ≤ p.1 ∧ p.1 ≤ m := by
  have hfull : ∀ c : Int, 1 ≤ c → c ≤ m → kcount K c = wholeN tx c := by
    intro c h1 h2
    have hle : 0 ≤ kcount K c ∧ kcount K c ≤ wholeN tx c := by
      rcases h.count c with ⟨_, e⟩ | ⟨n, _, _, _, h4, _, e⟩
      · omega
      · omega
    rcases Int.lt_or_le (kcount K c) (wholeN tx c) with h3 | h3
    · exfalso
      obtain ⟨k, hk⟩ := Int.eq_ofNat_of_zero_le hle.1
      rcases hcov c h1 h2 k (by omega) with h5 | ⟨o, ho, hi⟩
      · omega
      · obtain ⟨c', f, e, rfl, hr, g1, g2, g3, g4, g5⟩ := h.rng ho
        rw [hr] at hi
        obtain ⟨e1, e2, e3⟩ := hi
        dsimp only at e1 e2 e3
        subst e1
        refine hno _ ho ?_
        show (1 : Int) + f ≤ kcount K c' + 1
        omega
    · omega
  have hQ : Q = [] := by
    cases Q with
    | nil => rfl
    | cons o Q =>
      obtain ⟨c, f, e, _, h1, h2, h3, h4, h5⟩ := h.q o (by simp)
      have := hfull c h1 h2
      omega
  refine ⟨hQ, ?_, ?_, fun p hp => ⟨(h.kn p hp).1, (h.kn p hp).2.1⟩⟩
  · refine clean_none h.hc fun i => ?_
    cases g : hasRngs H i
    · rfl
    · obtain ⟨o, ho, _⟩ := (h.hh i).1 g
      rw [hQ] at ho
      simp at ho
  · intro c h1 h2
    have hok := hx.ok c h1 h2
    rcases h.count c with ⟨_, e⟩ | ⟨n, _, _, h3, h4, h5, e⟩
    · have := hfull c h1 h2
      unfold wholeN at this
      omega
    · have := hfull c h1 h2
      obtain rfl : n = wholeN tx c := by omega
      rw [h5, cutB_all hok.1 (show (runesB (tx c)).length ≤ wholeN tx c from Nat.le_refl _)]
end Go.Proofs.YthhbiliimdpgmaaGreatDoor
/- Plain: clean lists of ranges that hold the same ids are one. -/
namespace Go.Proofs.YthhbiliimdpgmaaGreatDoor

theorem clean_head {x : QRng} {D : List QRng} (h : CleanL (x :: D)) {u : QRng} (hu : u ∈ x :: D) : x.c < u.c ∨ (x.c = u.c ∧ x.a ≤ u.a) := by
  rcases List.mem_cons.1 hu with rfl | hu
  · exact .inr ⟨rfl, Int.le_refl _⟩
  · have h1 := (List.pairwise_cons.1 h.2).1 u hu
    have h2 := right_lt (h.1 x (by simp))
    omega
theorem clean_tail {x : QRng} {D : List QRng} (h : CleanL (x :: D)) : CleanL D := ⟨fun r hr => h.1 r (List.mem_cons_of_mem _ hr), (List.pairwise_cons.1 h.2).2⟩
theorem clean_sub {x y : QRng} {D E : List QRng} (hD : CleanL (x :: D)) (hE : CleanL (y :: E)) (he : ∀ i, hasRngs (x :: D) i = hasRngs (y :: E) i) : y.c < x.c ∨ (y.c = x.c ∧ y.a ≤ x.a) := by
  have hx := right_lt (hD.1 x (by simp))
  have h1 : hasRngs (x :: D) ⟨x.c, x.a⟩ = true := (clean_has hD _).2 ⟨x, by simp, rfl, Int.le_refl _, hx.1⟩
  rw [he, clean_has hE] at h1
  obtain ⟨z, hz, hc, ha, hb⟩ := h1
  have := clean_head hE hz
  have hc' : z.c = x.c := hc
  have ha' : z.a ≤ x.a := ha
  omega
theorem clean_end {x y : QRng} {D E : List QRng} (hD : CleanL (x :: D)) (hE : CleanL (y :: E)) (he : ∀ i, hasRngs (x :: D) i = hasRngs (y :: E) i) (hc : x.c = y.c) (ha : x.a = y.a) : y.b ≤ x.b := by
  rcases Int.lt_or_le x.b y.b with h | h
  · exfalso
    have hx := right_lt (hD.1 x (by simp))
    have h1 : hasRngs (y :: E) ⟨x.c, x.b⟩ = true := (clean_has hE _).2 ⟨y, by simp, hc.symm, by show y.a ≤ x.b; omega, h⟩
    rw [← he, clean_has hD] at h1
    obtain ⟨z, hz, hzc, hza, hzb⟩ := h1
    have hzc' : z.c = x.c := hzc
    have hza' : z.a ≤ x.b := hza
    have hzb' : x.b < z.b := hzb
    rcases List.mem_cons.1 hz with rfl | hz
    · omega
    · have := (List.pairwise_cons.1 hD.2).1 z hz
      omega
  · exact h
theorem clean_rest {x : QRng} {D : List QRng} (hD : CleanL (x :: D)) (i : QId) : hasRngs D i = true ↔ hasRngs (x :: D) i = true ∧ ¬ x.inR i := by
  rw [clean_has hD, clean_has (clean_tail hD)]
  constructor
  · rintro ⟨z, hz, h1, h2, h3⟩
    refine ⟨⟨z, List.mem_cons_of_mem _ hz, h1, h2, h3⟩, fun ⟨g1, g2, g3⟩ => ?_⟩
    have := (List.pairwise_cons.1 hD.2).1 z hz
    omega
  · rintro ⟨⟨z, hz, h1⟩, h2⟩
    rcases List.mem_cons.1 hz with rfl | hz
    · exact absurd h1 h2
    · exact ⟨z, hz, h1⟩
theorem clean_unique : ∀ (D E : List QRng), CleanL D → CleanL E → (∀ i, hasRngs D i = hasRngs E i) → D = E
  | [], E, _, hE, he => (clean_none hE fun i => by rw [← he]; simp [hasRngs]).symm
  | x :: D, [], hD, _, he => clean_none hD fun i => by rw [he]; simp [hasRngs]
  | x :: D, y :: E, hD, hE, he => by
    have h1 := clean_sub hD hE he
    have h2 := clean_sub hE hD fun i => (he i).symm
    have hc : x.c = y.c := by omega
    have ha : x.a = y.a := by omega
    have h3 := clean_end hD hE he hc ha
    have h4 := clean_end hE hD (fun i => (he i).symm) hc.symm ha.symm
    have hxy : x = y := by
      obtain ⟨c, a, b⟩ := x
      obtain ⟨c', a', b'⟩ := y
      simp only [QRng.mk.injEq]
      dsimp only at hc ha h3 h4
      omega
    subst hxy
    congr 1
    refine clean_unique D E (clean_tail hD) (clean_tail hE) fun i => ?_
    have := clean_rest hD i
    have := clean_rest hE i
    rw [Bool.eq_iff_iff]
    rw [clean_rest hD, clean_rest hE, he]
theorem clean_single {r : QRng} (h : r.rightB = true) : CleanL [r] := ⟨by simpa using h, by simp⟩
end Go.Proofs.YthhbiliimdpgmaaGreatDoor
