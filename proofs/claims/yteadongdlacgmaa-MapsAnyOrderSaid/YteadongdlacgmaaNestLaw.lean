/- Plain: maps within maps, covered and hidden: what is seen. -/
import Derived.Test.YteadongdlacgmaaEntLaw
import Derived.Test.YteadongdlacgmaaKnownLaw
namespace Go.Proofs.Yteadongdlacgmaa

/-- the map at depth i. -/
def atId (i : Nat) : QId := if i = 0 then idZero else ⟨1, 99 + (i : Int)⟩
def chainOp (i : Nat) : QOp := mkOp (100 + (i : Int)) 7 (atId i) sM kMap
def chain (d : Nat) : List QOp := (List.range d).map chainOp
def cover : QOp := mkOp 50 8 idZero sM ⟨2, 3, 0, ⟨#[]⟩⟩
def abcAt (z : Int) : ByteArray := if z % 3 = 0 then ⟨#[97]⟩ else if z % 3 = 1 then ⟨#[98]⟩ else ⟨#[99]⟩
def leafOp (p : QId) (zs : List Int) (i : Nat) : QOp := mkOp (200 + (i : Int)) (zs.getD i 0 % 8 + 1) p (abcAt (zs.getD i 0)) ⟨2, i, 0, ⟨#[]⟩⟩
def leaves (p : QId) (zs : List Int) (n : Nat) : List QOp := (List.range n).map (leafOp p zs)
def chainM (d : Nat) : QMaps := ⟨chain d, []⟩
def coverM (d : Nat) : QMaps := ⟨chain d ++ [cover], []⟩
def nestM (d : Nat) (zs : List Int) (n : Nat) (hid : List QRng) : QMaps := ⟨chain d ++ [cover] ++ leaves (atId d) zs n, hid⟩
def wantM (zs : List Int) (n : Nat) : QMaps := ⟨leaves idZero zs n, []⟩

theorem leaves_succ (p : QId) (zs : List Int) (n : Nat) : leaves p zs (n + 1) = leaves p zs n ++ [leafOp p zs n] := by simp [leaves, List.range_succ]
theorem chain_succ (d : Nat) : chain (d + 1) = chain d ++ [chainOp d] := by simp [chain, List.range_succ]
theorem clean_of {v : QVal} (h : v.f = 0) : v.clean = v := by
  unfold QVal.clean
  rw [h, show nanB 0 = false by decide +kernel]
  rfl
theorem mkOp_clean (cl st : Int) (p : QId) (k : ByteArray) (v : QVal) (h : v.f = 0) : (mkOp cl st p k v).clean = mkOp cl st p k v := by
  unfold QOp.clean mkOp
  simp only [clean_of h]
theorem chainM_succ (d : Nat) : chainM (d + 1) = (chainM d).set (chainOp d) := by
  unfold QMaps.set chainM
  rw [chain_succ, show (chainOp d).clean = chainOp d from mkOp_clean _ _ _ _ _ rfl]
theorem coverM_set (d : Nat) : coverM d = (chainM d).set cover := by
  unfold QMaps.set coverM chainM
  rw [show cover.clean = cover from mkOp_clean _ _ _ _ _ rfl]
theorem nestM_succ (d : Nat) (zs : List Int) (n : Nat) (hid : List QRng) : nestM d zs (n + 1) hid = (nestM d zs n hid).set (leafOp (atId d) zs n) := by
  unfold QMaps.set nestM
  rw [leaves_succ, show (leafOp (atId d) zs n).clean = leafOp (atId d) zs n from mkOp_clean _ _ _ _ _ rfl, ← List.append_assoc]
theorem wantM_succ (zs : List Int) (n : Nat) : wantM zs (n + 1) = (wantM zs n).set (leafOp idZero zs n) := by
  unfold QMaps.set wantM
  rw [leaves_succ, show (leafOp idZero zs n).clean = leafOp idZero zs n from mkOp_clean _ _ _ _ _ rfl]

theorem chain_setB : ∀ d, d < 6 → (chainM d).setB (chainOp d) = true := by decide +kernel
theorem cover_setB : ∀ d, d < 7 → (chainM d).setB cover = true := by decide +kernel
theorem chainM_wf : ∀ d, d ≤ 6 → MWf (chainM d).ops
  | 0, _ => MWf.nil
  | d + 1, h => by rw [chainM_succ]; exact (chainM_wf d (by omega)).snoc (chain_setB d (by omega))
theorem coverM_wf (d : Nat) (h : d ≤ 6) : MWf (coverM d).ops := by rw [coverM_set]; exact (chainM_wf d h).snoc (cover_setB d (by omega))

theorem mem_leaves {p : QId} {zs : List Int} {n : Nat} {o : QOp} (h : o ∈ leaves p zs n) : ∃ i, i < n ∧ o = leafOp p zs i := by
  simp only [leaves, List.mem_map, List.mem_range] at h
  obtain ⟨i, hi, rfl⟩ := h
  exact ⟨i, hi, rfl⟩
theorem chain_small : ∀ d, d < 7 → ∀ o ∈ chain d ++ [cover], o.id.k < 200 := by decide +kernel
theorem chain_par : ∀ d, d < 6 → ∀ o ∈ chain (d + 1) ++ [cover], o.parent ≠ atId (d + 1) := by decide +kernel
theorem at_append {a b : List QOp} {hid : List QRng} {i : QId} {o : QOp} (h : QMaps.at_ ⟨a, []⟩ i = some o) : QMaps.at_ ⟨a ++ b, hid⟩ i = some o := by
  unfold QMaps.at_ at *
  simp only at *
  rw [List.find?_append, h]; rfl
theorem top_map : ∀ d, d < 7 → d = 0 ∨ ∃ o, QMaps.at_ ⟨chain d ++ [cover], []⟩ (atId d) = some o ∧ o.v.kind = 5 ∧ o.kind = 4 := fun d hd => by
  rcases Nat.eq_zero_or_pos d with h | h
  · exact .inl h
  · right
    have : ∀ d, d < 6 → (QMaps.at_ ⟨chain (d + 1) ++ [cover], []⟩ (atId (d + 1))) = some (chainOp d) := by decide +kernel
    have h2 := this (d - 1) (by omega)
    rw [Nat.sub_add_cancel h] at h2
    exact ⟨_, h2, rfl, rfl⟩
theorem leaf_right (p : QId) (zs : List Int) (n : Nat) (hn : n ≤ 1000) : (leafOp p zs n).id.rightB = true := by
  show (numB 1 && numB (200 + (n : Int))) = true
  simp [numB]; omega
theorem nest_setB (d : Nat) (hd : d < 7) (zs : List Int) (n : Nat) (hn : n ≤ 1000) (hid : List QRng) : (nestM d zs n hid).setB (leafOp (atId d) zs n) = true := by
  have h1 : (nestM d zs n hid).has (leafOp (atId d) zs n).id = false := by
    cases h : (nestM d zs n hid).has (leafOp (atId d) zs n).id with
    | false => rfl
    | true =>
      unfold QMaps.has QMaps.at_ at h
      rw [List.find?_isSome] at h
      obtain ⟨o, ho, he⟩ := h
      have e := congrArg QId.k (of_decide_eq_true he)
      have e2 : o.id.k = 200 + (n : Int) := e
      rcases List.mem_append.1 ho with ho | ho
      · have := chain_small d hd o ho; omega
      · obtain ⟨i, hi, rfl⟩ := mem_leaves ho
        have e3 : (200 + (i : Int)) = 200 + (n : Int) := e2
        omega
  have h3 : (nestM d zs n hid).isMap (leafOp (atId d) zs n).parent = true := by
    unfold QMaps.isMap
    rcases top_map d hd with h | ⟨o, h, h5, h4⟩
    · subst h; simp [leafOp, mkOp, atId]
    · have := at_append (b := leaves (atId d) zs n) (hid := hid) h
      show (_ || (match QMaps.at_ ⟨chain d ++ [cover] ++ leaves (atId d) zs n, hid⟩ (atId d) with | some o => _ | none => _)) = true
      rw [this]
      simp [h5, h4]
  simp only [QMaps.setB, h1, leaf_right _ zs n hn, h3]
  rfl
theorem want_setB (zs : List Int) (n : Nat) (hn : n ≤ 1000) : (wantM zs n).setB (leafOp idZero zs n) = true := by
  have h1 : (wantM zs n).has (leafOp idZero zs n).id = false := by
    cases h : (wantM zs n).has (leafOp idZero zs n).id with
    | false => rfl
    | true =>
      unfold QMaps.has QMaps.at_ at h
      rw [List.find?_isSome] at h
      obtain ⟨o, ho, he⟩ := h
      have e := congrArg QId.k (of_decide_eq_true he)
      obtain ⟨i, hi, rfl⟩ := mem_leaves ho
      have e3 : (200 + (i : Int)) = 200 + (n : Int) := e
      omega
  have h3 : (wantM zs n).isMap (leafOp idZero zs n).parent = true := by unfold QMaps.isMap; simp [leafOp, mkOp]
  simp only [QMaps.setB, h1, leaf_right _ zs n hn, h3]
  rfl
theorem nestM_wf (d : Nat) (hd : d < 7) (zs : List Int) (hid : List QRng) : ∀ n, n ≤ 1000 → MWf (nestM d zs n hid).ops
  | 0, _ => by
    have := coverM_wf d (by omega)
    unfold coverM at this
    simpa [nestM, leaves] using this
  | n + 1, h => by rw [nestM_succ]; exact (nestM_wf d hd zs hid n (by omega)).snoc (nest_setB d hd zs n (by omega) hid)
theorem wantM_wf (zs : List Int) : ∀ n, n ≤ 1000 → MWf (wantM zs n).ops
  | 0, _ => MWf.nil
  | n + 1, h => by rw [wantM_succ]; exact (wantM_wf zs n (by omega)).snoc (want_setB zs n (by omega))

theorem keysAt_other {p : QId} (a b : List QOp) (h : ∀ o ∈ b, o.parent ≠ p) : keysAt (a ++ b) p = keysAt a p := by
  unfold keysAt
  rw [List.foldl_append]
  generalize List.foldl _ [] a = acc
  induction b generalizing acc with
  | nil => rfl
  | cons o b ih =>
    rw [List.foldl_cons, if_neg (fun hc => h o (by simp) hc.1)]
    exact ih (fun x hx => h x (by simp [hx])) acc
theorem keysAt_none_of {p : QId} {a : List QOp} (h : ∀ o ∈ a, o.parent ≠ p) : keysAt a p = [] := keysAt_other [] a h
theorem keysAt_first {p : QId} (a b : List QOp) (h : ∀ o ∈ a, o.parent ≠ p) : keysAt (a ++ b) p = keysAt b p := by
  have := keysAt_none_of h
  unfold keysAt at this ⊢
  rw [List.foldl_append, this]
theorem opsAt_other {p : QId} (a b : List QOp) (k : ByteArray) (h : ∀ o ∈ b, o.parent ≠ p) : opsAt (a ++ b) p k = opsAt a p k := by
  unfold opsAt
  have h1 : b.filter (fun o => decide (o.parent = p) && decide (o.key = k)) = [] := List.filter_eq_nil_iff.2 (fun o ho => by simp [h o ho])
  rw [List.filter_append, h1, List.append_nil]
theorem opsAt_first {p : QId} (a b : List QOp) (k : ByteArray) (h : ∀ o ∈ a, o.parent ≠ p) : opsAt (a ++ b) p k = opsAt b p k := by
  unfold opsAt
  rw [List.filter_append, List.filter_eq_nil_iff.2 (fun o ho => by simp [h o ho]), List.nil_append]
theorem leaves_par {p q : QId} (zs : List Int) (n : Nat) (h : p ≠ q) : ∀ o ∈ leaves p zs n, o.parent ≠ q := fun o ho => by
  obtain ⟨i, _, rfl⟩ := mem_leaves ho
  exact h
theorem atId_ne : ∀ d, d < 7 → ∀ i, i < d → atId d ≠ atId i := by decide +kernel
theorem chain_keys : ∀ d, d < 7 → ∀ i, i < d → keysAt (chain d ++ [cover]) (atId i) = [sM] := by decide +kernel
theorem chain_get50 : ∀ d, d < 7 → ∀ i, i < d → seen (bestOp [⟨1, 50, 51⟩] (opsAt (chain d ++ [cover]) (atId i) sM)) = some (chainOp i) := by decide +kernel
theorem chain_get0 : ∀ d, d < 7 → 0 < d → seen (bestOp [] (opsAt (chain d ++ [cover]) idZero sM)) = some cover := by decide +kernel
theorem chain_get100 : ∀ d, d < 7 → 0 < d → seen (bestOp [⟨1, 100, 101⟩] (opsAt (chain d ++ [cover]) idZero sM)) = some cover := by decide +kernel
theorem chain_find : ∀ d, d < 7 → (chainM d).findFrom idZero (List.replicate d sM) = some (atId d) := by decide +kernel
theorem cover_find : ∀ d, d < 7 → 0 < d → (coverM d).findFrom idZero (List.replicate d sM) = none := by decide +kernel

theorem nest_get (d : Nat) (hd : d < 7) (zs : List Int) (n : Nat) (hid : List QRng) (i : Nat) (hi : i < d) (k : ByteArray) : (nestM d zs n hid).get (atId i) k = seen (bestOp hid (opsAt (chain d ++ [cover]) (atId i) k)) := by
  unfold QMaps.get nestM
  rw [opsAt_other _ _ k (leaves_par zs n (atId_ne d hd i hi))]
theorem nest_keys (d : Nat) (hd : d < 7) (zs : List Int) (n : Nat) (hid : List QRng) (i : Nat) (hi : i < d) : keysAt (nestM d zs n hid).ops (atId i) = [sM] := by
  unfold nestM
  rw [keysAt_other _ _ (leaves_par zs n (atId_ne d hd i hi)), chain_keys d hd i hi]
theorem nest_step (d : Nat) (hd : d < 7) (zs : List Int) (n : Nat) (i : Nat) (hi : i < d) (m : Nat) :
    (nestM d zs n [⟨1, 50, 51⟩]).viewN (m + 1) (atId i) = [.mk sM kMap ((nestM d zs n [⟨1, 50, 51⟩]).viewN m (atId (i + 1)))] := by
  rw [QMaps.viewN, nest_keys d hd zs n _ i hi, sort1, List.filterMap_cons, nest_get d hd zs n _ i hi, chain_get50 d hd i hi]
  show [QEntry.mk sM (chainOp i).v.clean (if (chainOp i).v.kind = 5 then _ else [])] = _
  rw [show (chainOp i).v.clean = kMap from clean_of rfl, if_pos (show (chainOp i).v.kind = 5 from rfl), show (chainOp i).id = atId (i + 1) by
    show (⟨1, 100 + (i : Int)⟩ : QId) = atId (i + 1)
    unfold atId
    rw [if_neg (by omega)]
    rw [show (100 + (i : Int)) = 99 + ((i + 1 : Nat) : Int) by omega]]
def v3 : QVal := ⟨2, 3, 0, ⟨#[]⟩⟩
theorem cover_view (d : Nat) (hd : d < 7) (h0 : 0 < d) (zs : List Int) (n : Nat) (hid : List QRng) (hh : hid = [] ∨ hid = [⟨1, 100, 101⟩]) : (nestM d zs n hid).view = [.mk sM v3 []] := by
  unfold QMaps.view
  rw [QMaps.viewN, show idZero = atId 0 from rfl, nest_keys d hd zs n _ 0 h0, sort1, List.filterMap_cons, nest_get d hd zs n _ 0 h0]
  have hg : seen (bestOp hid (opsAt (chain d ++ [cover]) (atId 0) sM)) = some cover := by
    rcases hh with rfl | rfl
    · exact chain_get0 d hd h0
    · exact chain_get100 d hd h0
  rw [hg]
  show [QEntry.mk sM cover.v.clean (if cover.v.kind = 5 then _ else [])] = _
  rw [show cover.v.clean = v3 from clean_of rfl, if_neg (by decide)]

theorem leaves_map (p : QId) (zs : List Int) (n : Nat) : leaves idZero zs n = (leaves p zs n).map fun o => { o with parent := idZero } := by
  simp [leaves, leafOp, mkOp]
theorem keysAt_leaves (p q : QId) (zs : List Int) : ∀ n, keysAt (leaves p zs n) p = keysAt (leaves q zs n) q
  | 0 => rfl
  | n + 1 => by
    rw [leaves_succ, leaves_succ]
    have ih := keysAt_leaves p q zs n
    unfold keysAt at ih ⊢
    rw [List.foldl_append, List.foldl_append, ih]
    simp [leafOp, mkOp]
theorem opsAt_leaves (p : QId) (zs : List Int) (n : Nat) (k : ByteArray) : opsAt (leaves idZero zs n) idZero k = (opsAt (leaves p zs n) p k).map fun o => { o with parent := idZero } := by
  rw [leaves_map p]
  unfold opsAt
  rw [List.filter_map]
  congr 1
  apply List.filter_congr
  intro o ho
  obtain ⟨i, _, rfl⟩ := mem_leaves ho
  simp [leafOp, mkOp]
theorem bestOp_map (hid hid' : List QRng) (l : List QOp) (hh : ∀ o ∈ l, hasRngs hid o.id = hasRngs hid' o.id) : bestOp hid' (l.map fun o => { o with parent := idZero }) = (bestOp hid l).map fun o => { o with parent := idZero } := by
  unfold bestOp
  suffices h : ∀ (l : List QOp) (b : Option QOp), (∀ o ∈ l, hasRngs hid o.id = hasRngs hid' o.id) → (l.map fun o => ({ o with parent := idZero } : QOp)).foldl (pickOp hid') (b.map fun o => { o with parent := idZero }) = (l.foldl (pickOp hid) b).map fun o => { o with parent := idZero } from h l none hh
  intro l
  induction l with
  | nil => intro b _; rfl
  | cons o l ih =>
    intro b hh
    rw [List.map_cons, List.foldl_cons, List.foldl_cons, ← ih _ (fun x hx => hh x (by simp [hx]))]
    congr 1
    unfold pickOp
    rw [hh o (by simp)]
    show (if hasRngs hid' o.id = true then _ else _) = _
    by_cases h1 : hasRngs hid' o.id = true
    · rw [if_pos h1, if_pos h1]
    · rw [if_neg h1, if_neg h1]
      cases b with
      | none => rfl
      | some b =>
        show (if b.lessB o = true then some ({ o with parent := idZero } : QOp) else some { b with parent := idZero }) = Option.map _ (if b.lessB o = true then some o else some b)
        by_cases h : b.lessB o = true
        · rw [if_pos h, if_pos h]; rfl
        · rw [if_neg h, if_neg h]; rfl
theorem leaf_get (d : Nat) (hd : d < 6) (zs : List Int) (n : Nat) (k : ByteArray) : (wantM zs n).get idZero k = ((nestM (d + 1) zs n [⟨1, 50, 51⟩]).get (atId (d + 1)) k).map fun o => { o with parent := idZero } := by
  unfold QMaps.get
  rw [show (nestM (d + 1) zs n [⟨1, 50, 51⟩]).ops = chain (d + 1) ++ [cover] ++ leaves (atId (d + 1)) zs n from rfl, opsAt_first _ _ k (chain_par d hd), show (wantM zs n).ops = leaves idZero zs n from rfl, opsAt_leaves (atId (d + 1))]
  rw [show (wantM zs n).hidden = [] from rfl, show (nestM (d + 1) zs n [⟨1, 50, 51⟩]).hidden = [⟨1, 50, 51⟩] from rfl, bestOp_map [⟨1, 50, 51⟩] [] _ (fun o ho => by
    obtain ⟨i, _, rfl⟩ := mem_leaves (List.mem_filter.1 ho).1
    simp [hasRngs, QRng.hasB, leafOp, mkOp]
    omega)]
  cases bestOp _ _ with
  | none => rfl
  | some o =>
    show seen (some ({ o with parent := idZero } : QOp)) = _
    unfold seen
    show (if o.v.kind = 0 then none else some _) = Option.map _ (if o.v.kind = 0 then none else some o)
    by_cases h : o.v.kind = 0
    · rw [if_pos h, if_pos h]; rfl
    · rw [if_neg h, if_neg h]; rfl
theorem leaf_kind (d : Nat) (hd : d < 6) (zs : List Int) (n : Nat) (k : ByteArray) {o : QOp} (h : (nestM (d + 1) zs n [⟨1, 50, 51⟩]).get (atId (d + 1)) k = some o) : o.v.kind = 2 := by
  obtain ⟨ho, hp, _, _⟩ := mem_get h
  rcases List.mem_append.1 ho with h1 | h1
  · exact absurd hp (chain_par d hd o h1)
  · obtain ⟨i, _, rfl⟩ := mem_leaves h1
    rfl
theorem leaf_view (d : Nat) (hd : d < 6) (zs : List Int) (n m m' : Nat) : (nestM (d + 1) zs n [⟨1, 50, 51⟩]).viewN (m + 1) (atId (d + 1)) = (wantM zs n).viewN (m' + 1) idZero := by
  rw [QMaps.viewN, QMaps.viewN, show (nestM (d + 1) zs n [⟨1, 50, 51⟩]).ops = chain (d + 1) ++ [cover] ++ leaves (atId (d + 1)) zs n from rfl, keysAt_first _ _ (chain_par d hd), show (wantM zs n).ops = leaves idZero zs n from rfl, keysAt_leaves (atId (d + 1)) idZero]
  congr 1
  funext k
  rw [leaf_get d hd]
  cases hg : (nestM (d + 1) zs n [⟨1, 50, 51⟩]).get (atId (d + 1)) k with
  | none => rfl
  | some o =>
    have h2 := leaf_kind d hd zs n k hg
    show some (QEntry.mk k o.v.clean (if o.v.kind = 5 then _ else [])) = some (QEntry.mk k o.v.clean (if o.v.kind = 5 then _ else []))
    rw [if_neg (by omega), if_neg (by omega)]
def coverText : ByteArray := ⟨#[109, 32, 34, 109, 34, 61, 51, 10]⟩
theorem cover_text : entText noB [.mk sM v3 []] = coverText := by
  rw [entText_cons, entText_nil]
  show noB ++ mB ++ quoteB sM ++ eqB ++ v3.text ++ nlB ++ entText (noB ++ spB) [] ++ noB = coverText
  rw [entText_nil]
  decide +kernel
end Go.Proofs.Yteadongdlacgmaa
