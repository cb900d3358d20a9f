/- Plain: the text of a view's entries; how long it is. -/
import Derived.Test.YteadongdlacgmaaText
import Derived.Test.YteadongdlacgmaaViewLaw
namespace Go.Proofs.Yteadongdlacgmaa

def QEntry.key : QEntry → ByteArray | .mk k _ _ => k
def QEntry.v : QEntry → QVal | .mk _ v _ => v
def QEntry.kids : QEntry → List QEntry | .mk _ _ l => l

def spB : ByteArray := ⟨#[32, 32]⟩
def mB : ByteArray := ⟨#[109, 32]⟩
def eqB : ByteArray := ⟨#[61]⟩
def nlB : ByteArray := ⟨#[10]⟩
def noB : ByteArray := ⟨#[]⟩
def entText (ahead : ByteArray) (l : List QEntry) : ByteArray := match l with
  | [] => noB
  | .mk k v kids :: rest => (((((ahead ++ mB) ++ quoteB k) ++ eqB) ++ v.text) ++ nlB) ++ entText (ahead ++ spB) kids ++ entText ahead rest
theorem appB (a b c : ByteArray) : a ++ b ++ c = a ++ (b ++ c) := ByteArray.ext (by simp)
theorem noB_app (s : ByteArray) : noB ++ s = s := bytes_nil_app s
theorem app_noB (s : ByteArray) : s ++ noB = s := ByteArray.ext (by simp [noB])
theorem entText_nil (ahead : ByteArray) : entText ahead [] = noB := by unfold entText; rfl
theorem entText_cons (ahead : ByteArray) (e : QEntry) (l : List QEntry) : entText ahead (e :: l) = (((((ahead ++ mB) ++ quoteB e.key) ++ eqB) ++ e.v.text) ++ nlB) ++ entText (ahead ++ spB) e.kids ++ entText ahead l := by
  obtain ⟨k, v, kids⟩ := e
  conv => lhs; unfold entText
  rfl
theorem entText_append (ahead : ByteArray) : ∀ l r : List QEntry, entText ahead (l ++ r) = entText ahead l ++ entText ahead r
  | [], r => by rw [entText_nil, noB_app]; rfl
  | e :: l, r => by rw [List.cons_append, entText_cons, entText_cons, entText_append ahead l r]; simp only [appB]
theorem entText_snoc (ahead : ByteArray) (l : List QEntry) (e : QEntry) : entText ahead (l ++ [e]) = (((((((entText ahead l ++ ahead) ++ mB) ++ quoteB e.key) ++ eqB) ++ e.v.text) ++ nlB) ++ entText (ahead ++ spB) e.kids) := by
  rw [entText_append, entText_cons, entText_nil, app_noB]
  simp only [appB]

/-- each key is short, each value one whose text is told here. -/
def entOk (l : List QEntry) : Bool := match l with
  | [] => true
  | .mk k v kids :: rest => decide (k.size ≤ 1000000) && v.plainB && entOk kids && entOk rest
theorem entOk_cons (e : QEntry) (l : List QEntry) : entOk (e :: l) = (decide (e.key.size ≤ 1000000) && e.v.plainB && entOk e.kids && entOk l) := by
  obtain ⟨k, v, kids⟩ := e
  conv => lhs; unfold entOk
  rfl
theorem entOk_at : ∀ {l : List QEntry} {j : Nat} {x : QEntry}, entOk l = true → l[j]? = some x → x.key.size ≤ 1000000 ∧ x.v.plainB = true ∧ entOk x.kids = true
  | [], j, x, _, h => by simp at h
  | e :: l, 0, x, ho, h => by
    obtain rfl : e = x := by simpa using h
    rw [entOk_cons] at ho
    simp only [Bool.and_eq_true, decide_eq_true_eq] at ho
    exact ⟨ho.1.1.1, ho.1.1.2, ho.1.2⟩
  | e :: l, j + 1, x, ho, h => by
    rw [entOk_cons] at ho
    simp only [Bool.and_eq_true] at ho
    exact entOk_at ho.2 (by simpa using h)
theorem entOk_append : ∀ {l r : List QEntry}, entOk l = true → entOk r = true → entOk (l ++ r) = true
  | [], r, _, h => h
  | e :: l, r, ho, h => by
    rw [entOk_cons] at ho
    simp only [Bool.and_eq_true] at ho
    rw [List.cons_append, entOk_cons, entOk_append ho.2 h]
    simpa using ho.1

theorem sizeApp (a b : ByteArray) : (a ++ b).size = a.size + b.size := ByteArray.size_append
theorem entText_size (ahead : ByteArray) (e : QEntry) (l : List QEntry) : (entText ahead (e :: l)).size = (ahead.size + 2 + (quoteB e.key).size + 1 + e.v.text.size + 1) + (entText (ahead ++ spB) e.kids).size + (entText ahead l).size := by
  rw [entText_cons]
  simp only [sizeApp]
  rfl
theorem decL_length : ∀ (f u : Nat) (out : List UInt8), (decL f u out).length ≤ out.length + f
  | 0, _, out => by simp [decL]
  | f + 1, u, out => by
    rw [decL]
    split
    · simp
    · have := decL_length f (u / 10) (UInt8.ofNat (48 + u % 10) :: out)
      rw [List.length_cons] at this; omega
theorem text_size (v : QVal) : v.text.size ≤ 20 := by
  unfold QVal.text
  split
  · have := decL_length 20 v.n.toNat []
    simpa [decB, ByteArray.size] using this
  · decide
theorem quoteB_size (s : ByteArray) : (quoteB s).size ≤ 2 * s.size + 2 := by
  have h := quoteL_length s.data.toList
  rw [show s.data.toList.length = s.data.size from Array.length_toList] at h
  simp only [quoteB, ByteArray.size, List.size_toArray, List.length_cons, List.length_append, List.length_nil]
  omega

theorem sum_pow (N : Nat) : ∀ (m i : Nat) (J : List Nat), N = i + m → J.Nodup → (∀ j ∈ J, i ≤ j ∧ j < N) → (J.map fun j => 2 ^ (N - 1 - j)).sum ≤ 2 ^ (N - i) - 1
  | 0, i, J, h, _, hJ => by
    cases J with
    | nil => simp
    | cons j J => have := hJ j (by simp); omega
  | m + 1, i, J, h, hn, hJ => by
    have hp : 2 ^ (N - i) = 2 ^ (N - (i + 1)) + 2 ^ (N - 1 - i) := by
      rw [show N - i = (N - (i + 1)) + 1 by omega, Nat.pow_succ, show N - 1 - i = N - (i + 1) by omega]; omega
    have h1 : 0 < 2 ^ (N - (i + 1)) := Nat.two_pow_pos _
    rw [hp]
    by_cases hi : i ∈ J
    · have hperm := List.perm_cons_erase hi
      have e : (J.map fun j => 2 ^ (N - 1 - j)).sum = ((i :: J.erase i).map fun j => 2 ^ (N - 1 - j)).sum := (hperm.map _).sum_nat
      rw [e, List.map_cons, List.sum_cons]
      have := sum_pow N m (i + 1) (J.erase i) (by omega) (hn.erase i) (fun j hj => by
        have h2 := hJ j (List.mem_of_mem_erase hj)
        have h3 : j ≠ i := fun e => by
          subst e
          exact (List.Nodup.not_mem_erase hn) hj
        omega)
      revert this h1
      generalize 2 ^ (N - (i + 1)) = A
      generalize 2 ^ (N - 1 - i) = y
      intro h1 h2
      omega
    · have := sum_pow N m (i + 1) J (by omega) hn (fun j hj => by
        have h2 := hJ j hj
        have h3 : j ≠ i := fun e => hi (e ▸ hj)
        omega)
      revert this h1
      generalize 2 ^ (N - (i + 1)) = A
      generalize 2 ^ (N - 1 - i) = y
      intro h1 h2
      omega

theorem viewN_size (M : QMaps) (hw : MWf M.ops) (C : Nat) (hC : ∀ o ∈ M.ops, (quoteB o.key).size + o.v.clean.text.size + 4 ≤ C) : ∀ (n i : Nat) (p : QId) (ahead : ByteArray), From M.ops i p → i ≤ M.ops.length →
    (entText ahead (M.viewN n p)).size ≤ (2 ^ (M.ops.length - i) - 1) * (ahead.size + 2 * (M.ops.length - i) + C)
  | 0, i, p, ahead, _, _ => by rw [QMaps.viewN, entText_nil]; exact Nat.zero_le _
  | n + 1, i, p, ahead, hf, hi => by
    obtain ⟨B, hB⟩ : ∃ B, ahead.size + 2 * (M.ops.length - i) + C = B := ⟨_, rfl⟩
    rw [hB]
    have key : ∀ ks : List ByteArray, ks.Nodup → ∃ J : List Nat, J.Nodup ∧ (∀ j ∈ J, i ≤ j ∧ j < M.ops.length ∧ ∃ o, M.ops[j]? = some o ∧ o.key ∈ ks) ∧
        (entText ahead (ks.filterMap (viewOne M (M.viewN n) p))).size ≤ (J.map fun j => 2 ^ (M.ops.length - 1 - j)).sum * B := by
      intro ks
      induction ks with
      | nil => exact fun _ => ⟨[], List.nodup_nil, by simp, by rw [List.filterMap_nil, entText_nil]; exact Nat.zero_le _⟩
      | cons k ks ih =>
        intro hn
        obtain ⟨J, h1, h2, h3⟩ := ih (List.nodup_cons.1 hn).2
        rw [List.filterMap_cons]
        cases hg : M.get p k with
        | none =>
          rw [show viewOne M (M.viewN n) p k = none by unfold viewOne; rw [hg]]
          exact ⟨J, h1, fun j hj => by
            obtain ⟨a, b, o, c, d⟩ := h2 j hj
            exact ⟨a, b, o, c, List.mem_cons_of_mem _ d⟩, h3⟩
        | some o =>
          rw [show viewOne M (M.viewN n) p k = some (.mk k o.v.clean (if o.v.kind = 5 then M.viewN n o.id else [])) by unfold viewOne; rw [hg]]
          obtain ⟨ho, hop, hok, _⟩ := mem_get hg
          obtain ⟨j, hj, e⟩ := List.getElem_of_mem ho
          have hj2 : M.ops[j]? = some o := by rw [List.getElem?_eq_getElem hj, e]
          have hij := hf j o hj2 hop
          refine ⟨j :: J, List.nodup_cons.2 ⟨fun hm => ?_, h1⟩, ?_, ?_⟩
          · obtain ⟨_, _, x, hx, hxk⟩ := h2 j hm
            rw [hj2] at hx
            obtain rfl := Option.some.inj hx
            exact (List.nodup_cons.1 hn).1 (hok ▸ hxk)
          · intro m hm
            rcases List.mem_cons.1 hm with rfl | hm
            · exact ⟨hij, hj, o, hj2, by rw [hok]; simp⟩
            · obtain ⟨a, b, x, c, d⟩ := h2 m hm
              exact ⟨a, b, x, c, List.mem_cons_of_mem _ d⟩
          · simp only
            rw [entText_size, List.map_cons, List.sum_cons, Nat.add_mul]
            have hline : ahead.size + 2 + (quoteB k).size + 1 + o.v.clean.text.size + 1 ≤ B := by
              have := hC o ho
              rw [hok] at this
              omega
            have hkids : (entText (ahead ++ spB) (if o.v.kind = 5 then M.viewN n o.id else [])).size ≤ (2 ^ (M.ops.length - 1 - j) - 1) * B := by
              by_cases h5 : o.v.kind = 5
              · rw [if_pos h5]
                have := viewN_size M hw C hC n (j + 1) o.id (ahead ++ spB) (From.at hw hj2) (by omega)
                refine Nat.le_trans this ?_
                rw [show M.ops.length - (j + 1) = M.ops.length - 1 - j by omega]
                refine Nat.mul_le_mul_left _ ?_
                rw [sizeApp, show spB.size = 2 from rfl]
                omega
              · rw [if_neg h5, entText_nil]; exact Nat.zero_le _
            have hpos : 0 < 2 ^ (M.ops.length - 1 - j) := Nat.two_pow_pos _
            have hone : 2 ^ (M.ops.length - 1 - j) * B = (2 ^ (M.ops.length - 1 - j) - 1) * B + B := by
              conv => lhs; rw [show 2 ^ (M.ops.length - 1 - j) = (2 ^ (M.ops.length - 1 - j) - 1) + 1 by omega, Nat.add_mul, Nat.one_mul]
            simp only [QEntry.key, QEntry.v, QEntry.kids]
            omega
    obtain ⟨J, h1, h2, h3⟩ := key (sortKeys (keysAt M.ops p)) ((sortKeys_perm _).symm.nodup (keysAt_nodup p _))
    rw [← viewWith_viewN]
    refine Nat.le_trans h3 (Nat.mul_le_mul_right _ ?_)
    exact sum_pow M.ops.length (M.ops.length - i) i J (by omega) h1 fun j hj => ⟨(h2 j hj).1, (h2 j hj).2.1⟩
/-- the text of a view of at most 40 sets. -/
theorem view_size (M : QMaps) (hw : MWf M.ops) (hl : M.ops.length ≤ 40) (hk : ∀ o ∈ M.ops, o.key.size ≤ 100) : (entText noB M.view).size ≤ 1000000000000000 := by
  have h := viewN_size M hw 226 (fun o ho => by
    have h1 := quoteB_size o.key
    have h2 := text_size o.v.clean
    have h3 := hk o ho
    omega) (M.ops.length + 1) 0 idZero noB (From.zero _ _) (Nat.zero_le _)
  refine Nat.le_trans h ?_
  rw [show noB.size = 0 from rfl, Nat.sub_zero]
  have h1 : 2 ^ M.ops.length ≤ 2 ^ 40 := Nat.pow_le_pow_right (by omega) hl
  have h2 : (2 ^ M.ops.length - 1) * (0 + 2 * M.ops.length + 226) ≤ 2 ^ 40 * 306 := Nat.mul_le_mul (by omega) (by omega)
  exact Nat.le_trans h2 (by decide)

theorem entText_part (ahead : ByteArray) {l : List QEntry} {j : Nat} {x : QEntry} (h : l[j]? = some x) : (entText ahead (l.take j)).size + (ahead.size + 2 + (quoteB x.key).size + 1 + x.v.text.size + 1) + (entText (ahead ++ spB) x.kids).size ≤ (entText ahead l).size := by
  have hj : j < l.length := (List.getElem?_eq_some_iff.1 h).1
  have hd : l = l.take j ++ x :: l.drop (j + 1) := by
    have e1 := List.drop_eq_getElem_cons hj
    have e2 : l[j] = x := (List.getElem?_eq_some_iff.1 h).2
    rw [e2] at e1
    rw [← e1, List.take_append_drop]
  conv => rhs; rw [hd]
  rw [entText_append, sizeApp, entText_size]
  omega
theorem viewN_ok (M : QMaps) (hM : ∀ o ∈ M.ops, o.key.size ≤ 1000000 ∧ (o.v.kind ≠ 0 → o.v.clean.plainB = true)) : ∀ (n : Nat) (p : QId), entOk (M.viewN n p) = true
  | 0, p => by rw [QMaps.viewN]; unfold entOk; rfl
  | n + 1, p => by
    rw [← viewWith_viewN]
    unfold viewWith
    have key : ∀ ks : List ByteArray, entOk (ks.filterMap (viewOne M (M.viewN n) p)) = true := by
      intro ks
      induction ks with
      | nil => rw [List.filterMap_nil]; unfold entOk; rfl
      | cons k ks ih =>
        rw [List.filterMap_cons]
        cases hg : M.get p k with
        | none =>
          rw [show viewOne M (M.viewN n) p k = none by unfold viewOne; rw [hg]]
          exact ih
        | some o =>
          rw [show viewOne M (M.viewN n) p k = some (.mk k o.v.clean (if o.v.kind = 5 then M.viewN n o.id else [])) by unfold viewOne; rw [hg]]
          obtain ⟨ho, hop, hok, h0⟩ := mem_get hg
          obtain ⟨h1, h2⟩ := hM o ho
          simp only
          rw [entOk_cons, ih]
          simp only [QEntry.key, QEntry.v, QEntry.kids]
          rw [h2 h0, ← hok]
          simp only [Bool.and_eq_true, decide_eq_true_eq, and_true]
          refine ⟨decide_eq_true h1, ?_⟩
          by_cases h5 : o.v.kind = 5
          · rw [if_pos h5]; exact viewN_ok M hM n o.id
          · rw [if_neg h5]; unfold entOk; rfl
    exact key _
end Go.Proofs.Yteadongdlacgmaa
