/- Walk: the law (quirelaw10.StoreBrings): plain part of its end: what a store that holds all of the texts tells. -/
import Derived.Test.YtaeebgljcdfolaaGreatDoorM44
namespace Go.Proofs.YtaeebgljcdfolaaGreatDoor
open Go.RowKit Go.Lib

theorem BInv.kfew {m : Nat} {tx : Int → ByteArray} (hx : Texts m tx) {K : List (Int × ByteArray)} {Q : List QOp} {H : List QRng} (h : BInv m tx K Q H) : KFew K := by
  have hm := hx.few
  have h1 := len_nodup (K.map (·.1)) 1 (m + 1) (fun x hx => by
    obtain ⟨p, hp, rfl⟩ := List.mem_map.1 hx
    obtain ⟨g1, g2, _⟩ := h.kn p hp
    omega) h.keys
  rw [List.length_map] at h1
  exact ⟨by omega, fun p hp => by
    obtain ⟨g1, g2, _⟩ := h.kn p hp
    unfold u64B
    omega⟩
theorem BInv.kcs {m : Nat} {tx : Int → ByteArray} (hx : Texts m tx) {K : List (Int × ByteArray)} {Q : List QOp} {H : List QRng} (h : BInv m tx K Q H) :
    ∀ c ∈ K.map (·.1), 1 ≤ c ∧ c ≤ 9007199254740991 ∧ 1 ≤ kcount K c ∧ kcount K c ≤ 9007199254740991 := fun c hc => by
  have hm := hx.few
  have hle := h.count_le hx c
  obtain ⟨p, hp, rfl⟩ := List.mem_map.1 hc
  obtain ⟨g1, g2, _⟩ := h.kn p hp
  rcases h.count p.1 with ⟨e, _⟩ | ⟨n, h1, h2, h3, h4, h5, h6⟩
  · exact absurd rfl (kfind_none e p hp)
  · omega
theorem BInv.ksince {m : Nat} {tx : Int → ByteArray} (hx : Texts m tx) {K : List (Int × ByteArray)} {Q : List QOp} {H : List QRng} (h : BInv m tx K Q H) : KSince K [] := by
  have hm := hx.few
  have key : ∀ p ∈ K, 1 ≤ p.1 ∧ p.1 ≤ m ∧ okB p.2 = true ∧ 0 < (runesB p.2).length ∧ (runesB p.2).length ≤ 60 := fun p hp => by
    obtain ⟨g1, g2, n, h3, h4, h5⟩ := h.kn p hp
    have hN := (hx.ok p.1 g1 g2).2.2
    have hl := cutB_len (tx p.1) 0 n h4
    unfold wholeN at h4
    rw [h5]
    exact ⟨g1, g2, (runesB_cut _ _ _).2, by omega, by omega⟩
  refine ⟨fun p hp => (key p hp).2.2.1, fun p hp => ?_, fun p hp => ?_, fun p hp => ?_⟩
  · obtain ⟨g1, g2, _⟩ := key p hp
    simp only [numB, Bool.and_eq_true, decide_eq_true_eq]; omega
  · have := (key p hp).2.2.2.2; omega
  · have := (key p hp).2.2.2.1
    show (0 : Int) < _
    omega
/-- a sorted list of just the numbers lo .. lo + n - 1, through f, is the whole texts. -/
theorem sorted_whole (f : Int → QOp) : ∀ (ts : List ByteArray) (lo : Int) (l : List Int), l.Pairwise (· < ·) → (∀ x, x ∈ l ↔ lo ≤ x ∧ x < lo + ts.length) →
    (∀ (k : Nat) t, ts[k]? = some t → f (lo + k) = kOp (lo + k) t) → l.map f = wholeL lo ts
  | [], lo, l, _, hm, _ => by
    cases l with
    | nil => rfl
    | cons x r =>
      have := (hm x).1 (by simp)
      simp at this
      omega
  | t :: r, lo, l, hp, hm, hf => by
    cases l with
    | nil =>
      have := (hm lo).2 ⟨by omega, by simp; omega⟩
      simp at this
    | cons x l =>
      obtain ⟨hp1, hp2⟩ := List.pairwise_cons.1 hp
      have hx := (hm x).1 (by simp)
      have hxl : x = lo := by
        rcases List.mem_cons.1 ((hm lo).2 ⟨by omega, by simp; omega⟩) with e | e
        · exact e.symm
        · have := hp1 lo e; omega
      subst hxl
      have h0 := hf 0 t rfl
      rw [show x + ((0 : Nat) : Int) = x by omega] at h0
      rw [List.map_cons, wholeL, h0]
      congr 1
      refine sorted_whole f r (x + 1) l hp2 (fun y => ?_) fun k u hk => ?_
      · constructor
        · intro hy
          have h1 := hp1 y hy
          have h2 := (hm y).1 (List.mem_cons_of_mem _ hy)
          simp at h2
          omega
        · rintro ⟨h1, h2⟩
          rcases List.mem_cons.1 ((hm y).2 ⟨by omega, by simp; omega⟩) with e | e
          · omega
          · exact e
      · have := hf (k + 1) u (by simpa using hk)
        rwa [show x + ((k + 1 : Nat) : Int) = x + 1 + k by omega] at this
/-- what Since(nil) of a store that holds all tells. -/
theorem since_whole {ts : List ByteArray} (hx : Texts ts.length (txOf ts)) {K : List (Int × ByteArray)} (hnd : (K.map (·.1)).Nodup) (hall : ∀ c : Int, 1 ≤ c → c ≤ ts.length → kfind K c = some (txOf ts c)) (hin : ∀ p ∈ K, 1 ≤ p.1 ∧ p.1 ≤ ts.length)
    {w w' : World} {v : Value} (h : SinceR K [] w v w') : OwnAt w.heap.size 35 22 encOp w' v (wholeL 1 ts) ∧ Below w.heap.size w w' := by
  obtain ⟨ys, hp, hs, ho, hb⟩ := h
  refine ⟨?_, hb⟩
  have hmem : ∀ x, x ∈ ys ↔ (1 : Int) ≤ x ∧ x < 1 + ts.length := fun x => by
    rw [hp.mem_iff]
    constructor
    · intro h1
      obtain ⟨p, hp, rfl⟩ := List.mem_map.1 h1
      have := hin p hp
      omega
    · rintro ⟨h1, h2⟩
      exact List.mem_map.2 ⟨_, kfind_mem (hall x h1 (by omega)), rfl⟩
  have hlt : ys.Pairwise (· < ·) := (hs.and (hp.nodup_iff.2 hnd)).imp fun ⟨h1, h2⟩ => by omega
  rw [sorted_whole (newOf K []) ts 1 ys hlt hmem fun k t hk => ?_] at ho
  · exact ho
  · have hlt := (List.getElem?_eq_some_iff.1 hk).1
    have h1 := hall (1 + k) (by omega) (by omega)
    have h2 := hx.ok (1 + k) (by omega) (by omega)
    rw [txOf_get hk] at h1 h2
    unfold newOf
    rw [h1]
    show pc (1 + k) t 0 (runesB t).length = _
    exact pc_whole _ h2.1 (Nat.le_refl _)
theorem whole_tOp (ts : List ByteArray) (c : Int) : ∀ o ∈ wholeL c ts, ∃ i a b t, o = tOp i a b t := by
  induction ts generalizing c with
  | nil => intro o ho; cases ho
  | cons x r ih =>
    intro o ho
    rcases List.mem_cons.1 ho with rfl | h
    · exact ⟨_, _, _, _, rfl⟩
    · exact ih _ o h
theorem SliceP.below {α : Type} {k : Nat} {enc : α → List Value} {w w' : World} {v : Value} {l : List α} (h : SliceP k enc w v l) (hb : Below w.heap.size w w') : SliceP k enc w' v l := by
  obtain ⟨p, cap, rfl, hn, hc⟩ := h
  refine ⟨p, cap, rfl, hn, fun j x hj => ?_⟩
  obtain ⟨b, off, rfl, hlt, h2⟩ := hc j x hj
  exact ⟨b, off, rfl, Nat.lt_of_lt_of_le hlt hb.size, fun i y hy => (hb.cell (p := ⟨b, off + j * k + i, none⟩) hlt).trans (h2 i y hy)⟩
end Go.Proofs.YtaeebgljcdfolaaGreatDoor
