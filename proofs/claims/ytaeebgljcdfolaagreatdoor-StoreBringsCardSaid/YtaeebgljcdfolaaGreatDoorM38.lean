/- A store on its way: its memory and its law at once; Wait, Next, Add as steps of both. -/
import Derived.Test.YtaeebgljcdfolaaGreatDoorM34
import Derived.Test.YtaeebgljcdfolaaGreatDoorM37
import Derived.Test.YtaeebgljcdfolaaGreatDoorM35
namespace Go.Proofs.YtaeebgljcdfolaaGreatDoor
open Go.RowKit Go.Lib

theorem tab_lt {w : World} (h : Tabs w) : (Tryz.valid_ren.g 3) < w.heap.size ∧ (Tryz.valid_ren.g 4) < w.heap.size := by
  have lt : ∀ {a : Addr} {v : Value}, w.cell? a = some v → a.block < w.heap.size := fun {a v} hc => by
    rcases Nat.lt_or_ge a.block w.heap.size with h' | h'
    · exact h'
    · simp [World.cell?, Array.getElem?_eq_none h'] at hc
  exact ⟨lt (h.1 0 (by decide)), lt (h.2 0 (by decide)).1⟩
theorem TabFree.grow {F : Nat → Prop} {w : World} (h : TabFree F) (hT : Tabs w) {G : Nat → Prop} (hg : ∀ b, G b → F b ∨ w.heap.size ≤ b) : TabFree G := by
  have := tab_lt hT
  refine ⟨fun h1 => ?_, fun h1 => ?_⟩
  · rcases hg _ h1 with h2 | h2
    · exact h.1 h2
    · omega
  · rcases hg _ h1 with h2 | h2
    · exact h.2 h2
    · omega
/-- a store's memory on its way. -/
structure BM (F : Nat → Prop) (sb : Nat) (K : List (Int × ByteArray)) (Q : List QOp) (H : List QRng) (w : World) : Prop where
  st : StoreIn w F sb K Q H
  tabs : Tabs w
  free : TabFree F
  lt : ∀ b, F b → b < w.heap.size
theorem BM.below {F : Nat → Prop} {sb : Nat} {K : List (Int × ByteArray)} {Q : List QOp} {H : List QRng} {w w' : World} (h : BM F sb K Q H w) (hb : Below w.heap.size w w') : BM F sb K Q H w' :=
  ⟨h.st.below hb, h.tabs.below hb, h.free, fun b g => Nat.lt_of_lt_of_le (h.lt b g) hb.size⟩
theorem BM.mods {F G : Nat → Prop} {sb : Nat} {K : List (Int × ByteArray)} {Q : List QOp} {H : List QRng} {w w' : World} (h : BM F sb K Q H w) (hm : Mods G w w') (hg : ∀ b, F b → ¬ G b) (ht : TabFree G) : BM F sb K Q H w' :=
  ⟨h.st.mods hm hg, h.tabs.mods hm ht, h.free, fun b g => Nat.lt_of_lt_of_le (h.lt b g) hm.size⟩
theorem BM.start (w : World) (hT : Tabs w) :
    Calls Tryz.prog 7 #[] w fun e w' => e = .returned (.pointer (some ⟨w.heap.size + 1, 0, none⟩)) ∧ BM (fun b => w.heap.size ≤ b ∧ b < w'.heap.size) (w.heap.size + 1) [] [] [] w' ∧ Below w.heap.size w w' := by
  refine (storeNew_any w).mono ?_
  rintro e w' ⟨rfl, h1, h2⟩
  have := tab_lt hT
  exact ⟨rfl, ⟨h1.low, hT.below h2, ⟨fun g => by have := g.1; omega, fun g => by have := g.1; omega⟩, fun b g => g.2⟩, h2⟩
/-- what a step keeps: the store's blocks are those of before or new ones. -/
def Grows (F F' : Nat → Prop) (w w' : World) : Prop := (∀ b, F' b → F b ∨ w.heap.size ≤ b) ∧ Mods F w w'
theorem BInv.small {m : Nat} {tx : Int → ByteArray} (hx : Texts m tx) {K : List (Int × ByteArray)} {Q : List QOp} {H : List QRng} (h : BInv m tx K Q H) : KSmall K := fun p hp => by
  obtain ⟨h1, h2, n, h3, h4, h5⟩ := h.kn p hp
  have hN := (hx.ok p.1 h1 h2).2.2
  have := (runes_size (runesB_cut (tx p.1) 0 n).2).1
  have h6 := cutB_len (tx p.1) 0 n h4
  unfold wholeN at h4
  rw [h5]
  omega
theorem BM.wait {m : Nat} {tx : Int → ByteArray} (hx : Texts m tx) {F : Nat → Prop} {sb : Nat} {K : List (Int × ByteArray)} {Q : List QOp} {H : List QRng} {w : World} (h : BM F sb K Q H w) (hI : BInv m tx K Q H)
    {c : Int} {f e : Nat} (hc1 : 1 ≤ c) (hc2 : c ≤ m) (hf : f < e) (he : e ≤ wholeN tx c) :
    Calls Tryz.prog 10 #[.pointer (some ⟨sb, 0, none⟩), opV (pc c (tx c) f e)] w fun en w' => en = .returned (.tuple #[]) ∧ ∃ F' l H', BM F' sb K (Q ++ l) H' w' ∧ BInv m tx K (Q ++ l) H' ∧ Grows F F' w w' ∧ (f = 0 → e = wholeN tx c → Cov tx K (Q ++ l) c) ∧ (∀ i, hasRngs H' i = (hasRngs H i || hasRngs [waitRng (kcount K c) c (1 + f) (1 + e)] i)) := by
  have hm := hx.few
  have hN := (hx.ok c hc1 hc2).2.2
  have hn := hI.count_le hx c
  have hfew := hI.few hx
  refine (wait_any F sb K Q H c (tx c) f e w h.st (hI.small hx) h.tabs (by simp [numB]; omega) hf he (by omega) (by omega) (by omega) (by omega) (by omega) h.free).mono ?_
  rintro en w' ⟨rfl, xs, H', h1, h2, h3, h4, h5, h6⟩
  have hI' := hI.wait hx hc1 hc2 he h1 h2 h3 h4
  refine ⟨rfl, fun b => (F b ∨ w.heap.size ≤ b) ∧ b < w'.heap.size, xs.map (pcR (tx c)), H', ⟨h5.low, h.tabs.mods h6 h.free, h.free.grow h.tabs fun b hb => hb.1, fun b hb => hb.2⟩, hI', ⟨fun b hb => hb.1, h6⟩, ?_⟩
  refine ⟨?_, h4⟩
  rintro rfl rfl
  exact cov_whole hx hI hc1 hc2 h1 h2
/-- what Next gives. -/
def NextS (m : Nat) (tx : Int → ByteArray) (F : Nat → Prop) (sb : Nat) (K : List (Int × ByteArray)) (Q : List QOp) (H : List QRng) (w : World) (en : Ending) (w' : World) : Prop :=
  (∃ F', (∀ o ∈ Q, ¬ readyO K o) ∧ en = .returned (.tuple #[opV opZero, .bool false]) ∧ BM F' sb K Q H w' ∧ Grows F F' w w') ∨
  ∃ F' k c f e H', Q[k]? = some (pc c (tx c) f e) ∧ 1 ≤ c ∧ c ≤ m ∧ f < e ∧ e ≤ wholeN tx c ∧ kcount K c = f ∧ en = .returned (.tuple #[opV (pc c (tx c) f e), .bool true]) ∧
    BM F' sb K (Q.eraseIdx k) H' w' ∧ Grows F F' w w' ∧ CleanL H' ∧ (∀ i, hasRngs H' i = (hasRngs H i && !hasRngs [(⟨c, 1 + f, 1 + e⟩ : QRng)] i))
theorem BM.next {m : Nat} {tx : Int → ByteArray} (hx : Texts m tx) {F : Nat → Prop} {sb : Nat} {K : List (Int × ByteArray)} {Q : List QOp} {H : List QRng} {w : World} (h : BM F sb K Q H w) (hI : BInv m tx K Q H) :
    Calls Tryz.prog 12 #[.pointer (some ⟨sb, 0, none⟩)] w (NextS m tx F sb K Q H w) := by
  refine (next_any m tx hx F sb K Q H w h.st (hI.small hx) h.tabs hI h.free).mono ?_
  rintro en w' (⟨h1, rfl, h2, h3⟩ | ⟨k, o, H', h1, h2, rfl, h3, h4, h5, h6⟩)
  · exact .inl ⟨fun b => (F b ∨ w.heap.size ≤ b) ∧ b < w'.heap.size, h1, rfl, ⟨h2.low, h.tabs.mods h3 h.free, h.free.grow h.tabs fun b hb => hb.1, fun b hb => hb.2⟩, ⟨fun b hb => hb.1, h3⟩⟩
  · obtain ⟨c, f, e, rfl, g1, g2, g3, g4, g5⟩ := hI.q o (List.mem_of_getElem? h1)
    have hr : kcount K c = f := by
      unfold readyO at h2
      rw [pc_eq] at h2
      have : (1 : Int) + f ≤ kcount K c + 1 := h2
      omega
    refine .inr ⟨fun b => (F b ∨ w.heap.size ≤ b) ∧ b < w'.heap.size, k, c, f, e, H', h1, g1, g2, g3, g4, hr, rfl, ⟨h5.low, h.tabs.mods h6 h.free, h.free.grow h.tabs fun b hb => hb.1, fun b hb => hb.2⟩, ⟨fun b hb => hb.1, h6⟩, h3, fun i => ?_⟩
    rw [h4 i, pc_rng2 (by omega) g4]
/-- what Add gives. -/
def AddS (F : Nat → Prop) (sb : Nat) (K : List (Int × ByteArray)) (Q : List QOp) (H : List QRng) (o : QOp) (w : World) (en : Ending) (w' : World) : Prop :=
  ∃ F' B, en = .returned (.slice (some ⟨B, 0, none⟩) 1 1) ∧ OpBox w' B o ∧ w.heap.size ≤ B ∧ ¬ F' B ∧ BM F' sb K Q H w' ∧ Grows F F' w w'
theorem AddR.step {F : Nat → Prop} {sb : Nat} {K K' : List (Int × ByteArray)} {Q Q' : List QOp} {H H' : List QRng} {o : QOp} {w w' : World} {en : Ending} (h : BM F sb K Q H w) (hr : AddR F sb K' Q' H' o w en w') : AddS F sb K' Q' H' o w en w' := by
  obtain ⟨B, rfl, h1, h2, h3, h4⟩ := hr
  refine ⟨fun b => (F b ∨ (w.heap.size ≤ b ∧ b ≠ B)) ∧ b < w'.heap.size, B, rfl, h1, h2, fun hb => ?_, ⟨h3.low, h.tabs.mods h4 h.free, h.free.grow h.tabs fun b hb => ?_, fun b hb => hb.2⟩, ⟨fun b hb => ?_, h4⟩⟩
  · rcases hb.1 with g | g
    · have := h.lt _ g; omega
    · exact g.2 rfl
  · rcases hb.1 with g | g
    · exact .inl g
    · exact .inr g.1
  · rcases hb.1 with g | g
    · exact .inl g
    · exact .inr g.1
theorem BM.add {m : Nat} {tx : Int → ByteArray} (hx : Texts m tx) {F : Nat → Prop} {sb : Nat} {K : List (Int × ByteArray)} {Q Q0 : List QOp} {H H0 : List QRng} {w : World} (h : BM F sb K Q H w) (hI : BInv m tx K Q0 H0)
    {c : Int} {f e : Nat} (hc1 : 1 ≤ c) (hc2 : c ≤ m) (hf : f < e) (he : e ≤ wholeN tx c) (hk : kcount K c = f) :
    Calls Tryz.prog 13 #[.pointer (some ⟨sb, 0, none⟩), opV (pc c (tx c) f e)] w (AddS F sb (kadd K c (cutB (tx c) f e)) Q H (pc c (tx c) f e) w) := by
  have hm := hx.few
  have hN := (hx.ok c hc1 hc2).2.2
  have hlen := cutB_len (tx c) f e he
  have hsz := (runes_size (runesB_cut (tx c) f e).2).1
  unfold wholeN at he
  have hgood := pc_good c (tx c) f e (by simp [numB]; omega) hf he (by omega)
  rcases hI.count c with ⟨h1, h2⟩ | ⟨n, h1, h2, h3, h4, h5, h6⟩
  · obtain rfl : f = 0 := by omega
    have hp : pc c (tx c) 0 e = kOp c (cutB (tx c) 0 e) := by rw [pc_eq]; simp [pcL, kOp]
    have hg2 : GoodT ⟨c, 1⟩ idZero idZero (cutB (tx c) 0 e) := by simpa [pcL] using hgood
    rw [hp]
    exact (add_first F sb K Q H c (cutB (tx c) 0 e) w h.st (hI.small hx) h.tabs hg2 (by omega) h1).mono fun en w' hr => AddR.step h hr
  · obtain rfl : n = f := by omega
    have hp : pc c (tx c) n e = tOp ⟨c, 1 + (n : Int)⟩ ⟨c, 1 + (n : Int) - 1⟩ idZero (cutB (tx c) n e) := by rw [pc_eq]; simp [pcL, h3]
    have hg2 : GoodT ⟨c, 1 + (n : Int)⟩ ⟨c, 1 + (n : Int) - 1⟩ idZero (cutB (tx c) n e) := by
      have := hgood
      unfold pcL at this
      rwa [if_pos h3] at this
    have hl0 := cutB_len (tx c) 0 n (by unfold wholeN at h4; exact h4)
    rw [hp]
    refine (add_more F sb K Q H ⟨c, 1 + (n : Int)⟩ ⟨c, 1 + (n : Int) - 1⟩ idZero (cutB (tx c) n e) (cutB (tx c) 0 n) (cutB (tx c) n e) n w h.st (hI.small hx) h.tabs hg2 (by omega) (by omega) h5 (by omega) (by show (1 : Int) + n ≤ n + 1; omega) (by omega) ?_).mono fun en w' hr => AddR.step h hr
    intro w2 hst hT
    exact rest_new F sb K Q H ⟨c, 1 + (n : Int)⟩ ⟨c, 1 + (n : Int) - 1⟩ idZero (cutB (tx c) n e) w2 hst (hI.small hx) hT (by show kcount K c < 1 + (n : Int); omega)
end Go.Proofs.YtaeebgljcdfolaaGreatDoor
/- The law's closed example (quirelaw10.known): the plain part. -/
namespace Go.Proofs.YtaeebgljcdfolaaGreatDoor
open Go.RowKit Go.Lib

/-- "abc", "ab", "bc", "c". -/
def sAbc : ByteArray := ⟨#[97, 98, 99]⟩
def sAb : ByteArray := ⟨#[97, 98]⟩
def sBc : ByteArray := ⟨#[98, 99]⟩
def sC : ByteArray := ⟨#[99]⟩
def kTx : Int → ByteArray := fun _ => sAbc
theorem abc_len : (runesB sAbc).length = 3 := by decide +kernel
theorem abc_ok : okB sAbc = true := by decide +kernel
theorem abc_02 : cutB sAbc 0 2 = sAb := by decide +kernel
theorem abc_23 : cutB sAbc 2 3 = sC := by decide +kernel
theorem abc_13 : cutB sAbc 1 3 = sBc := by decide +kernel
theorem bc_12 : cutB sBc 1 2 = sC := by decide +kernel
theorem bc_len : (runesB sBc).length = 2 := by decide +kernel
theorem kTexts : Texts 1 kTx := ⟨by omega, fun c _ _ => ⟨abc_ok, by show 1 ≤ (runesB sAbc).length; rw [abc_len]; omega, by show (runesB sAbc).length ≤ 60; rw [abc_len]; omega⟩⟩
theorem kWhole (c : Int) : wholeN kTx c = 3 := abc_len
theorem k_c : tOp ⟨1, 3⟩ ⟨1, 3 - 1⟩ idZero sC = pc 1 sAbc 2 3 := by rw [pc_eq, abc_23]; rfl
theorem k_bc : tOp ⟨1, 2⟩ ⟨1, 2 - 1⟩ idZero sBc = pc 1 sAbc 1 3 := by rw [pc_eq, abc_13]; rfl
theorem k_ab : kOp 1 sAb = pc 1 sAbc 0 2 := by rw [pc_eq, abc_02]; rfl
/-- only clock 3 waits. -/
theorem k_wait {Q : List QOp} {H : List QRng} (h : BInv 1 kTx [] Q H) (hh : ∀ i, hasRngs H i = hasRngs [(⟨1, 3, 4⟩ : QRng)] i) : Q = [pc 1 sAbc 2 3] := by
  have key : ∀ o ∈ Q, o = pc 1 sAbc 2 3 := fun o ho => by
    obtain ⟨c, f, e, rfl, h1, h2, h3, h4, h5⟩ := h.q o ho
    obtain rfl : c = 1 := by omega
    have he : e ≤ 3 := by have := kWhole 1; omega
    have hr := pc_rng2 (c := 1) (t := kTx 1) (f := f) (e := e) (by omega) (by unfold wholeN at h4; exact h4)
    have hin : hasRngs H ⟨1, 1 + f⟩ = true := (h.hh _).2 ⟨_, ho, by rw [hr]; exact ⟨rfl, Int.le_refl _, by show (1 : Int) + f < 1 + e; omega⟩⟩
    rw [hh, has_one_iff (by unfold QRng.near; decide)] at hin
    have h6 : (3 : Int) ≤ 1 + f := hin.2.2.1
    have : f = 2 := by omega
    have : e = 3 := by omega
    subst f e
    rfl
  have hin : hasRngs H ⟨1, 3⟩ = true := by rw [hh]; decide +kernel
  obtain ⟨o, ho, _⟩ := (h.hh _).1 hin
  have ho' := key o ho
  match Q, h.apart, key, ho with
  | [x], _, key, _ => rw [key x (by simp)]
  | x :: y :: r, hap, key, _ =>
    have hx := key x (by simp)
    have hy := key y (by simp)
    have := (List.pairwise_cons.1 hap).1 y (by simp) ⟨1, 3⟩
    rw [hx, hy] at this
    have hr := pc_rng2 (c := 1) (t := sAbc) (f := 2) (e := 3) (by omega) (by rw [abc_len]; omega)
    rw [hr] at this
    exact absurd ⟨rfl, by decide, by decide⟩ (this ⟨rfl, by decide, by decide⟩)
/-- "ab" is known: clock 3 still waits. -/
theorem k_ab_inv {H : List QRng} (h : BInv 1 kTx [] [pc 1 sAbc 2 3] H) : BInv 1 kTx [(1, sAb)] [pc 1 sAbc 2 3] H where
  keys := by simp
  kn := fun p hp => by
    obtain rfl : p = (1, sAb) := by simpa using hp
    exact ⟨by decide, by decide, 2, by omega, by rw [kWhole]; omega, abc_02.symm⟩
  q := fun o ho => by
    obtain rfl : o = pc 1 sAbc 2 3 := by simpa using ho
    exact ⟨1, 2, 3, rfl, by decide, by decide, by omega, by rw [kWhole]; omega, by decide +kernel⟩
  apart := by simp
  hc := h.hc
  hh := h.hh
theorem k_ab_count : kcount [((1 : Int), sAb)] 1 = 2 := by decide +kernel
theorem k_ab_ready : readyO [((1 : Int), sAb)] (pc 1 sAbc 2 3) := by unfold readyO; decide +kernel
theorem k_none_ready : ∀ o ∈ [pc 1 sAbc 2 3], ¬ readyO [] o := fun o ho => by
  obtain rfl : o = pc 1 sAbc 2 3 := by simpa using ho
  unfold readyO
  decide +kernel
theorem k_ab_add : kadd [] 1 sAb = [(1, sAb)] := by decide +kernel
theorem k_abc_add : kadd [(1, sAb)] 1 sC = [(1, sAbc)] := by decide +kernel
end Go.Proofs.YtaeebgljcdfolaaGreatDoor
