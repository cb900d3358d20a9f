/- Maps in memory as association lists: what a look-up and a store do. -/
import Derived.Test.YtaeebgljcdfolaaGreatDoorM01
import Derived.Maps.OwnSet
import Derived.BigQuiet
namespace Go.Proofs.YtaeebgljcdfolaaGreatDoor
open Go.RowKit Go.MapKept

/-- the map block r holds the pairs l, in the order in which they came. -/
def MapK {κ : Type} (enc : κ → Value) (w : World) (r : Nat) (l : List (κ × Value)) : Prop :=
  ∃ es clock, w.heap[r]? = some (.map es clock) ∧ es.toList.map (fun e => (e.key, e.val)) = l.map (fun p => (enc p.1, p.2)) ∧ Stamped es clock

def look {κ : Type} [DecidableEq κ] (l : List (κ × Value)) (x : κ) : Option Value := (l.find? fun p => decide (p.1 = x)).map (·.2)
def put {κ : Type} [DecidableEq κ] (l : List (κ × Value)) (x : κ) (v : Value) : List (κ × Value) :=
  if (look l x).isSome then l.map (fun p => if p.1 = x then (x, v) else p) else l ++ [(x, v)]

def findIx {κ : Type} [DecidableEq κ] (x : κ) : List (κ × Value) → Nat → Option (Nat × Value)
  | [], _ => none
  | p :: l, i => if p.1 = x then some (i, p.2) else findIx x l (i + 1)

theorem findIx_look {κ : Type} [DecidableEq κ] (x : κ) : ∀ (l : List (κ × Value)) (i : Nat), (findIx x l i).map (·.2) = look l x
  | [], _ => rfl
  | p :: l, i => by
    unfold findIx look
    by_cases h : p.1 = x
    · simp [h]
    · rw [if_neg h, findIx_look x l (i + 1)]
      simp [look, h]

theorem findIx_some {κ : Type} [DecidableEq κ] {x : κ} : ∀ {l : List (κ × Value)} {i j : Nat} {v : Value}, findIx x l i = some (j, v) → ∃ k, j = i + k ∧ l[k]? = some (x, v) ∧ ∀ m p, m < k → l[m]? = some p → p.1 ≠ x
  | [], _, _, _, h => by simp [findIx] at h
  | p :: l, i, j, v, h => by
    unfold findIx at h
    by_cases hp : p.1 = x
    · rw [if_pos hp] at h
      cases h
      exact ⟨0, rfl, by rw [← hp]; rfl, fun m _ hm => absurd hm (Nat.not_lt_zero _)⟩
    · rw [if_neg hp] at h
      obtain ⟨k, rfl, h1, h2⟩ := findIx_some h
      refine ⟨k + 1, by omega, by simpa using h1, fun m q hm hq => ?_⟩
      cases m with
      | zero => obtain rfl : p = q := by simpa using hq
                exact hp
      | succ m => exact h2 m q (by omega) (by simpa using hq)

theorem modify_map {β : Type} (g : MapEntry → β) (es : Array MapEntry) (j : Nat) (f : MapEntry → MapEntry) (h : ∀ a, es[j]? = some a → g (f a) = g a) : (es.modify j f).toList.map g = es.toList.map g := by
  apply List.ext_getElem?
  intro i
  rw [List.getElem?_map, Array.getElem?_toList, Array.getElem?_modify, List.getElem?_map, Array.getElem?_toList]
  by_cases hij : j = i
  · subst hij
    rw [if_pos rfl]
    cases he : es[j]? with
    | none => rfl
    | some a => simp [h a he]
  · rw [if_neg hij]

/-- what the laws on a map's block need of its keys' type. -/
structure KeyQ (P : Program) (K : TypeId) {κ : Type} [DecidableEq κ] (enc : κ → Value) : Prop where
  inj : ∀ {x y : κ}, enc x = enc y → x = y
  check : ∀ (w : World) (em : Bool) (x : κ), (Instr.checkKey em 10000 K (enc x)).run P w = .ok () w
  find : ∀ (w : World) (x : κ) (es : List MapEntry) (l : List (κ × Value)), es.map (fun e => (e.key, e.val)) = l.map (fun p => (enc p.1, p.2)) → (Instr.findKey K (enc x) es).run P w = .ok (findIx x l 0) w
  stays : ∀ (w : World) (x : κ), (Instr.keyThatStays (enc x) (enc x)).run P w = .ok (enc x) w

section
variable {P : Program} {K T E : TypeId} {κ : Type} [DecidableEq κ] {enc : κ → Value}

theorem run_look (Q : KeyQ P K enc) (ht : P.underlying T = some (.map K E)) {z : Value} (hz : ∀ w, (zeroValue E).run P w = .ok z w) {w : World} {r : Nat} {l : List (κ × Value)} (h : MapK enc w r l) (x : κ) (c : Bool) :
    (Instr.lookup T (.map (some r)) (enc x) c).run P w = .ok (if c then .tuple #[(look l x).getD z, .bool (look l x).isSome] else (look l x).getD z) w := by
  obtain ⟨es, clock, hb, hl, hs⟩ := h
  have hf := Q.find w x es.toList l hl
  have e := findIx_look x l 0
  simp only [Instr.lookup, Sem.run_bind, run_underlying ht, Result.andThen, MapKept.run_getObj_map hb, Sem.run_pure, Q.check, hf]
  rw [← e]
  cases hx : findIx x l 0 with
  | none => simp [Sem.run_bind, hz, Result.andThen, Sem.run_pure]
  | some p => obtain ⟨j, v⟩ := p; simp [Sem.run_pure, Result.andThen]

theorem run_look_nil (Q : KeyQ P K enc) (ht : P.underlying T = some (.map K E)) {z : Value} (hz : ∀ w, (zeroValue E).run P w = .ok z w) (w : World) (x : κ) (c : Bool) :
    (Instr.lookup T (.map none) (enc x) c).run P w = .ok (if c then .tuple #[z, .bool false] else z) w := by
  have hf := Q.find w x [] [] rfl
  simp only [Instr.lookup, Sem.run_bind, run_underlying ht, Result.andThen, Sem.run_pure, Q.check, hf, findIx]
  simp [Sem.run_bind, hz, Result.andThen, Sem.run_pure]

/-- the map with another obj in its block. -/
def putMap (w : World) (r : Nat) (o : Obj) : World := { w with heap := w.heap.setIfInBounds r o }
theorem putMap_same {w : World} {r : Nat} {o : Obj} (h : r < w.heap.size) : (putMap w r o).heap[r]? = some o := by simp [putMap, h]
theorem putMap_other {w : World} {r k : Nat} {o : Obj} (h : k ≠ r) : (putMap w r o).heap[k]? = w.heap[k]? := by simp [putMap, Ne.symm h]
@[simp] theorem putMap_size (w : World) (r : Nat) (o : Obj) : (putMap w r o).heap.size = w.heap.size := by simp [putMap]

theorem run_put (Q : KeyQ P K enc) (ht : P.underlying T = some (.map K E)) {w : World} {r : Nat} {l : List (κ × Value)} (h : MapK enc w r l) (x : κ) (v : Value) :
    ∃ o, (Instr.mapUpdate T (.map (some r)) (enc x) v).run P w = .ok () (putMap w r o) ∧ MapK enc (putMap w r o) r (put l x v) := by
  obtain ⟨es, clock, hb, hl, hs1, hs2, hs3⟩ := h
  have hr : r < w.heap.size := (Array.getElem?_eq_some_iff.1 hb).1
  have hf := Q.find w x es.toList l hl
  have e := findIx_look x l 0
  have hkeys : es.toList.map (·.key) = l.map (fun p => enc p.1) := by
    have := congrArg (List.map Prod.fst) hl
    simpa [List.map_map, Function.comp_def] using this
  cases hx : findIx x l 0 with
  | none =>
    rw [hx] at e hf
    refine ⟨.map (es.push { key := enc x, val := v, born := clock }) (clock + 1), ?_, ⟨_, _, putMap_same hr, ?_, ?_, ?_, ?_⟩⟩
    · simp only [Instr.mapUpdate, Sem.run_bind, run_underlying ht, Result.andThen, MapKept.run_getObj_map hb, Q.check, hf, MapKept.run_setObj_map _ hb]
      rfl
    · have e' : look l x = none := by rw [← e]; rfl
      rw [put, e']
      simp [hl]
    · intro y hy
      simp only [Array.toList_push, List.mem_append, List.mem_singleton] at hy
      rcases hy with hy | rfl
      · have := hs1 y hy; omega
      · simp
    · simp only [Array.toList_push, List.map_append, List.map_cons, List.map_nil]
      refine List.nodup_append.2 ⟨hs2, by simp, fun a ha b hb' => ?_⟩
      obtain ⟨y, hy, rfl⟩ := List.mem_map.1 ha
      obtain rfl : b = clock := by simpa using hb'
      have := hs1 y hy
      omega
    · simp only [Array.toList_push, List.map_append, List.map_cons, List.map_nil]
      refine List.nodup_append.2 ⟨hs3, by simp, fun a ha b hb' => ?_⟩
      obtain rfl : b = enc x := by simpa using hb'
      rintro rfl
      rw [hkeys] at ha
      obtain ⟨p, hp, he⟩ := List.mem_map.1 ha
      have hp1 : p.1 = x := Q.inj he
      have : look l x = none := by rw [← e]; rfl
      simp only [look, Option.map_eq_none_iff, List.find?_eq_none, decide_eq_true_eq] at this
      exact this p hp hp1
  | some q =>
    obtain ⟨j, u⟩ := q
    obtain ⟨k, hk, hlk, hbefore⟩ := findIx_some hx
    obtain rfl : j = k := by omega
    rw [hx] at e hf
    have hjl : j < l.length := (List.getElem?_eq_some_iff.1 hlk).1
    have hjs : j < es.toList.length := by rw [← List.length_map (f := fun e : MapEntry => (e.key, e.val)), hl, List.length_map]; exact hjl
    have hej : es.toList[j].key = enc x := by
      have := congrArg (fun t => t[j]?) hl
      simp [hlk] at this
      obtain ⟨a, ha, hk, _⟩ := this
      have h2 : es.toList[j]? = some a := by rw [Array.getElem?_toList]; exact ha
      rw [List.getElem?_eq_getElem hjs] at h2
      cases h2
      exact hk
    have hea : es[j]? = some es.toList[j] := by rw [← Array.getElem?_toList, List.getElem?_eq_getElem hjs]
    have hsome : (look l x).isSome = true := by rw [← e]; rfl
    refine ⟨.map (es.modify j fun e => { e with key := enc x, val := v }) clock, ?_, ⟨_, _, putMap_same hr, ?_, ?_, ?_, ?_⟩⟩
    · have hst := Q.stays w x
      simp only [Instr.mapUpdate, Sem.run_bind, run_underlying ht, Result.andThen, MapKept.run_getObj_map hb, Q.check, hf, hea, Option.map_some, Option.getD_some, hej, hst, MapKept.run_setObj_map _ hb]
      rfl
    · rw [put, if_pos hsome]
      apply List.ext_getElem?
      intro i
      rw [List.getElem?_map, Array.getElem?_toList, Array.getElem?_modify, List.getElem?_map, List.getElem?_map]
      by_cases hij : j = i
      · subst hij
        simp [hea, hlk]
      · rw [if_neg hij]
        have hi := congrArg (fun t => t[i]?) hl
        simp only [List.getElem?_map, Array.getElem?_toList] at hi
        rw [hi]
        cases hli : l[i]? with
        | none => rfl
        | some p =>
          have hne : p.1 ≠ x := fun hpx => by
            have hil : i < l.length := (List.getElem?_eq_some_iff.1 hli).1
            rw [hkeys] at hs3
            have hnd := List.pairwise_iff_getElem.1 hs3
            have e1 : l[i] = p := by rw [List.getElem?_eq_getElem hil] at hli; exact Option.some.inj hli
            have e2 : l[j] = (x, u) := by rw [List.getElem?_eq_getElem hjl] at hlk; exact Option.some.inj hlk
            rcases Nat.lt_or_gt_of_ne hij with h | h
            · exact hnd j i (by simpa using hjl) (by simpa using hil) h (by simp [e1, e2, hpx])
            · exact hnd i j (by simpa using hil) (by simpa using hjl) h (by simp [e1, e2, hpx])
          simp [hne]
    · intro y hy
      have h3 : y.born ∈ (es.modify j fun e => { e with key := enc x, val := v }).toList.map (·.born) := List.mem_map.2 ⟨y, hy, rfl⟩
      rw [modify_map (·.born) es j (fun e => { e with key := enc x, val := v }) (fun a ha => rfl)] at h3
      obtain ⟨z, hz, hz2⟩ := List.mem_map.1 h3
      rw [← hz2]
      exact hs1 z hz
    · rw [modify_map (·.born) es j (fun e => { e with key := enc x, val := v }) (fun a ha => rfl)]; exact hs2
    · rw [modify_map (·.key) es j (fun e => { e with key := enc x, val := v }) (fun a ha => by rw [hea] at ha; cases ha; exact hej.symm)]; exact hs3

end
end Go.Proofs.YtaeebgljcdfolaaGreatDoor
/- The two kinds of keys: texts, ids. -/
namespace Go.Proofs.YtaeebgljcdfolaaGreatDoor
open Go.RowKit Go.MapKept

theorem findNow_str (x : ByteArray) : ∀ (es : List MapEntry) (l : List (ByteArray × Value)) (i : Nat), es.map (fun e => (e.key, e.val)) = l.map (fun p => (Value.string p.1, p.2)) → Instr.findNow .string (.string x) es i = some (findIx x l i)
  | [], [], _, _ => rfl
  | [], _ :: _, _, h => by simp at h
  | _ :: _, [], _, h => by simp at h
  | e :: es, p :: l, i, h => by
    simp only [List.map_cons, List.cons.injEq, Prod.mk.injEq] at h
    obtain ⟨⟨h1, h2⟩, h3⟩ := h
    unfold Instr.findNow findIx
    rw [h1]
    simp only [Instr.sameNow]
    by_cases hx : p.1 = x
    · have : (x == p.1) = true := (bytes_beq x p.1).2 hx.symm
      rw [this]
      simp [hx, h2]
    · have : (x == p.1) = false := by
        cases h : (x == p.1)
        · rfl
        · exact absurd ((bytes_beq x p.1).1 h).symm hx
      rw [this]
      simp only [hx, if_false]
      exact findNow_str x es l (i + 1) h3

theorem strKey : KeyQ Tryz.prog 9 Value.string where
  inj h := by cases h; rfl
  check w em x := run_checkKey (d := .string) (k := .string x) (by kernel_rfl) trivial em 9999
  find w x es l h := run_findKey (d := .string) (by kernel_rfl) (findNow_str x es l 0 h)
  stays w x := run_keyThatStays (d := .string) (k := .string x) trivial

def idV (i : QId) : Value := .agg #[.int .u64 i.c, .int .u64 i.k]

theorem idCheck (w : World) (em : Bool) (x : QId) : (Instr.checkKey em 10000 28 (idV x)).run Tryz.prog w = .ok () w := by kernel_rfl

theorem idEqual (w : World) (x y : QId) : (Op.equal 28 (idV x) (idV y)).run Tryz.prog w = .ok (decide (x = y)) w := by
  unfold Op.equal Op.maxDepth Op.equalIn idV
  go_simp
  obtain ⟨a, b⟩ := x
  obtain ⟨c, d⟩ := y
  by_cases h1 : a = c <;> by_cases h2 : b = d <;> simp [h1, h2]

theorem idStays (w : World) (x : QId) : (Instr.keyThatStays (idV x) (idV x)).run Tryz.prog w = .ok (idV x) w := by
  have : Instr.sameBits 10000 (idV x) (idV x) = true := by simp [Instr.sameBits, idV]
  simp [Instr.keyThatStays, this]

theorem idAsking (w : World) (x : QId) : ∀ (es : List MapEntry) (l : List (QId × Value)) (i : Nat), es.map (fun e => (e.key, e.val)) = l.map (fun p => (idV p.1, p.2)) → (Instr.findAsking 28 (idV x) es i).run Tryz.prog w = .ok (findIx x l i) w
  | [], [], _, _ => rfl
  | [], _ :: _, _, h => by simp at h
  | _ :: _, [], _, h => by simp at h
  | e :: es, p :: l, i, h => by
    simp only [List.map_cons, List.cons.injEq, Prod.mk.injEq] at h
    obtain ⟨⟨h1, h2⟩, h3⟩ := h
    unfold Instr.findAsking findIx
    rw [h1]
    simp only [Sem.run_bind, idEqual, Result.andThen]
    by_cases hx : p.1 = x
    · simp [hx, h2]
    · have hx' : ¬ x = p.1 := fun h => hx h.symm
      simp only [hx, hx', decide_false, Bool.false_eq_true, if_false]
      exact idAsking w x es l (i + 1) h3

theorem idKey : KeyQ Tryz.prog 28 idV where
  inj {x y} h := by
    obtain ⟨a, b⟩ := x
    obtain ⟨c, d⟩ := y
    simp [idV] at h
    simp [h]
  check w em x := idCheck w em x
  find w x es l h := by
    rw [run_findKey_eq w (by rw [Tryz.underlying28])]
    exact idAsking w x _ l 0 h
  stays w x := idStays w x
end Go.Proofs.YtaeebgljcdfolaaGreatDoor
/- A region that draws its order, whose operations only read and whose callees read and make blocks of their own: one walk, in the order of the text. -/
namespace Go.Proofs.YtaeebgljcdfolaaGreatDoor
open Go.RowKit

/-- a world in which all that lay in W lies as it did. -/
structure BStep (W : World) where
  val : World
  h : Below W.heap.size W val

theorem wp_region_b {P : Program} {id : Nat} {Q : Exit → Act → World → Prop} {a : Act} {w : World} {l : List Oper} (hm : P.follows .mixedOrders = true) (hB : Region.lexB .any l.toArray = true)
    (h : wpQuiet P l.toArray (fun w' => ∃ p : BStep w, w' = p.val) (fun a' => ∀ w', (∃ p : BStep w, w' = p.val) → Q .normal a' w') l a) : (Code.region id l.toArray true).wp P Q a w :=
  wp_region_quiet (C := fun w' => ∃ p : BStep w, w' = p.val) hm hB ⟨⟨w.drew, (Below.refl _ _).drew⟩, rfl⟩ (by simpa using h)

theorem BStep.cell {W : World} {a : Addr} {v : Value} (hb : a.block < W.heap.size) (h : W.cell? a = some v) (s : BStep W) : s.val.cell? a = some v := (s.h.cell hb).trans h

/-- a callee's contract, met in a world of the class. -/
theorem callsB {P : Program} {f : FuncId} {args : Array Value} {W : World} {s : BStep W} {v : Value}
    (h : Calls P f args s.val fun e w' => e = .returned v ∧ Below s.val.heap.size s.val w') : Calls P f args s.val fun e w'' => e = .returned v ∧ ∃ p : BStep W, w'' = p.val :=
  h.mono fun _ w' ⟨he, hb⟩ => ⟨he, ⟨w', belowTrans s.h hb⟩, rfl⟩
theorem BStep.of {W w' : World} (h : ∃ p : BStep W, w' = p.val) : Below W.heap.size W w' := by obtain ⟨p, rfl⟩ := h; exact p.h
instance (W : World) : Nonempty (BStep W) := ⟨⟨W, Below.refl _ _⟩⟩
end Go.Proofs.YtaeebgljcdfolaaGreatDoor
