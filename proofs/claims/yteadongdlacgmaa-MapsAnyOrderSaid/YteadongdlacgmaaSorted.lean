/- slices.Sorted over maps.Keys: the keys of a map, sorted. -/
import Derived.Test.YteadongdlacgmaaFind
import Derived.Test.YteadongdlacgmaaLay
import Derived.Test.YteadongdlacgmaaFlow
namespace Go.Proofs.Yteadongdlacgmaa
open Go.RowKit Go.Maps Go.Sort Go.Shelf

theorem sorts_any (m : Nat) : AnyZ.SortsIn Try.prog Try.sortedS_ren Fence.wide m :=
  ⟨fun blk off cap ss W hH hblk hsz => callsIn_wide.2 (AnyM.slices_Sort_string Try.sortS blk off cap ss W hH hblk hsz),
   fun p cap W => callsIn_wide.2 (AnyM.slices_Sort_string_none Try.sortS p cap W)⟩

theorem mapsKeys_any (mb : Option Nat) (W : World) : Calls Try.prog 52 #[.map mb] W fun e w' => e = .returned (.func (.func 68) #[] #[.pointer (some ⟨W.heap.size, 0, none⟩)]) ∧ w' = W.alloc (.cells #[.map mb] 71) :=
  callsIn_wide.1 (AnyZ.keys_in Try.keysS Fence.wide 5 trivial rfl mb W)

def keyR : Value → Option (DataW Unit × List MemPlace) := fun _ => some (.nil, [])
def keyD (ks : List ByteArray) : DataW Unit := .map ((ks.map fun k => (Lit.string k.data.toList, DataW.nil)).foldr DataW.insert [])

theorem undStr : Try.prog.underlying 9 = some .string := by kernel_rfl

theorem mapK_owns {w : World} {r : Nat} {ks : List ByteArray} {f : ByteArray → Value} (h : MapK Value.string w r (ks.map fun k => (k, f k))) (hsz : ∀ k ∈ ks, k.size ≤ maxLen) (hlen : ks.length ≤ maxLen) :
    w.ownsMap Try.prog 9 keyR r ks.length (keyD ks) ∧ ks.Nodup := by
  obtain ⟨es, clock, hb, hl, hs⟩ := h
  have hlen' : es.toList.length = ks.length := by
    have := congrArg List.length hl
    simpa using this
  have hkeys : es.toList.map (·.key) = ks.map Value.string := by
    have := congrArg (List.map Prod.fst) hl
    simpa [List.map_map, Function.comp_def] using this
  have hrd : ∀ x ∈ es.toList, ∃ k ∈ ks, x.key = .string k := by
    intro x hx
    have : x.key ∈ es.toList.map (·.key) := List.mem_map.2 ⟨x, hx, rfl⟩
    rw [hkeys] at this
    obtain ⟨k, hk, e⟩ := List.mem_map.1 this
    exact ⟨k, hk, e.symm⟩
  have hk1 : ∀ (x : MapEntry) (k : ByteArray), x.key = .string k → k.size ≤ maxLen → WideElems.rd Try.prog 9 keyR x = some (.string k.data.toList, .nil) := by
    intro x k hx hs
    unfold WideElems.rd
    have : keyOf Try.prog 9 x.key = some (.string k.data.toList) := by
      rw [hx]
      simp [keyOf, undStr, mapKey]
      exact hs
    rw [this]
    rfl
  refine ⟨⟨es, clock, hb, ⟨?_, hs, ?_⟩, ?_, ?_⟩, ?_⟩
  · have : es.size = ks.length := by simpa using hlen'
    omega
  · intro x hx
    obtain ⟨k, hk, e⟩ := hrd x hx
    exact ⟨_, hk1 x k e (hsz k hk)⟩
  · have : es.size = ks.length := by simpa using hlen'
    omega
  · unfold keyD
    congr 2
    have : ∀ (l : List MapEntry) (ks : List ByteArray), l.map (·.key) = ks.map Value.string → (∀ k ∈ ks, k.size ≤ maxLen) → ks.map (fun k => (Lit.string k.data.toList, (DataW.nil : DataW Unit))) = l.map (WideElems.rg Try.prog 9 keyR) := by
      intro l
      induction l with
      | nil => intro ks h _; cases ks with
        | nil => rfl
        | cons => simp at h
      | cons x l ih =>
        intro ks h hz
        cases ks with
        | nil => simp at h
        | cons k ks =>
          simp only [List.map_cons, List.cons.injEq] at h ⊢
          refine ⟨?_, ih ks h.2 fun k hk => hz k (by simp [hk])⟩
          rw [WideElems.rg, hk1 x k h.1 (hz k (by simp))]
          rfl
    exact this _ _ hkeys hsz
  · have h3 := hs.2.2
    rw [hkeys] at h3
    exact (List.pairwise_map.1 h3).imp fun h e => h (by rw [e])

theorem bytes_le_iff : True := trivial
theorem keyD_perm (ks : List ByteArray) : (strKeys (keyD ks)).Perm (ks.map fun k => k.data.toList) := by
  unfold keyD strKeys
  have := (WideShapes.sorted_perm (ks.map fun k => (Lit.string k.data.toList, (DataW.nil : DataW Unit)))).map fun p => strOf p.1
  refine this.trans ?_
  rw [List.map_map]
  exact List.Perm.refl _
theorem keyD_size (ks : List ByteArray) : Maps.size (keyD ks) = ks.length := by
  unfold keyD Maps.size
  have := (WideShapes.sorted_perm (ks.map fun k => (Lit.string k.data.toList, (DataW.nil : DataW Unit)))).length_eq
  rw [List.length_map] at this
  exact this

theorem sortKeys_data (ks : List ByteArray) : ((ks.map fun k => k.data.toList).mergeSort fun x y => decide (x ≤ y)) = (sortKeys ks).map fun k => k.data.toList := by
  unfold sortKeys
  rw [List.map_mergeSort]
  intros; rfl

set_option maxHeartbeats 1000000 in
theorem sorted_any (r : Nat) (ks : List ByteArray) (f : ByteArray → Value) (w : World) (h : MapK Value.string w r (ks.map fun k => (k, f k))) (hsz : ∀ k ∈ ks, k.size ≤ maxLen) (hlen : ks.length ≤ 100000) :
    Calls Try.prog 51 #[.func (.func 68) #[] #[.pointer (some ⟨w.heap.size, 0, none⟩)]] (w.alloc (.cells #[.map (some r)] 71))
      (RetW fun v w' => OwnAt w.heap.size 9 1 encStrB w' v (sortKeys ks) ∧ Below (w.alloc (.cells #[.map (some r)] 71)).heap.size (w.alloc (.cells #[.map (some r)] 71)) w') := by
  have hown := (mapK_owns h hsz (by unfold maxLen; omega)).1
  have hbl := hown.lt
  have hseq : SeqGives Fence.wide 2 Try.prog 68 #[.pointer (some ⟨w.heap.size, 0, none⟩)] encStr (fun ss => ss.Perm (strKeys (keyD ks))) (Maps.size (keyD ks)) (w.alloc (.cells #[.map (some r)] 71)) :=
    AnyZ.keys_gives (ρ := Try.keysS_ren) { Try.keysS with } Fence.wide _ trivial rfl (by omega) w.heap.size r _ (keyD ks) _ (by simp) (by simp) (by
      obtain ⟨es, clock, hb, Ft, hs, hD⟩ := hown
      exact ⟨es, clock, (Below.heap_alloc _ _ r hbl).trans hb, Ft, hs, hD⟩)
  have cS := AnyZ.sorted_in Try.sortedS Fence.wide 5 trivial trivial trivial trivial rfl (by omega) (sorts_any _) (enters_of Try.func67 (by kernel_rfl) rfl) 68 #[.pointer (some ⟨w.heap.size, 0, none⟩)] trivial (enters_of Try.func68 (by kernel_rfl) rfl) _ _ (by rw [keyD_size]; unfold maxLen; omega) (by rw [keyD_size]; omega) _ hseq
  refine (callsIn_wide.1 cS).mono ?_
  rintro e w' ⟨v, ss, rfl, hS, hrow, hnil, hb⟩
  have hperm : ss.Perm (ks.map fun k => k.data.toList) := hS.trans (keyD_perm ks)
  have hms : (ss.mergeSort fun x y => decide (x ≤ y)) = (sortKeys ks).map fun k => k.data.toList := (mergeSort_of_perm hperm).trans (sortKeys_data ks)
  rw [hms] at hrow
  refine ⟨v, rfl, ?_, hb⟩
  have hl : ss.length = (sortKeys ks).length := by rw [hperm.length_eq, List.length_map]; unfold sortKeys; rw [List.length_mergeSort]
  rw [hl] at hrow
  have he : ((sortKeys ks).map fun k => k.data.toList).map encStr = (sortKeys ks).flatMap encStrB := by
    rw [List.map_map]
    induction sortKeys ks with
    | nil => rfl
    | cons k l ih => rw [List.map_cons, ih, List.flatMap_cons]; simp [encStrB, encStr]
  rw [he] at hrow
  exact ownsRow_base hrow (by simp)

set_option maxHeartbeats 1000000 in
theorem sortedNil_any (w : World) :
    Calls Try.prog 51 #[.func (.func 68) #[] #[.pointer (some ⟨w.heap.size, 0, none⟩)]] (w.alloc (.cells #[.map none] 71))
      (RetW fun v w' => OwnAt w.heap.size 9 1 encStrB w' v [] ∧ Below (w.alloc (.cells #[.map none] 71)).heap.size (w.alloc (.cells #[.map none] 71)) w') := by
  have hseq : SeqGives Fence.wide 2 Try.prog 68 #[.pointer (some ⟨w.heap.size, 0, none⟩)] encStr (fun ss : List (List UInt8) => ss = []) 0 (w.alloc (.cells #[.map none] 71)) :=
    AnyZ.keys_gives_nil (ρ := Try.keysS_ren) { Try.keysS with } Fence.wide _ trivial rfl w.heap.size _ (by simp) (by simp)
  have cS := AnyZ.sorted_in Try.sortedS Fence.wide 5 trivial trivial trivial trivial rfl (by omega) (sorts_any _) (enters_of Try.func67 (by kernel_rfl) rfl) 68 #[.pointer (some ⟨w.heap.size, 0, none⟩)] trivial (enters_of Try.func68 (by kernel_rfl) rfl) _ 0 (Nat.zero_le _) (by omega) _ hseq
  refine (callsIn_wide.1 cS).mono ?_
  rintro e w' ⟨v, ss, rfl, hS, hrow, hnil, hb⟩
  subst hS
  have hrow2 : w'.ownsRow (w.alloc (.cells #[.map none] 71)).heap.size 9 1 v ([] : List ByteArray).length (([] : List ByteArray).flatMap encStrB) := by
    have e : ([] : List (List UInt8)).mergeSort (fun x y => decide (x ≤ y)) = [] := by simp
    rw [e] at hrow
    exact hrow
  refine ⟨v, rfl, ownsRow_base hrow2 ?_, hb⟩
  rw [World.size_alloc]; omega

/-- the keys of a parent's map, sorted, whatever the map. -/
theorem sortedKeys_at {w : World} {bm : Nat} {L : MLay} {M : QMaps} (h : MapsAt w bm L M) (p : QId) (hsz : ∀ o ∈ M.ops, o.key.size ≤ maxLen) (hlen : M.ops.length ≤ 100000) :
    Calls Try.prog 51 #[.func (.func 68) #[] #[.pointer (some ⟨w.heap.size, 0, none⟩)]] (w.alloc (.cells #[.map (innBlk L p)] 71))
      (RetW fun v w' => OwnAt w.heap.size 9 1 encStrB w' v (sortKeys (keysAt M.ops p)) ∧ Below (w.alloc (.cells #[.map (innBlk L p)] 71)).heap.size (w.alloc (.cells #[.map (innBlk L p)] 71)) w') := by
  cases hib : innBlk L p with
  | none =>
    have e : keysAt M.ops p = [] := by
      apply List.eq_nil_iff_forall_not_mem.2
      intro k hk
      obtain ⟨o, ho, hp, _⟩ := opsAt_ne.1 (mem_keysAt_iff.1 hk)
      exact innBlk_none h hib o ho hp
    rw [e, show sortKeys [] = [] by simp [sortKeys]]
    exact sortedNil_any w
  | some r =>
    refine sorted_any r (keysAt M.ops p) (L.row p) w (h.inner _ (innBlk_some h hib)) ?_ ?_
    · intro k hk
      obtain ⟨o, ho, _, rfl⟩ := opsAt_ne.1 (mem_keysAt_iff.1 hk)
      exact hsz o ho
    · have : ∀ (l : List QOp) (acc : List ByteArray), (l.foldl (fun (ks : List ByteArray) (o : QOp) => if o.parent = p ∧ (ks.any fun x => decide (x = o.key)) = false then ks ++ [o.key] else ks) acc).length ≤ acc.length + l.length := by
        intro l
        induction l with
        | nil => intro acc; simp
        | cons o l ih =>
          intro acc
          rw [List.foldl_cons]
          refine Nat.le_trans (ih _) ?_
          split
          · simp; omega
          · simp
      have := this M.ops []
      unfold keysAt
      simpa using Nat.le_trans this (by simpa using hlen)
end Go.Proofs.Yteadongdlacgmaa
