/- Plain: the chapter's examples, reckoned. -/
import Derived.Test.YteadongdlacgmaaViewLaw
import Derived.Test.YteadongdlacgmaaSetOp
namespace Go.Proofs.Yteadongdlacgmaa

def kOne : QVal := ⟨2, 1, 0, ⟨#[]⟩⟩
def kMap : QVal := ⟨5, 0, 0, ⟨#[]⟩⟩
def sK : ByteArray := ⟨#[107]⟩
def sM : ByteArray := ⟨#[109]⟩
def sX : ByteArray := ⟨#[120]⟩
def k1 : QOp := mkOp 1 2 idZero sK kOne
def k2 : QOp := mkOp 2 3 idZero sK valZero
def k3 : QOp := mkOp 2 3 idZero sK kOne
def k4 : QOp := mkOp 3 1 ⟨1, 1⟩ sX kOne
def k5 : QOp := mkOp 4 1 idZero sM kMap
def k6 : QOp := mkOp 5 1 ⟨1, 4⟩ sX kOne
def KM1 : QMaps := QMaps.empty.set k1
def KM2 : QMaps := KM1.set k2
def KM3 : QMaps := ⟨KM2.ops, [⟨1, 2, 3⟩]⟩
def KM4 : QMaps := KM3.set k5
def KM5 : QMaps := KM4.set k6

theorem ks1 : QMaps.empty.setB k1 = true := by decide +kernel
theorem ks2 : KM1.setB k2 = true := by decide +kernel
theorem ks3 : KM2.setB k3 = false := by decide +kernel
theorem ks4 : KM2.setB k4 = false := by decide +kernel
theorem ks5 : KM3.setB k5 = true := by decide +kernel
theorem ks6 : KM4.setB k6 = true := by decide +kernel
theorem kw2 : MWf KM2.ops := (MWf.nil.snoc (M := QMaps.empty) ks1).snoc (M := KM1) ks2
theorem kw5 : MWf KM5.ops := (MWf.snoc (M := KM3) kw2 ks5).snoc (M := KM4) ks6
theorem kClean1 : kOne.clean = kOne := by decide +kernel
theorem kFind : KM5.findFrom idZero [sM] = some ⟨1, 4⟩ := by decide +kernel
theorem kGet : KM5.get ⟨1, 4⟩ sX = some k6 := by decide +kernel
theorem sort1 (k : ByteArray) : sortKeys [k] = [k] := by simp [sortKeys]
theorem sort2 : sortKeys [sK, sM] = [sK, sM] := List.mergeSort_of_pairwise (by simp [List.pairwise_cons, sK, sM]; decide)
theorem sort0 : sortKeys [] = [] := by simp [sortKeys]
theorem kView2 : KM2.view = [] := by
  unfold QMaps.view
  rw [show KM2.ops.length + 1 = 2 + 1 from rfl, QMaps.viewN, show keysAt KM2.ops idZero = [sK] by decide +kernel, sort1, List.filterMap_cons, show KM2.get idZero sK = none by decide +kernel]
  rfl
theorem kView3 : KM3.view = [.mk sK kOne []] := by
  unfold QMaps.view
  rw [show KM3.ops.length + 1 = 2 + 1 from rfl, QMaps.viewN, show keysAt KM3.ops idZero = [sK] by decide +kernel, sort1, List.filterMap_cons, show KM3.get idZero sK = some k1 by decide +kernel]
  show [QEntry.mk sK k1.v.clean (if k1.v.kind = 5 then KM3.viewN 2 k1.id else [])] = _
  rw [show k1.v.clean = kOne by decide +kernel]
  rfl
theorem kView5 : ∃ l, KM5.view = [.mk sK kOne [], .mk sM kMap l] ∧ l.length = 1 := by
  refine ⟨KM5.viewN 4 ⟨1, 4⟩, ?_, ?_⟩
  · unfold QMaps.view
    rw [show KM5.ops.length + 1 = 4 + 1 from rfl, QMaps.viewN, show keysAt KM5.ops idZero = [sK, sM] by decide +kernel, sort2, List.filterMap_cons, show KM5.get idZero sK = some k1 by decide +kernel]
    simp only [List.filterMap_cons, List.filterMap_nil]
    rw [show KM5.get idZero sM = some k5 by decide +kernel]
    show [QEntry.mk sK k1.v.clean (if k1.v.kind = 5 then KM5.viewN 4 k1.id else []), QEntry.mk sM k5.v.clean (if k5.v.kind = 5 then KM5.viewN 4 k5.id else [])] = _
    rw [show k5.v.clean = kMap by decide +kernel, show k1.v.clean = kOne by decide +kernel]
    rfl
  · rw [QMaps.viewN, show keysAt KM5.ops ⟨1, 4⟩ = [sX] by decide +kernel, sort1, List.filterMap_cons, show KM5.get ⟨1, 4⟩ sX = some k6 by decide +kernel]
    rfl
end Go.Proofs.Yteadongdlacgmaa
