/- The plain data of the program (ids, ranges, values, operations) as Lean structures; no program in sight. -/
import Derived.Test.YteadongdlacgmaaRows
namespace Go.Proofs.Yteadongdlacgmaa

structure QId where
  c : Int
  k : Int
  deriving DecidableEq, Inhabited
structure QRng where
  c : Int
  a : Int
  b : Int
  deriving DecidableEq, Inhabited
structure QVal where
  kind : Int
  n : Int
  f : Nat
  s : ByteArray
  deriving DecidableEq, Inhabited
structure QOp where
  id : QId
  kind : Int
  stamp : Int
  left : QId
  right : QId
  text : ByteArray
  v : QVal
  key : ByteArray
  parent : QId
  frm : QId
  frmA : Bool
  til : QId
  tilA : Bool
  deriving DecidableEq, Inhabited

def numB (n : Int) : Bool := decide (1 ≤ n) && decide (n ≤ 9007199254740991)
def QId.rightB (i : QId) : Bool := numB i.c && numB i.k
def QId.lessB (x y : QId) : Bool := decide (x.c < y.c) || (decide (x.c = y.c) && decide (x.k < y.k))
def QRng.rightB (r : QRng) : Bool := numB r.c && decide (1 ≤ r.a) && decide (r.a < r.b) && decide (r.b ≤ 9007199254740992)
def QRng.hasB (r : QRng) (i : QId) : Bool := r.rightB && decide (r.c = i.c) && decide (r.a ≤ i.k) && decide (i.k < r.b)
/-- is a float (its bits) a NaN? -/
def nanB (f : Nat) : Bool := FloatKind.f64.format.order f f != some Ordering.eq
def nanBits : Nat := 9221120237041090560
def QVal.clean (v : QVal) : QVal := if nanB v.f then { v with f := nanBits } else v
def orI (x y : Int) : Int := if x ≠ 0 then x else y
theorem orI_ne {x y : Int} (h : (x != 0) = true) : x = orI x y := by
  have h' : x ≠ 0 := by simpa using h
  simp [orI, h']
theorem orI_eq {x y : Int} (h : (x != 0) = false) : y = orI x y := by
  have h' : x = 0 := by simpa using h
  simp [orI, h']
theorem orI_zero {x y : Int} (h : (x != 0) = false) (h2 : (y != 0) = false) : 0 = orI x y := by
  have h' : x = 0 := by simpa using h
  have h'' : y = 0 := by simpa using h2
  simp [orI, h', h'']
def cmpU (x y : Int) : Int := if x < y then -1 else if y < x then 1 else 0
def QRng.cmp (x y : QRng) : Int := orI (cmpU x.c y.c) (cmpU x.a y.a)
def QOp.lessB (x y : QOp) : Bool := decide (x.stamp < y.stamp) || (decide (x.stamp = y.stamp) && x.id.lessB y.id)

end Go.Proofs.Yteadongdlacgmaa
