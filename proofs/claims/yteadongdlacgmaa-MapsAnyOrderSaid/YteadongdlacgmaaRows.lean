/-
  No cell of these rows narrows 'for every input' (looked for: loops, veiled, ifaces, maps, wideKeys, modest, calm, conditions, laid).
  DERIVED. THE GIVEN ROWS OF THIS SEAT. 3 by the template 'for every input the law returns true; each argument reads behind the call as it read before'; 0 by the template 'total and deterministic' (their statements: YteadongdlacgmaaTotals.lean).
  GIVEN WITH THE SEED: the statements are not yours to turn. If you find one false, say at which input.
  Laid BY PROGRAM, IN A SANDBOX (cutbox-rows.mjs): the forced cells as the released guide's own fill.sh prints them over the translation 327cd0511e67fb9c… (all of the seat's roots in one cut). By AI agents, Wed Nov 11 2026. No macro, syntax, notation, axiom, sorry.
-/
import Derived.Test.YteadongdlacgmaaChecked
import GoSem.Claim
import GoSem.ClaimJoined
import GoSem.ClaimMapViews
import Derived.JoinedTies
import Derived.KernelRfl
namespace Go.Proofs.Yteadongdlacgmaa
/- THE CELL 'sum', in the pinned program and in every row, IS THE sha256 OF THE DUMP (.gsa) THAT YteadongdlacgmaaProg.lean LOADS. Nothing in Lean hashes anything: it is a label: what it is worth is what the hold of that sum in a sandbox is worth. -/
noncomputable def Try.pinned : Pinned := { name := "yteadongdlacgmaa", sum := "327cd0511e67fb9cd2c3d17fca8452076e2b56b0b3c45f293994846c0ee332ee", checked := Try.checked }
namespace Rows
def none {H : Type} : Left H := { results := [], args := [] }

/-- 'quirelaw12.MapsAnyOrder': WHATEVER THE INPUT: true; the input reads as it did. -/
def mapsAnyOrderSpec : ChangeSpec := { name := "mapsAnyOrder", fn := fun _ => fun
  | [d1, d2, d3] => { results := [.lit (.bool true)], args := [d1, d2, d3] }
  | _ => none }
def mapsAnyOrderRow : OpenClaim := { program := "yteadongdlacgmaa", sum := "327cd0511e67fb9cd2c3d17fca8452076e2b56b0b3c45f293994846c0ee332ee", func := "quire/quirelaw12.MapsAnyOrder", spec := "mapsAnyOrder", inPlace := ["math.Float64frombits", "math.Float64bits"], unfollowed := true, recurses := true, plainKeys := false, apart := false }
def MapsAnyOrderSaid : Prop := mapsAnyOrderRow.holds Try.pinned (OpenSpec.ofChange mapsAnyOrderSpec)

/-- ITS FALSE NEIGHBOUR: 'it returns false'. Refute it at one input. -/
def mapsAnyOrderWrong : ChangeSpec := { name := "mapsAnyOrder", fn := fun _ => fun
  | [d1, d2, d3] => { results := [.lit (.bool false)], args := [d1, d2, d3] }
  | _ => none }
def MapsAnyOrderWrongFalsely : Prop := mapsAnyOrderRow.holds Try.pinned (OpenSpec.ofChange mapsAnyOrderWrong)

/-- 'quirelaw12.MapsNested': WHATEVER THE INPUT: true; the input reads as it did. -/
def mapsNestedSpec : ChangeSpec := { name := "mapsNested", fn := fun _ => fun
  | [d1, d2] => { results := [.lit (.bool true)], args := [d1, d2] }
  | _ => none }
def mapsNestedRow : OpenClaim := { program := "yteadongdlacgmaa", sum := "327cd0511e67fb9cd2c3d17fca8452076e2b56b0b3c45f293994846c0ee332ee", func := "quire/quirelaw12.MapsNested", spec := "mapsNested", inPlace := ["math.Float64frombits", "math.Float64bits"], unfollowed := true, recurses := true, plainKeys := false, apart := false }
def MapsNestedSaid : Prop := mapsNestedRow.holds Try.pinned (OpenSpec.ofChange mapsNestedSpec)

/-- ITS FALSE NEIGHBOUR: 'it returns false'. Refute it at one input. -/
def mapsNestedWrong : ChangeSpec := { name := "mapsNested", fn := fun _ => fun
  | [d1, d2] => { results := [.lit (.bool false)], args := [d1, d2] }
  | _ => none }
def MapsNestedWrongFalsely : Prop := mapsNestedRow.holds Try.pinned (OpenSpec.ofChange mapsNestedWrong)

/-- 'quirelaw12.MapsLast': WHATEVER THE INPUT: true; the input reads as it did. -/
def mapsLastSpec : ChangeSpec := { name := "mapsLast", fn := fun _ => fun
  | [d1, d2] => { results := [.lit (.bool true)], args := [d1, d2] }
  | _ => none }
def mapsLastRow : OpenClaim := { program := "yteadongdlacgmaa", sum := "327cd0511e67fb9cd2c3d17fca8452076e2b56b0b3c45f293994846c0ee332ee", func := "quire/quirelaw12.MapsLast", spec := "mapsLast", inPlace := ["math.Float64frombits", "math.Float64bits"], unfollowed := true, recurses := true, plainKeys := false, apart := false }
def MapsLastSaid : Prop := mapsLastRow.holds Try.pinned (OpenSpec.ofChange mapsLastSpec)

/-- ITS FALSE NEIGHBOUR: 'it returns false'. Refute it at one input. -/
def mapsLastWrong : ChangeSpec := { name := "mapsLast", fn := fun _ => fun
  | [d1, d2] => { results := [.lit (.bool false)], args := [d1, d2] }
  | _ => none }
def MapsLastWrongFalsely : Prop := mapsLastRow.holds Try.pinned (OpenSpec.ofChange mapsLastWrong)

/- THE SECOND FORM. 'bulk': how many values and letters a reading holds, each counted each time it is reached (what is shared counts as often as it is met; a slice's spare places count too). A statement '..UptoSaid' is the law's where the arguments, and the package variables that the reading takes, are together of bulk at most 1048576: NARROWER than '..Said'. Prove '..Said' where nothing that the law and all that it calls make is longer than what came in: it says more and counts as full. Else prove '..UptoSaid'. A law counts once. -/
mutual
def uptoBulk {H : Type} : DataW H → Nat
  | .lit (.string bytes) => bytes.length + 1
  | .lit _ => 1
  | .nil => 1
  | .ptr d => uptoBulk d + 1
  | .slice elems spare => uptoBulkAll elems + uptoBulkAll spare + 1
  | .agg parts => uptoBulkAll parts + 1
  | .iface _ d => uptoBulk d + 1
  | .map entries => uptoBulkEntries entries + 1
  | .held _ => 1
def uptoBulkAll {H : Type} : List (DataW H) → Nat
  | [] => 0
  | d :: r => uptoBulk d + uptoBulkAll r
def uptoBulkEntries {H : Type} : List (Lit × DataW H) → Nat
  | [] => 0
  | x :: r => uptoBulkEntry x + uptoBulkEntries r
def uptoBulkEntry {H : Type} : Lit × DataW H → Nat
  | (.string bytes, d) => bytes.length + uptoBulk d + 1
  | (_, d) => uptoBulk d + 1
 end
def uptoSmall : (H : Type) → List (DataW H) → Bool := fun _ ds => decide (uptoBulkAll ds ≤ 1048576)
def OpenSpec.upto (s : _root_.Go.ChangeSpec) : _root_.Go.OpenSpec := { _root_.Go.OpenSpec.ofChange s with cond := some uptoSmall }

/-- 'quirelaw12.MapsAnyOrder', WHERE WHAT IT READS IS OF BULK AT MOST 1048576: true; the input reads as it did. -/
def mapsAnyOrderUptoRow : OpenClaim := { program := "yteadongdlacgmaa", sum := "327cd0511e67fb9cd2c3d17fca8452076e2b56b0b3c45f293994846c0ee332ee", func := "quire/quirelaw12.MapsAnyOrder", spec := "mapsAnyOrder", inPlace := ["math.Float64frombits", "math.Float64bits"], unfollowed := true, recurses := true, plainKeys := false, apart := false, narrowed := true }
def MapsAnyOrderUptoSaid : Prop := mapsAnyOrderUptoRow.holds Try.pinned (OpenSpec.upto mapsAnyOrderSpec)

/-- 'quirelaw12.MapsNested', WHERE WHAT IT READS IS OF BULK AT MOST 1048576: true; the input reads as it did. -/
def mapsNestedUptoRow : OpenClaim := { program := "yteadongdlacgmaa", sum := "327cd0511e67fb9cd2c3d17fca8452076e2b56b0b3c45f293994846c0ee332ee", func := "quire/quirelaw12.MapsNested", spec := "mapsNested", inPlace := ["math.Float64frombits", "math.Float64bits"], unfollowed := true, recurses := true, plainKeys := false, apart := false, narrowed := true }
def MapsNestedUptoSaid : Prop := mapsNestedUptoRow.holds Try.pinned (OpenSpec.upto mapsNestedSpec)

/-- 'quirelaw12.MapsLast', WHERE WHAT IT READS IS OF BULK AT MOST 1048576: true; the input reads as it did. -/
def mapsLastUptoRow : OpenClaim := { program := "yteadongdlacgmaa", sum := "327cd0511e67fb9cd2c3d17fca8452076e2b56b0b3c45f293994846c0ee332ee", func := "quire/quirelaw12.MapsLast", spec := "mapsLast", inPlace := ["math.Float64frombits", "math.Float64bits"], unfollowed := true, recurses := true, plainKeys := false, apart := false, narrowed := true }
def MapsLastUptoSaid : Prop := mapsLastUptoRow.holds Try.pinned (OpenSpec.upto mapsLastSpec)

end Rows
end Go.Proofs.Yteadongdlacgmaa
