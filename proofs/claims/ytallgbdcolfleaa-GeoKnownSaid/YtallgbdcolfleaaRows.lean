/-
  No cell of these rows narrows 'for every input' (looked for: loops, veiled, ifaces, maps, wideKeys, modest, calm, conditions, laid).
  DERIVED. THE GIVEN ROWS OF THIS SEAT. 6 by the template 'for every input the law returns true; each argument reads behind the call as it read before'; 0 by the template 'total and deterministic' (their statements: YtallgbdcolfleaaTotals.lean).
  GIVEN WITH THE SEED: the statements are not yours to turn. If you find one false, say at which input.
  Laid BY PROGRAM, IN A SANDBOX (cutbox-rows.mjs): the forced cells as the released guide's own fill.sh prints them over the translation e43d283e7549a99e… (all of the seat's roots in one cut). By AI agents, Wed Nov 11 2026. No macro, syntax, notation, axiom, sorry.
-/
import Derived.Test.YtallgbdcolfleaaChecked
import GoSem.Claim
import GoSem.ClaimJoined
import GoSem.ClaimMapViews
import Derived.JoinedTies
import Derived.KernelRfl
namespace Go.Proofs.Ytallgbdcolfleaa
/- THE CELL 'sum', in the pinned program and in every row, IS THE sha256 OF THE DUMP (.gsa) THAT YtallgbdcolfleaaProg.lean LOADS. Nothing in Lean hashes anything: it is a label: what it is worth is what the hold of that sum in a sandbox is worth. -/
noncomputable def Try.pinned : Pinned := { name := "ytallgbdcolfleaa", sum := "e43d283e7549a99ec4a05c8f1576f852c5603c26d7b70f6d6b9cd12ec6757403", checked := Try.checked }
namespace Rows
def none {H : Type} : Left H := { results := [], args := [] }

/-- 'rilllaw10.GeoGrows': WHATEVER THE INPUT: true; the input reads as it did. -/
def geoGrowsSpec : ChangeSpec := { name := "geoGrows", fn := fun _ => fun
  | [d1, d2, d3] => { results := [.lit (.bool true)], args := [d1, d2, d3] }
  | _ => none }
def geoGrowsRow : OpenClaim := { program := "ytallgbdcolfleaa", sum := "e43d283e7549a99ec4a05c8f1576f852c5603c26d7b70f6d6b9cd12ec6757403", func := "rill/rilllaw10.GeoGrows", spec := "geoGrows", apart := false }
def GeoGrowsSaid : Prop := geoGrowsRow.holds Try.pinned (OpenSpec.ofChange geoGrowsSpec)

/-- ITS FALSE NEIGHBOUR: 'it returns false'. Refute it at one input. -/
def geoGrowsWrong : ChangeSpec := { name := "geoGrows", fn := fun _ => fun
  | [d1, d2, d3] => { results := [.lit (.bool false)], args := [d1, d2, d3] }
  | _ => none }
def GeoGrowsWrongFalsely : Prop := geoGrowsRow.holds Try.pinned (OpenSpec.ofChange geoGrowsWrong)

/-- 'rilllaw10.GeoPlaces': WHATEVER THE INPUT: true; the input reads as it did. -/
def geoPlacesSpec : ChangeSpec := { name := "geoPlaces", fn := fun _ => fun
  | [d1, d2, d3] => { results := [.lit (.bool true)], args := [d1, d2, d3] }
  | _ => none }
def geoPlacesRow : OpenClaim := { program := "ytallgbdcolfleaa", sum := "e43d283e7549a99ec4a05c8f1576f852c5603c26d7b70f6d6b9cd12ec6757403", func := "rill/rilllaw10.GeoPlaces", spec := "geoPlaces", apart := false }
def GeoPlacesSaid : Prop := geoPlacesRow.holds Try.pinned (OpenSpec.ofChange geoPlacesSpec)

/-- ITS FALSE NEIGHBOUR: 'it returns false'. Refute it at one input. -/
def geoPlacesWrong : ChangeSpec := { name := "geoPlaces", fn := fun _ => fun
  | [d1, d2, d3] => { results := [.lit (.bool false)], args := [d1, d2, d3] }
  | _ => none }
def GeoPlacesWrongFalsely : Prop := geoPlacesRow.holds Try.pinned (OpenSpec.ofChange geoPlacesWrong)

/-- 'rilllaw10.GeoLean': WHATEVER THE INPUT: true; the input reads as it did. -/
def geoLeanSpec : ChangeSpec := { name := "geoLean", fn := fun _ => fun
  | [d1, d2, d3, d4] => { results := [.lit (.bool true)], args := [d1, d2, d3, d4] }
  | _ => none }
def geoLeanRow : OpenClaim := { program := "ytallgbdcolfleaa", sum := "e43d283e7549a99ec4a05c8f1576f852c5603c26d7b70f6d6b9cd12ec6757403", func := "rill/rilllaw10.GeoLean", spec := "geoLean", apart := false }
def GeoLeanSaid : Prop := geoLeanRow.holds Try.pinned (OpenSpec.ofChange geoLeanSpec)

/-- ITS FALSE NEIGHBOUR: 'it returns false'. Refute it at one input. -/
def geoLeanWrong : ChangeSpec := { name := "geoLean", fn := fun _ => fun
  | [d1, d2, d3, d4] => { results := [.lit (.bool false)], args := [d1, d2, d3, d4] }
  | _ => none }
def GeoLeanWrongFalsely : Prop := geoLeanRow.holds Try.pinned (OpenSpec.ofChange geoLeanWrong)

/-- 'rilllaw10.GeoNeeds': WHATEVER THE INPUT: true; the input reads as it did. -/
def geoNeedsSpec : ChangeSpec := { name := "geoNeeds", fn := fun _ => fun
  | [d1, d2] => { results := [.lit (.bool true)], args := [d1, d2] }
  | _ => none }
def geoNeedsRow : OpenClaim := { program := "ytallgbdcolfleaa", sum := "e43d283e7549a99ec4a05c8f1576f852c5603c26d7b70f6d6b9cd12ec6757403", func := "rill/rilllaw10.GeoNeeds", spec := "geoNeeds", apart := false }
def GeoNeedsSaid : Prop := geoNeedsRow.holds Try.pinned (OpenSpec.ofChange geoNeedsSpec)

/-- ITS FALSE NEIGHBOUR: 'it returns false'. Refute it at one input. -/
def geoNeedsWrong : ChangeSpec := { name := "geoNeeds", fn := fun _ => fun
  | [d1, d2] => { results := [.lit (.bool false)], args := [d1, d2] }
  | _ => none }
def GeoNeedsWrongFalsely : Prop := geoNeedsRow.holds Try.pinned (OpenSpec.ofChange geoNeedsWrong)

/-- 'rilllaw10.GeoTells': WHATEVER THE INPUT: true; the input reads as it did. -/
def geoTellsSpec : ChangeSpec := { name := "geoTells", fn := fun _ => fun
  | [d1, d2, d3, d4] => { results := [.lit (.bool true)], args := [d1, d2, d3, d4] }
  | _ => none }
def geoTellsRow : OpenClaim := { program := "ytallgbdcolfleaa", sum := "e43d283e7549a99ec4a05c8f1576f852c5603c26d7b70f6d6b9cd12ec6757403", func := "rill/rilllaw10.GeoTells", spec := "geoTells", apart := false }
def GeoTellsSaid : Prop := geoTellsRow.holds Try.pinned (OpenSpec.ofChange geoTellsSpec)

/-- ITS FALSE NEIGHBOUR: 'it returns false'. Refute it at one input. -/
def geoTellsWrong : ChangeSpec := { name := "geoTells", fn := fun _ => fun
  | [d1, d2, d3, d4] => { results := [.lit (.bool false)], args := [d1, d2, d3, d4] }
  | _ => none }
def GeoTellsWrongFalsely : Prop := geoTellsRow.holds Try.pinned (OpenSpec.ofChange geoTellsWrong)

/-- 'rilllaw10.GeoKnown': WHATEVER THE INPUT: true; the input reads as it did. -/
def geoKnownSpec : ChangeSpec := { name := "geoKnown", fn := fun _ => fun
  | [] => { results := [.lit (.bool true)], args := [] }
  | _ => none }
def geoKnownRow : OpenClaim := { program := "ytallgbdcolfleaa", sum := "e43d283e7549a99ec4a05c8f1576f852c5603c26d7b70f6d6b9cd12ec6757403", func := "rill/rilllaw10.GeoKnown", spec := "geoKnown", apart := false }
def GeoKnownSaid : Prop := geoKnownRow.holds Try.pinned (OpenSpec.ofChange geoKnownSpec)

/-- ITS FALSE NEIGHBOUR: 'it returns false'. Refute it at one input. -/
def geoKnownWrong : ChangeSpec := { name := "geoKnown", fn := fun _ => fun
  | [] => { results := [.lit (.bool false)], args := [] }
  | _ => none }
def GeoKnownWrongFalsely : Prop := geoKnownRow.holds Try.pinned (OpenSpec.ofChange geoKnownWrong)

/- THE SECOND FORM. 'bulk': how many values and letters a reading holds, each counted each time it is reached (what is shared counts as often as it is met; a slice's spare places count too). A statement '..UptoSaid' is the law's where the arguments, and the package variables that the reading takes, are together of bulk at most 1048576: NARROWER than '..Said'. Prove '..Said' where nothing that the law and all that it calls make is longer than what came in: it says more and counts as full. Else prove '..UptoSaid'. A law counts once. -/
mutual
def uptoBulk {H : Type} : DataW H → Nat
  | .lit (.string bytes) => bytes.length + 1
  | .lit _ => 1
  | .nil => 1
  | .ptr d => uptoBulk d + 1
  | .slice elems spare => uptoBulkAll elems + uptoBulkAll spare + 1
  | .agg parts => uptoBulkAll parts + 1
  | .iface _ d => uptoBulk d + 1
  | .map entries => uptoBulkEntries entries + 1
  | .held _ => 1
def uptoBulkAll {H : Type} : List (DataW H) → Nat
  | [] => 0
  | d :: r => uptoBulk d + uptoBulkAll r
def uptoBulkEntries {H : Type} : List (Lit × DataW H) → Nat
  | [] => 0
  | x :: r => uptoBulkEntry x + uptoBulkEntries r
def uptoBulkEntry {H : Type} : Lit × DataW H → Nat
  | (.string bytes, d) => bytes.length + uptoBulk d + 1
  | (_, d) => uptoBulk d + 1
 end
def uptoSmall : (H : Type) → List (DataW H) → Bool := fun _ ds => decide (uptoBulkAll ds ≤ 1048576)
def OpenSpec.upto (s : _root_.Go.ChangeSpec) : _root_.Go.OpenSpec := { _root_.Go.OpenSpec.ofChange s with cond := some uptoSmall }

/-- 'rilllaw10.GeoGrows', WHERE WHAT IT READS IS OF BULK AT MOST 1048576: true; the input reads as it did. -/
def geoGrowsUptoRow : OpenClaim := { program := "ytallgbdcolfleaa", sum := "e43d283e7549a99ec4a05c8f1576f852c5603c26d7b70f6d6b9cd12ec6757403", func := "rill/rilllaw10.GeoGrows", spec := "geoGrows", apart := false, narrowed := true }
def GeoGrowsUptoSaid : Prop := geoGrowsUptoRow.holds Try.pinned (OpenSpec.upto geoGrowsSpec)

/-- 'rilllaw10.GeoPlaces', WHERE WHAT IT READS IS OF BULK AT MOST 1048576: true; the input reads as it did. -/
def geoPlacesUptoRow : OpenClaim := { program := "ytallgbdcolfleaa", sum := "e43d283e7549a99ec4a05c8f1576f852c5603c26d7b70f6d6b9cd12ec6757403", func := "rill/rilllaw10.GeoPlaces", spec := "geoPlaces", apart := false, narrowed := true }
def GeoPlacesUptoSaid : Prop := geoPlacesUptoRow.holds Try.pinned (OpenSpec.upto geoPlacesSpec)

/-- 'rilllaw10.GeoLean', WHERE WHAT IT READS IS OF BULK AT MOST 1048576: true; the input reads as it did. -/
def geoLeanUptoRow : OpenClaim := { program := "ytallgbdcolfleaa", sum := "e43d283e7549a99ec4a05c8f1576f852c5603c26d7b70f6d6b9cd12ec6757403", func := "rill/rilllaw10.GeoLean", spec := "geoLean", apart := false, narrowed := true }
def GeoLeanUptoSaid : Prop := geoLeanUptoRow.holds Try.pinned (OpenSpec.upto geoLeanSpec)

/-- 'rilllaw10.GeoNeeds', WHERE WHAT IT READS IS OF BULK AT MOST 1048576: true; the input reads as it did. -/
def geoNeedsUptoRow : OpenClaim := { program := "ytallgbdcolfleaa", sum := "e43d283e7549a99ec4a05c8f1576f852c5603c26d7b70f6d6b9cd12ec6757403", func := "rill/rilllaw10.GeoNeeds", spec := "geoNeeds", apart := false, narrowed := true }
def GeoNeedsUptoSaid : Prop := geoNeedsUptoRow.holds Try.pinned (OpenSpec.upto geoNeedsSpec)

/-- 'rilllaw10.GeoTells', WHERE WHAT IT READS IS OF BULK AT MOST 1048576: true; the input reads as it did. -/
def geoTellsUptoRow : OpenClaim := { program := "ytallgbdcolfleaa", sum := "e43d283e7549a99ec4a05c8f1576f852c5603c26d7b70f6d6b9cd12ec6757403", func := "rill/rilllaw10.GeoTells", spec := "geoTells", apart := false, narrowed := true }
def GeoTellsUptoSaid : Prop := geoTellsUptoRow.holds Try.pinned (OpenSpec.upto geoTellsSpec)

/-- 'rilllaw10.GeoKnown', WHERE WHAT IT READS IS OF BULK AT MOST 1048576: true; the input reads as it did. -/
def geoKnownUptoRow : OpenClaim := { program := "ytallgbdcolfleaa", sum := "e43d283e7549a99ec4a05c8f1576f852c5603c26d7b70f6d6b9cd12ec6757403", func := "rill/rilllaw10.GeoKnown", spec := "geoKnown", apart := false, narrowed := true }
def GeoKnownUptoSaid : Prop := geoKnownUptoRow.holds Try.pinned (OpenSpec.upto geoKnownSpec)

end Rows
end Go.Proofs.Ytallgbdcolfleaa
