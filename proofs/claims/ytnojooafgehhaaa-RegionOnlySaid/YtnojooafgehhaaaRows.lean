/-
  No cell of these rows narrows 'for every input' (looked for: loops, veiled, ifaces, maps, wideKeys, modest, calm, conditions, laid).
  DERIVED. THE GIVEN ROWS OF THIS SEAT. 8 by the template 'for every input the law returns true; each argument reads behind the call as it read before'; 0 by the template 'total and deterministic' (their statements: YtnojooafgehhaaaTotals.lean).
  GIVEN WITH THE SEED: the statements are not yours to turn. If you find one false, say at which input.
  Laid BY PROGRAM, IN A SANDBOX (cutbox-rows.mjs): the forced cells as the released guide's own fill.sh prints them over the translation 76da6ca527f6f65f… (all of the seat's roots in one cut). By AI agents, Wed Nov 11 2026. No macro, syntax, notation, axiom, sorry.
-/
import Derived.Test.YtnojooafgehhaaaChecked
import GoSem.Claim
import GoSem.ClaimJoined
import GoSem.ClaimMapViews
import Derived.JoinedTies
import Derived.KernelRfl
namespace Go.Proofs.Ytnojooafgehhaaa
/- THE CELL 'sum', in the pinned program and in every row, IS THE sha256 OF THE DUMP (.gsa) THAT YtnojooafgehhaaaProg.lean LOADS. Nothing in Lean hashes anything: it is a label: what it is worth is what the hold of that sum in a sandbox is worth. -/
noncomputable def Try.pinned : Pinned := { name := "ytnojooafgehhaaa", sum := "76da6ca527f6f65f11bfc08fac0e10cfa55938f2ba76d6bd92854b457d436010", checked := Try.checked }
namespace Rows
def none {H : Type} : Left H := { results := [], args := [] }

/-- 'rilllaw14.RegionPuts': WHATEVER THE INPUT: true; the input reads as it did. -/
def regionPutsSpec : ChangeSpec := { name := "regionPuts", fn := fun _ => fun
  | [d] => { results := [.lit (.bool true)], args := [d] }
  | _ => none }
def regionPutsRow : OpenClaim := { program := "ytnojooafgehhaaa", sum := "76da6ca527f6f65f11bfc08fac0e10cfa55938f2ba76d6bd92854b457d436010", func := "rill/rilllaw14.RegionPuts", spec := "regionPuts", unfollowed := true, recurses := true, plainKeys := false, apart := false }
def RegionPutsSaid : Prop := regionPutsRow.holds Try.pinned (OpenSpec.ofChange regionPutsSpec)

/-- ITS FALSE NEIGHBOUR: 'it returns false'. Refute it at one input. -/
def regionPutsWrong : ChangeSpec := { name := "regionPuts", fn := fun _ => fun
  | [d] => { results := [.lit (.bool false)], args := [d] }
  | _ => none }
def RegionPutsWrongFalsely : Prop := regionPutsRow.holds Try.pinned (OpenSpec.ofChange regionPutsWrong)

/-- 'rilllaw14.RegionGets': WHATEVER THE INPUT: true; the input reads as it did. -/
def regionGetsSpec : ChangeSpec := { name := "regionGets", fn := fun _ => fun
  | [d] => { results := [.lit (.bool true)], args := [d] }
  | _ => none }
def regionGetsRow : OpenClaim := { program := "ytnojooafgehhaaa", sum := "76da6ca527f6f65f11bfc08fac0e10cfa55938f2ba76d6bd92854b457d436010", func := "rill/rilllaw14.RegionGets", spec := "regionGets", unfollowed := true, recurses := true, plainKeys := false, apart := false }
def RegionGetsSaid : Prop := regionGetsRow.holds Try.pinned (OpenSpec.ofChange regionGetsSpec)

/-- ITS FALSE NEIGHBOUR: 'it returns false'. Refute it at one input. -/
def regionGetsWrong : ChangeSpec := { name := "regionGets", fn := fun _ => fun
  | [d] => { results := [.lit (.bool false)], args := [d] }
  | _ => none }
def RegionGetsWrongFalsely : Prop := regionGetsRow.holds Try.pinned (OpenSpec.ofChange regionGetsWrong)

/-- 'rilllaw14.RegionChooses': WHATEVER THE INPUT: true; the input reads as it did. -/
def regionChoosesSpec : ChangeSpec := { name := "regionChooses", fn := fun _ => fun
  | [d1, d2] => { results := [.lit (.bool true)], args := [d1, d2] }
  | _ => none }
def regionChoosesRow : OpenClaim := { program := "ytnojooafgehhaaa", sum := "76da6ca527f6f65f11bfc08fac0e10cfa55938f2ba76d6bd92854b457d436010", func := "rill/rilllaw14.RegionChooses", spec := "regionChooses", unfollowed := true, recurses := true, plainKeys := false, apart := false }
def RegionChoosesSaid : Prop := regionChoosesRow.holds Try.pinned (OpenSpec.ofChange regionChoosesSpec)

/-- ITS FALSE NEIGHBOUR: 'it returns false'. Refute it at one input. -/
def regionChoosesWrong : ChangeSpec := { name := "regionChooses", fn := fun _ => fun
  | [d1, d2] => { results := [.lit (.bool false)], args := [d1, d2] }
  | _ => none }
def RegionChoosesWrongFalsely : Prop := regionChoosesRow.holds Try.pinned (OpenSpec.ofChange regionChoosesWrong)

/-- 'rilllaw14.RegionBack': WHATEVER THE INPUT: true; the input reads as it did. -/
def regionBackSpec : ChangeSpec := { name := "regionBack", fn := fun _ => fun
  | [d1, d2, d3, d4] => { results := [.lit (.bool true)], args := [d1, d2, d3, d4] }
  | _ => none }
def regionBackRow : OpenClaim := { program := "ytnojooafgehhaaa", sum := "76da6ca527f6f65f11bfc08fac0e10cfa55938f2ba76d6bd92854b457d436010", func := "rill/rilllaw14.RegionBack", spec := "regionBack", unfollowed := true, recurses := true, plainKeys := false, apart := false }
def RegionBackSaid : Prop := regionBackRow.holds Try.pinned (OpenSpec.ofChange regionBackSpec)

/-- ITS FALSE NEIGHBOUR: 'it returns false'. Refute it at one input. -/
def regionBackWrong : ChangeSpec := { name := "regionBack", fn := fun _ => fun
  | [d1, d2, d3, d4] => { results := [.lit (.bool false)], args := [d1, d2, d3, d4] }
  | _ => none }
def RegionBackWrongFalsely : Prop := regionBackRow.holds Try.pinned (OpenSpec.ofChange regionBackWrong)

/-- 'rilllaw14.RegionForms': WHATEVER THE INPUT: true; the input reads as it did. -/
def regionFormsSpec : ChangeSpec := { name := "regionForms", fn := fun _ => fun
  | [d] => { results := [.lit (.bool true)], args := [d] }
  | _ => none }
def regionFormsRow : OpenClaim := { program := "ytnojooafgehhaaa", sum := "76da6ca527f6f65f11bfc08fac0e10cfa55938f2ba76d6bd92854b457d436010", func := "rill/rilllaw14.RegionForms", spec := "regionForms", unfollowed := true, recurses := true, plainKeys := false, apart := false }
def RegionFormsSaid : Prop := regionFormsRow.holds Try.pinned (OpenSpec.ofChange regionFormsSpec)

/-- ITS FALSE NEIGHBOUR: 'it returns false'. Refute it at one input. -/
def regionFormsWrong : ChangeSpec := { name := "regionForms", fn := fun _ => fun
  | [d] => { results := [.lit (.bool false)], args := [d] }
  | _ => none }
def RegionFormsWrongFalsely : Prop := regionFormsRow.holds Try.pinned (OpenSpec.ofChange regionFormsWrong)

/-- 'rilllaw14.RegionBest': WHATEVER THE INPUT: true; the input reads as it did. -/
def regionBestSpec : ChangeSpec := { name := "regionBest", fn := fun _ => fun
  | [d1, d2] => { results := [.lit (.bool true)], args := [d1, d2] }
  | _ => none }
def regionBestRow : OpenClaim := { program := "ytnojooafgehhaaa", sum := "76da6ca527f6f65f11bfc08fac0e10cfa55938f2ba76d6bd92854b457d436010", func := "rill/rilllaw14.RegionBest", spec := "regionBest", unfollowed := true, recurses := true, plainKeys := false, apart := false }
def RegionBestSaid : Prop := regionBestRow.holds Try.pinned (OpenSpec.ofChange regionBestSpec)

/-- ITS FALSE NEIGHBOUR: 'it returns false'. Refute it at one input. -/
def regionBestWrong : ChangeSpec := { name := "regionBest", fn := fun _ => fun
  | [d1, d2] => { results := [.lit (.bool false)], args := [d1, d2] }
  | _ => none }
def RegionBestWrongFalsely : Prop := regionBestRow.holds Try.pinned (OpenSpec.ofChange regionBestWrong)

/-- 'rilllaw14.RegionTwo': WHATEVER THE INPUT: true; the input reads as it did. -/
def regionTwoSpec : ChangeSpec := { name := "regionTwo", fn := fun _ => fun
  | [d1, d2, d3] => { results := [.lit (.bool true)], args := [d1, d2, d3] }
  | _ => none }
def regionTwoRow : OpenClaim := { program := "ytnojooafgehhaaa", sum := "76da6ca527f6f65f11bfc08fac0e10cfa55938f2ba76d6bd92854b457d436010", func := "rill/rilllaw14.RegionTwo", spec := "regionTwo", unfollowed := true, recurses := true, plainKeys := false, apart := false }
def RegionTwoSaid : Prop := regionTwoRow.holds Try.pinned (OpenSpec.ofChange regionTwoSpec)

/-- ITS FALSE NEIGHBOUR: 'it returns false'. Refute it at one input. -/
def regionTwoWrong : ChangeSpec := { name := "regionTwo", fn := fun _ => fun
  | [d1, d2, d3] => { results := [.lit (.bool false)], args := [d1, d2, d3] }
  | _ => none }
def RegionTwoWrongFalsely : Prop := regionTwoRow.holds Try.pinned (OpenSpec.ofChange regionTwoWrong)

/-- 'rilllaw14.RegionOnly': WHATEVER THE INPUT: true; the input reads as it did. -/
def regionOnlySpec : ChangeSpec := { name := "regionOnly", fn := fun _ => fun
  | [d] => { results := [.lit (.bool true)], args := [d] }
  | _ => none }
def regionOnlyRow : OpenClaim := { program := "ytnojooafgehhaaa", sum := "76da6ca527f6f65f11bfc08fac0e10cfa55938f2ba76d6bd92854b457d436010", func := "rill/rilllaw14.RegionOnly", spec := "regionOnly", unfollowed := true, recurses := true, plainKeys := false, apart := false }
def RegionOnlySaid : Prop := regionOnlyRow.holds Try.pinned (OpenSpec.ofChange regionOnlySpec)

/-- ITS FALSE NEIGHBOUR: 'it returns false'. Refute it at one input. -/
def regionOnlyWrong : ChangeSpec := { name := "regionOnly", fn := fun _ => fun
  | [d] => { results := [.lit (.bool false)], args := [d] }
  | _ => none }
def RegionOnlyWrongFalsely : Prop := regionOnlyRow.holds Try.pinned (OpenSpec.ofChange regionOnlyWrong)

/- THE SECOND FORM. 'bulk': how many values and letters a reading holds, each counted each time it is reached (what is shared counts as often as it is met; a slice's spare places count too). A statement '..UptoSaid' is the law's where the arguments, and the package variables that the reading takes, are together of bulk at most 1048576: NARROWER than '..Said'. Prove '..Said' where nothing that the law and all that it calls make is longer than what came in: it says more and counts as full. Else prove '..UptoSaid'. A law counts once. -/
mutual
def uptoBulk {H : Type} : DataW H → Nat
  | .lit (.string bytes) => bytes.length + 1
  | .lit _ => 1
  | .nil => 1
  | .ptr d => uptoBulk d + 1
  | .slice elems spare => uptoBulkAll elems + uptoBulkAll spare + 1
  | .agg parts => uptoBulkAll parts + 1
  | .iface _ d => uptoBulk d + 1
  | .map entries => uptoBulkEntries entries + 1
  | .held _ => 1
def uptoBulkAll {H : Type} : List (DataW H) → Nat
  | [] => 0
  | d :: r => uptoBulk d + uptoBulkAll r
def uptoBulkEntries {H : Type} : List (Lit × DataW H) → Nat
  | [] => 0
  | x :: r => uptoBulkEntry x + uptoBulkEntries r
def uptoBulkEntry {H : Type} : Lit × DataW H → Nat
  | (.string bytes, d) => bytes.length + uptoBulk d + 1
  | (_, d) => uptoBulk d + 1
 end
def uptoSmall : (H : Type) → List (DataW H) → Bool := fun _ ds => decide (uptoBulkAll ds ≤ 1048576)
def OpenSpec.upto (s : _root_.Go.ChangeSpec) : _root_.Go.OpenSpec := { _root_.Go.OpenSpec.ofChange s with cond := some uptoSmall }

/-- 'rilllaw14.RegionPuts', WHERE WHAT IT READS IS OF BULK AT MOST 1048576: true; the input reads as it did. -/
def regionPutsUptoRow : OpenClaim := { program := "ytnojooafgehhaaa", sum := "76da6ca527f6f65f11bfc08fac0e10cfa55938f2ba76d6bd92854b457d436010", func := "rill/rilllaw14.RegionPuts", spec := "regionPuts", unfollowed := true, recurses := true, plainKeys := false, apart := false, narrowed := true }
def RegionPutsUptoSaid : Prop := regionPutsUptoRow.holds Try.pinned (OpenSpec.upto regionPutsSpec)

/-- 'rilllaw14.RegionGets', WHERE WHAT IT READS IS OF BULK AT MOST 1048576: true; the input reads as it did. -/
def regionGetsUptoRow : OpenClaim := { program := "ytnojooafgehhaaa", sum := "76da6ca527f6f65f11bfc08fac0e10cfa55938f2ba76d6bd92854b457d436010", func := "rill/rilllaw14.RegionGets", spec := "regionGets", unfollowed := true, recurses := true, plainKeys := false, apart := false, narrowed := true }
def RegionGetsUptoSaid : Prop := regionGetsUptoRow.holds Try.pinned (OpenSpec.upto regionGetsSpec)

/-- 'rilllaw14.RegionChooses', WHERE WHAT IT READS IS OF BULK AT MOST 1048576: true; the input reads as it did. -/
def regionChoosesUptoRow : OpenClaim := { program := "ytnojooafgehhaaa", sum := "76da6ca527f6f65f11bfc08fac0e10cfa55938f2ba76d6bd92854b457d436010", func := "rill/rilllaw14.RegionChooses", spec := "regionChooses", unfollowed := true, recurses := true, plainKeys := false, apart := false, narrowed := true }
def RegionChoosesUptoSaid : Prop := regionChoosesUptoRow.holds Try.pinned (OpenSpec.upto regionChoosesSpec)

/-- 'rilllaw14.RegionBack', WHERE WHAT IT READS IS OF BULK AT MOST 1048576: true; the input reads as it did. -/
def regionBackUptoRow : OpenClaim := { program := "ytnojooafgehhaaa", sum := "76da6ca527f6f65f11bfc08fac0e10cfa55938f2ba76d6bd92854b457d436010", func := "rill/rilllaw14.RegionBack", spec := "regionBack", unfollowed := true, recurses := true, plainKeys := false, apart := false, narrowed := true }
def RegionBackUptoSaid : Prop := regionBackUptoRow.holds Try.pinned (OpenSpec.upto regionBackSpec)

/-- 'rilllaw14.RegionForms', WHERE WHAT IT READS IS OF BULK AT MOST 1048576: true; the input reads as it did. -/
def regionFormsUptoRow : OpenClaim := { program := "ytnojooafgehhaaa", sum := "76da6ca527f6f65f11bfc08fac0e10cfa55938f2ba76d6bd92854b457d436010", func := "rill/rilllaw14.RegionForms", spec := "regionForms", unfollowed := true, recurses := true, plainKeys := false, apart := false, narrowed := true }
def RegionFormsUptoSaid : Prop := regionFormsUptoRow.holds Try.pinned (OpenSpec.upto regionFormsSpec)

/-- 'rilllaw14.RegionBest', WHERE WHAT IT READS IS OF BULK AT MOST 1048576: true; the input reads as it did. -/
def regionBestUptoRow : OpenClaim := { program := "ytnojooafgehhaaa", sum := "76da6ca527f6f65f11bfc08fac0e10cfa55938f2ba76d6bd92854b457d436010", func := "rill/rilllaw14.RegionBest", spec := "regionBest", unfollowed := true, recurses := true, plainKeys := false, apart := false, narrowed := true }
def RegionBestUptoSaid : Prop := regionBestUptoRow.holds Try.pinned (OpenSpec.upto regionBestSpec)

/-- 'rilllaw14.RegionTwo', WHERE WHAT IT READS IS OF BULK AT MOST 1048576: true; the input reads as it did. -/
def regionTwoUptoRow : OpenClaim := { program := "ytnojooafgehhaaa", sum := "76da6ca527f6f65f11bfc08fac0e10cfa55938f2ba76d6bd92854b457d436010", func := "rill/rilllaw14.RegionTwo", spec := "regionTwo", unfollowed := true, recurses := true, plainKeys := false, apart := false, narrowed := true }
def RegionTwoUptoSaid : Prop := regionTwoUptoRow.holds Try.pinned (OpenSpec.upto regionTwoSpec)

/-- 'rilllaw14.RegionOnly', WHERE WHAT IT READS IS OF BULK AT MOST 1048576: true; the input reads as it did. -/
def regionOnlyUptoRow : OpenClaim := { program := "ytnojooafgehhaaa", sum := "76da6ca527f6f65f11bfc08fac0e10cfa55938f2ba76d6bd92854b457d436010", func := "rill/rilllaw14.RegionOnly", spec := "regionOnly", unfollowed := true, recurses := true, plainKeys := false, apart := false, narrowed := true }
def RegionOnlyUptoSaid : Prop := regionOnlyUptoRow.holds Try.pinned (OpenSpec.upto regionOnlySpec)

end Rows
end Go.Proofs.Ytnojooafgehhaaa
