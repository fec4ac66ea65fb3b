/-
  No cell of these rows narrows 'for every input' (looked for: loops, veiled, ifaces, maps, wideKeys, modest, calm, conditions, laid).
  DERIVED. THE GIVEN ROWS OF THIS SEAT. 3 by the template 'for every input the law returns true; each argument reads behind the call as it read before'; 0 by the template 'total and deterministic' (their statements: YtnebjbgcibjohaaGreatTotals.lean).
  GIVEN WITH THE SEED: the statements are not yours to turn. If you find one false, say at which input.
  Laid BY PROGRAM, IN A SANDBOX (cutbox-rows.mjs): the forced cells as the released guide's own fill.sh prints them over the translation 497adf357c1a7485… (all of the seat's roots in one cut). By AI agents, Wed Nov 11 2026. No macro, syntax, notation, axiom, sorry.
-/
import Derived.Test.YtnebjbgcibjohaaGreatChecked
import GoSem.Claim
import GoSem.ClaimJoined
import GoSem.ClaimMapViews
import Derived.JoinedTies
import Derived.KernelRfl
namespace Go.Proofs.YtnebjbgcibjohaaGreat
/- THE CELL 'sum', in the pinned program and in every row, IS THE sha256 OF THE DUMP (.gsa) THAT YtnebjbgcibjohaaGreatProg.lean LOADS. Nothing in Lean hashes anything: it is a label: what it is worth is what the hold of that sum in a sandbox is worth. -/
noncomputable def Tryz.pinned : Pinned := { name := "ytnebjbgcibjohaagreat", sum := "497adf357c1a7485a3f07d2400ca6940dc2f3031753d0f87be16528454c1c3b3", checked := Tryz.checked }
namespace Rows
def none {H : Type} : Left H := { results := [], args := [] }

/-- 'rilllaw26.FormatFails': WHATEVER THE INPUT: true; the input reads as it did. -/
def formatFailsSpec : ChangeSpec := { name := "formatFails", fn := fun _ => fun
  | [d1, d2] => { results := [.lit (.bool true)], args := [d1, d2] }
  | _ => none }
def formatFailsRow : OpenClaim := { program := "ytnebjbgcibjohaagreat", sum := "497adf357c1a7485a3f07d2400ca6940dc2f3031753d0f87be16528454c1c3b3", func := "rill/rilllaw26.FormatFails", spec := "formatFails", unfollowed := true, recurses := true, plainKeys := false, apart := false }
def FormatFailsSaid : Prop := formatFailsRow.holds Tryz.pinned (OpenSpec.ofChange formatFailsSpec)

/-- ITS FALSE NEIGHBOUR: 'it returns false'. Refute it at one input. -/
def formatFailsWrong : ChangeSpec := { name := "formatFails", fn := fun _ => fun
  | [d1, d2] => { results := [.lit (.bool false)], args := [d1, d2] }
  | _ => none }
def FormatFailsWrongFalsely : Prop := formatFailsRow.holds Tryz.pinned (OpenSpec.ofChange formatFailsWrong)

/-- 'rilllaw26.FormatLeaves': WHATEVER THE INPUT: true; the input reads as it did. -/
def formatLeavesSpec : ChangeSpec := { name := "formatLeaves", fn := fun _ => fun
  | [d1, d2, d3] => { results := [.lit (.bool true)], args := [d1, d2, d3] }
  | _ => none }
def formatLeavesRow : OpenClaim := { program := "ytnebjbgcibjohaagreat", sum := "497adf357c1a7485a3f07d2400ca6940dc2f3031753d0f87be16528454c1c3b3", func := "rill/rilllaw26.FormatLeaves", spec := "formatLeaves", unfollowed := true, recurses := true, plainKeys := false, apart := false }
def FormatLeavesSaid : Prop := formatLeavesRow.holds Tryz.pinned (OpenSpec.ofChange formatLeavesSpec)

/-- ITS FALSE NEIGHBOUR: 'it returns false'. Refute it at one input. -/
def formatLeavesWrong : ChangeSpec := { name := "formatLeaves", fn := fun _ => fun
  | [d1, d2, d3] => { results := [.lit (.bool false)], args := [d1, d2, d3] }
  | _ => none }
def FormatLeavesWrongFalsely : Prop := formatLeavesRow.holds Tryz.pinned (OpenSpec.ofChange formatLeavesWrong)

/-- 'rilllaw26.FormatFound': WHATEVER THE INPUT: true; the input reads as it did. -/
def formatFoundSpec : ChangeSpec := { name := "formatFound", fn := fun _ => fun
  | [d1, d2] => { results := [.lit (.bool true)], args := [d1, d2] }
  | _ => none }
def formatFoundRow : OpenClaim := { program := "ytnebjbgcibjohaagreat", sum := "497adf357c1a7485a3f07d2400ca6940dc2f3031753d0f87be16528454c1c3b3", func := "rill/rilllaw26.FormatFound", spec := "formatFound", unfollowed := true, recurses := true, plainKeys := false, apart := false }
def FormatFoundSaid : Prop := formatFoundRow.holds Tryz.pinned (OpenSpec.ofChange formatFoundSpec)

/-- ITS FALSE NEIGHBOUR: 'it returns false'. Refute it at one input. -/
def formatFoundWrong : ChangeSpec := { name := "formatFound", fn := fun _ => fun
  | [d1, d2] => { results := [.lit (.bool false)], args := [d1, d2] }
  | _ => none }
def FormatFoundWrongFalsely : Prop := formatFoundRow.holds Tryz.pinned (OpenSpec.ofChange formatFoundWrong)

/- THE SECOND FORM. 'bulk': how many values and letters a reading holds, each counted each time it is reached (what is shared counts as often as it is met; a slice's spare places count too). A statement '..UptoSaid' is the law's where the arguments, and the package variables that the reading takes, are together of bulk at most 1048576: NARROWER than '..Said'. Prove '..Said' where nothing that the law and all that it calls make is longer than what came in: it says more and counts as full. Else prove '..UptoSaid'. A law counts once. -/
mutual
def uptoBulk {H : Type} : DataW H → Nat
  | .lit (.string bytes) => bytes.length + 1
  | .lit _ => 1
  | .nil => 1
  | .ptr d => uptoBulk d + 1
  | .slice elems spare => uptoBulkAll elems + uptoBulkAll spare + 1
  | .agg parts => uptoBulkAll parts + 1
  | .iface _ d => uptoBulk d + 1
  | .map entries => uptoBulkEntries entries + 1
  | .held _ => 1
def uptoBulkAll {H : Type} : List (DataW H) → Nat
  | [] => 0
  | d :: r => uptoBulk d + uptoBulkAll r
def uptoBulkEntries {H : Type} : List (Lit × DataW H) → Nat
  | [] => 0
  | x :: r => uptoBulkEntry x + uptoBulkEntries r
def uptoBulkEntry {H : Type} : Lit × DataW H → Nat
  | (.string bytes, d) => bytes.length + uptoBulk d + 1
  | (_, d) => uptoBulk d + 1
 end
def uptoSmall : (H : Type) → List (DataW H) → Bool := fun _ ds => decide (uptoBulkAll ds ≤ 1048576)
def OpenSpec.upto (s : _root_.Go.ChangeSpec) : _root_.Go.OpenSpec := { _root_.Go.OpenSpec.ofChange s with cond := some uptoSmall }

/-- 'rilllaw26.FormatFails', WHERE WHAT IT READS IS OF BULK AT MOST 1048576: true; the input reads as it did. -/
def formatFailsUptoRow : OpenClaim := { program := "ytnebjbgcibjohaagreat", sum := "497adf357c1a7485a3f07d2400ca6940dc2f3031753d0f87be16528454c1c3b3", func := "rill/rilllaw26.FormatFails", spec := "formatFails", unfollowed := true, recurses := true, plainKeys := false, apart := false, narrowed := true }
def FormatFailsUptoSaid : Prop := formatFailsUptoRow.holds Tryz.pinned (OpenSpec.upto formatFailsSpec)

/-- 'rilllaw26.FormatLeaves', WHERE WHAT IT READS IS OF BULK AT MOST 1048576: true; the input reads as it did. -/
def formatLeavesUptoRow : OpenClaim := { program := "ytnebjbgcibjohaagreat", sum := "497adf357c1a7485a3f07d2400ca6940dc2f3031753d0f87be16528454c1c3b3", func := "rill/rilllaw26.FormatLeaves", spec := "formatLeaves", unfollowed := true, recurses := true, plainKeys := false, apart := false, narrowed := true }
def FormatLeavesUptoSaid : Prop := formatLeavesUptoRow.holds Tryz.pinned (OpenSpec.upto formatLeavesSpec)

/-- 'rilllaw26.FormatFound', WHERE WHAT IT READS IS OF BULK AT MOST 1048576: true; the input reads as it did. -/
def formatFoundUptoRow : OpenClaim := { program := "ytnebjbgcibjohaagreat", sum := "497adf357c1a7485a3f07d2400ca6940dc2f3031753d0f87be16528454c1c3b3", func := "rill/rilllaw26.FormatFound", spec := "formatFound", unfollowed := true, recurses := true, plainKeys := false, apart := false, narrowed := true }
def FormatFoundUptoSaid : Prop := formatFoundUptoRow.holds Tryz.pinned (OpenSpec.upto formatFoundSpec)

end Rows
end Go.Proofs.YtnebjbgcibjohaaGreat
