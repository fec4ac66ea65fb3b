/-
  No cell of these rows narrows 'for every input' (looked for: loops, veiled, ifaces, maps, wideKeys, modest, calm, conditions, laid).
  DERIVED. THE GIVEN ROWS OF THIS SEAT. 3 by the template 'for every input the law returns true; each argument reads behind the call as it read before'; 0 by the template 'total and deterministic' (their statements: YtnebjbgcibjohaaTotals.lean).
  GIVEN WITH THE SEED: the statements are not yours to turn. If you find one false, say at which input.
  Laid BY PROGRAM, IN A SANDBOX (cutbox-rows.mjs): the forced cells as the released guide's own fill.sh prints them over the translation 3f81225d3160bc4e… (all of the seat's roots in one cut). By AI agents, Wed Nov 11 2026. No macro, syntax, notation, axiom, sorry.
-/
import Derived.Test.YtnebjbgcibjohaaChecked
import GoSem.Claim
import GoSem.ClaimJoined
import GoSem.ClaimMapViews
import Derived.JoinedTies
import Derived.KernelRfl
namespace Go.Proofs.Ytnebjbgcibjohaa
/- THE CELL 'sum', in the pinned program and in every row, IS THE sha256 OF THE DUMP (.gsa) THAT YtnebjbgcibjohaaProg.lean LOADS. Nothing in Lean hashes anything: it is a label: what it is worth is what the hold of that sum in a sandbox is worth. -/
noncomputable def Try.pinned : Pinned := { name := "ytnebjbgcibjohaa", sum := "3f81225d3160bc4ebab9cf8a78829417075f5db56df6d196a0984975e9ac6538", checked := Try.checked }
namespace Rows
def none {H : Type} : Left H := { results := [], args := [] }

/-- 'rilllaw21.ReaderWalks': WHATEVER THE INPUT: true; the input reads as it did. -/
def readerWalksSpec : ChangeSpec := { name := "readerWalks", fn := fun _ => fun
  | [d] => { results := [.lit (.bool true)], args := [d] }
  | _ => none }
def readerWalksRow : OpenClaim := { program := "ytnebjbgcibjohaa", sum := "3f81225d3160bc4ebab9cf8a78829417075f5db56df6d196a0984975e9ac6538", func := "rill/rilllaw21.ReaderWalks", spec := "readerWalks", unfollowed := true, recurses := true, plainKeys := false, apart := false }
def ReaderWalksSaid : Prop := readerWalksRow.holds Try.pinned (OpenSpec.ofChange readerWalksSpec)

/-- ITS FALSE NEIGHBOUR: 'it returns false'. Refute it at one input. -/
def readerWalksWrong : ChangeSpec := { name := "readerWalks", fn := fun _ => fun
  | [d] => { results := [.lit (.bool false)], args := [d] }
  | _ => none }
def ReaderWalksWrongFalsely : Prop := readerWalksRow.holds Try.pinned (OpenSpec.ofChange readerWalksWrong)

/-- 'rilllaw21.ReaderFound': WHATEVER THE INPUT: true; the input reads as it did. -/
def readerFoundSpec : ChangeSpec := { name := "readerFound", fn := fun _ => fun
  | [d1, d2, d3] => { results := [.lit (.bool true)], args := [d1, d2, d3] }
  | _ => none }
def readerFoundRow : OpenClaim := { program := "ytnebjbgcibjohaa", sum := "3f81225d3160bc4ebab9cf8a78829417075f5db56df6d196a0984975e9ac6538", func := "rill/rilllaw21.ReaderFound", spec := "readerFound", unfollowed := true, recurses := true, plainKeys := false, apart := false }
def ReaderFoundSaid : Prop := readerFoundRow.holds Try.pinned (OpenSpec.ofChange readerFoundSpec)

/-- ITS FALSE NEIGHBOUR: 'it returns false'. Refute it at one input. -/
def readerFoundWrong : ChangeSpec := { name := "readerFound", fn := fun _ => fun
  | [d1, d2, d3] => { results := [.lit (.bool false)], args := [d1, d2, d3] }
  | _ => none }
def ReaderFoundWrongFalsely : Prop := readerFoundRow.holds Try.pinned (OpenSpec.ofChange readerFoundWrong)

/-- 'rilllaw21.ReaderAgain': WHATEVER THE INPUT: true; the input reads as it did. -/
def readerAgainSpec : ChangeSpec := { name := "readerAgain", fn := fun _ => fun
  | [d1, d2] => { results := [.lit (.bool true)], args := [d1, d2] }
  | _ => none }
def readerAgainRow : OpenClaim := { program := "ytnebjbgcibjohaa", sum := "3f81225d3160bc4ebab9cf8a78829417075f5db56df6d196a0984975e9ac6538", func := "rill/rilllaw21.ReaderAgain", spec := "readerAgain", unfollowed := true, recurses := true, plainKeys := false, apart := false }
def ReaderAgainSaid : Prop := readerAgainRow.holds Try.pinned (OpenSpec.ofChange readerAgainSpec)

/-- ITS FALSE NEIGHBOUR: 'it returns false'. Refute it at one input. -/
def readerAgainWrong : ChangeSpec := { name := "readerAgain", fn := fun _ => fun
  | [d1, d2] => { results := [.lit (.bool false)], args := [d1, d2] }
  | _ => none }
def ReaderAgainWrongFalsely : Prop := readerAgainRow.holds Try.pinned (OpenSpec.ofChange readerAgainWrong)

/- THE SECOND FORM. 'bulk': how many values and letters a reading holds, each counted each time it is reached (what is shared counts as often as it is met; a slice's spare places count too). A statement '..UptoSaid' is the law's where the arguments, and the package variables that the reading takes, are together of bulk at most 1048576: NARROWER than '..Said'. Prove '..Said' where nothing that the law and all that it calls make is longer than what came in: it says more and counts as full. Else prove '..UptoSaid'. A law counts once. -/
mutual
def uptoBulk {H : Type} : DataW H → Nat
  | .lit (.string bytes) => bytes.length + 1
  | .lit _ => 1
  | .nil => 1
  | .ptr d => uptoBulk d + 1
  | .slice elems spare => uptoBulkAll elems + uptoBulkAll spare + 1
  | .agg parts => uptoBulkAll parts + 1
  | .iface _ d => uptoBulk d + 1
  | .map entries => uptoBulkEntries entries + 1
  | .held _ => 1
def uptoBulkAll {H : Type} : List (DataW H) → Nat
  | [] => 0
  | d :: r => uptoBulk d + uptoBulkAll r
def uptoBulkEntries {H : Type} : List (Lit × DataW H) → Nat
  | [] => 0
  | x :: r => uptoBulkEntry x + uptoBulkEntries r
def uptoBulkEntry {H : Type} : Lit × DataW H → Nat
  | (.string bytes, d) => bytes.length + uptoBulk d + 1
  | (_, d) => uptoBulk d + 1
 end
def uptoSmall : (H : Type) → List (DataW H) → Bool := fun _ ds => decide (uptoBulkAll ds ≤ 1048576)
def OpenSpec.upto (s : _root_.Go.ChangeSpec) : _root_.Go.OpenSpec := { _root_.Go.OpenSpec.ofChange s with cond := some uptoSmall }

/-- 'rilllaw21.ReaderWalks', WHERE WHAT IT READS IS OF BULK AT MOST 1048576: true; the input reads as it did. -/
def readerWalksUptoRow : OpenClaim := { program := "ytnebjbgcibjohaa", sum := "3f81225d3160bc4ebab9cf8a78829417075f5db56df6d196a0984975e9ac6538", func := "rill/rilllaw21.ReaderWalks", spec := "readerWalks", unfollowed := true, recurses := true, plainKeys := false, apart := false, narrowed := true }
def ReaderWalksUptoSaid : Prop := readerWalksUptoRow.holds Try.pinned (OpenSpec.upto readerWalksSpec)

/-- 'rilllaw21.ReaderFound', WHERE WHAT IT READS IS OF BULK AT MOST 1048576: true; the input reads as it did. -/
def readerFoundUptoRow : OpenClaim := { program := "ytnebjbgcibjohaa", sum := "3f81225d3160bc4ebab9cf8a78829417075f5db56df6d196a0984975e9ac6538", func := "rill/rilllaw21.ReaderFound", spec := "readerFound", unfollowed := true, recurses := true, plainKeys := false, apart := false, narrowed := true }
def ReaderFoundUptoSaid : Prop := readerFoundUptoRow.holds Try.pinned (OpenSpec.upto readerFoundSpec)

/-- 'rilllaw21.ReaderAgain', WHERE WHAT IT READS IS OF BULK AT MOST 1048576: true; the input reads as it did. -/
def readerAgainUptoRow : OpenClaim := { program := "ytnebjbgcibjohaa", sum := "3f81225d3160bc4ebab9cf8a78829417075f5db56df6d196a0984975e9ac6538", func := "rill/rilllaw21.ReaderAgain", spec := "readerAgain", unfollowed := true, recurses := true, plainKeys := false, apart := false, narrowed := true }
def ReaderAgainUptoSaid : Prop := readerAgainUptoRow.holds Try.pinned (OpenSpec.upto readerAgainSpec)

end Rows
end Go.Proofs.Ytnebjbgcibjohaa
