/-
  No cell of these rows narrows 'for every input' (looked for: loops, veiled, ifaces, maps, wideKeys, modest, calm, conditions, laid).
  DERIVED. THE GIVEN ROWS OF THIS SEAT. 4 by the template 'for every input the law returns true; each argument reads behind the call as it read before'; 0 by the template 'total and deterministic' (their statements: YtdjehlabhfjmlaaTotals.lean).
  GIVEN WITH THE SEED: the statements are not yours to turn. If you find one false, say at which input.
  Laid BY PROGRAM, IN A SANDBOX (cutbox-rows.mjs): the forced cells as the released guide's own fill.sh prints them over the translation 7a681f06a37108ed… (all of the seat's roots in one cut). By AI agents, Wed Nov 11 2026. No macro, syntax, notation, axiom, sorry.
-/
import Derived.Test.YtdjehlabhfjmlaaChecked
import GoSem.Claim
import GoSem.ClaimJoined
import GoSem.ClaimMapViews
import Derived.JoinedTies
import Derived.KernelRfl
namespace Go.Proofs.Ytdjehlabhfjmlaa
/- THE CELL 'sum', in the pinned program and in every row, IS THE sha256 OF THE DUMP (.gsa) THAT YtdjehlabhfjmlaaProg.lean LOADS. Nothing in Lean hashes anything: it is a label: what it is worth is what the hold of that sum in a sandbox is worth. -/
noncomputable def Try.pinned : Pinned := { name := "ytdjehlabhfjmlaa", sum := "7a681f06a37108ed13e7b8b9c576058aaa95122405d50bfd9a319de8594d0bb8", checked := Try.checked }
namespace Rows
def none {H : Type} : Left H := { results := [], args := [] }

/-- 'beadlelaw21.DifferWays': WHATEVER THE INPUT: true; the input reads as it did. -/
def differWaysSpec : ChangeSpec := { name := "differWays", fn := fun _ => fun
  | [d1, d2, d3] => { results := [.lit (.bool true)], args := [d1, d2, d3] }
  | _ => none }
def differWaysRow : OpenClaim := { program := "ytdjehlabhfjmlaa", sum := "7a681f06a37108ed13e7b8b9c576058aaa95122405d50bfd9a319de8594d0bb8", func := "beadle/beadlelaw21.DifferWays", spec := "differWays", apart := false }
def DifferWaysSaid : Prop := differWaysRow.holds Try.pinned (OpenSpec.ofChange differWaysSpec)

/-- ITS FALSE NEIGHBOUR: 'it returns false'. Refute it at one input. -/
def differWaysWrong : ChangeSpec := { name := "differWays", fn := fun _ => fun
  | [d1, d2, d3] => { results := [.lit (.bool false)], args := [d1, d2, d3] }
  | _ => none }
def DifferWaysWrongFalsely : Prop := differWaysRow.holds Try.pinned (OpenSpec.ofChange differWaysWrong)

/-- 'beadlelaw21.DifferNumbers': WHATEVER THE INPUT: true; the input reads as it did. -/
def differNumbersSpec : ChangeSpec := { name := "differNumbers", fn := fun _ => fun
  | [] => { results := [.lit (.bool true)], args := [] }
  | _ => none }
def differNumbersRow : OpenClaim := { program := "ytdjehlabhfjmlaa", sum := "7a681f06a37108ed13e7b8b9c576058aaa95122405d50bfd9a319de8594d0bb8", func := "beadle/beadlelaw21.DifferNumbers", spec := "differNumbers", apart := false }
def DifferNumbersSaid : Prop := differNumbersRow.holds Try.pinned (OpenSpec.ofChange differNumbersSpec)

/-- ITS FALSE NEIGHBOUR: 'it returns false'. Refute it at one input. -/
def differNumbersWrong : ChangeSpec := { name := "differNumbers", fn := fun _ => fun
  | [] => { results := [.lit (.bool false)], args := [] }
  | _ => none }
def DifferNumbersWrongFalsely : Prop := differNumbersRow.holds Try.pinned (OpenSpec.ofChange differNumbersWrong)

/-- 'beadlelaw21.DifferMeets': WHATEVER THE INPUT: true; the input reads as it did. -/
def differMeetsSpec : ChangeSpec := { name := "differMeets", fn := fun _ => fun
  | [d1, d2, d3, d4] => { results := [.lit (.bool true)], args := [d1, d2, d3, d4] }
  | _ => none }
def differMeetsRow : OpenClaim := { program := "ytdjehlabhfjmlaa", sum := "7a681f06a37108ed13e7b8b9c576058aaa95122405d50bfd9a319de8594d0bb8", func := "beadle/beadlelaw21.DifferMeets", spec := "differMeets", apart := false }
def DifferMeetsSaid : Prop := differMeetsRow.holds Try.pinned (OpenSpec.ofChange differMeetsSpec)

/-- ITS FALSE NEIGHBOUR: 'it returns false'. Refute it at one input. -/
def differMeetsWrong : ChangeSpec := { name := "differMeets", fn := fun _ => fun
  | [d1, d2, d3, d4] => { results := [.lit (.bool false)], args := [d1, d2, d3, d4] }
  | _ => none }
def DifferMeetsWrongFalsely : Prop := differMeetsRow.holds Try.pinned (OpenSpec.ofChange differMeetsWrong)

/-- 'beadlelaw21.DifferFalls': WHATEVER THE INPUT: true; the input reads as it did. -/
def differFallsSpec : ChangeSpec := { name := "differFalls", fn := fun _ => fun
  | [d1, d2, d3] => { results := [.lit (.bool true)], args := [d1, d2, d3] }
  | _ => none }
def differFallsRow : OpenClaim := { program := "ytdjehlabhfjmlaa", sum := "7a681f06a37108ed13e7b8b9c576058aaa95122405d50bfd9a319de8594d0bb8", func := "beadle/beadlelaw21.DifferFalls", spec := "differFalls", apart := false }
def DifferFallsSaid : Prop := differFallsRow.holds Try.pinned (OpenSpec.ofChange differFallsSpec)

/-- ITS FALSE NEIGHBOUR: 'it returns false'. Refute it at one input. -/
def differFallsWrong : ChangeSpec := { name := "differFalls", fn := fun _ => fun
  | [d1, d2, d3] => { results := [.lit (.bool false)], args := [d1, d2, d3] }
  | _ => none }
def DifferFallsWrongFalsely : Prop := differFallsRow.holds Try.pinned (OpenSpec.ofChange differFallsWrong)

/- THE SECOND FORM. 'bulk': how many values and letters a reading holds, each counted each time it is reached (what is shared counts as often as it is met; a slice's spare places count too). A statement '..UptoSaid' is the law's where the arguments, and the package variables that the reading takes, are together of bulk at most 1048576: NARROWER than '..Said'. Prove '..Said' where nothing that the law and all that it calls make is longer than what came in: it says more and counts as full. Else prove '..UptoSaid'. A law counts once. -/
mutual
def uptoBulk {H : Type} : DataW H → Nat
  | .lit (.string bytes) => bytes.length + 1
  | .lit _ => 1
  | .nil => 1
  | .ptr d => uptoBulk d + 1
  | .slice elems spare => uptoBulkAll elems + uptoBulkAll spare + 1
  | .agg parts => uptoBulkAll parts + 1
  | .iface _ d => uptoBulk d + 1
  | .map entries => uptoBulkEntries entries + 1
  | .held _ => 1
def uptoBulkAll {H : Type} : List (DataW H) → Nat
  | [] => 0
  | d :: r => uptoBulk d + uptoBulkAll r
def uptoBulkEntries {H : Type} : List (Lit × DataW H) → Nat
  | [] => 0
  | x :: r => uptoBulkEntry x + uptoBulkEntries r
def uptoBulkEntry {H : Type} : Lit × DataW H → Nat
  | (.string bytes, d) => bytes.length + uptoBulk d + 1
  | (_, d) => uptoBulk d + 1
 end
def uptoSmall : (H : Type) → List (DataW H) → Bool := fun _ ds => decide (uptoBulkAll ds ≤ 1048576)
def OpenSpec.upto (s : _root_.Go.ChangeSpec) : _root_.Go.OpenSpec := { _root_.Go.OpenSpec.ofChange s with cond := some uptoSmall }

/-- 'beadlelaw21.DifferWays', WHERE WHAT IT READS IS OF BULK AT MOST 1048576: true; the input reads as it did. -/
def differWaysUptoRow : OpenClaim := { program := "ytdjehlabhfjmlaa", sum := "7a681f06a37108ed13e7b8b9c576058aaa95122405d50bfd9a319de8594d0bb8", func := "beadle/beadlelaw21.DifferWays", spec := "differWays", apart := false, narrowed := true }
def DifferWaysUptoSaid : Prop := differWaysUptoRow.holds Try.pinned (OpenSpec.upto differWaysSpec)

/-- 'beadlelaw21.DifferNumbers', WHERE WHAT IT READS IS OF BULK AT MOST 1048576: true; the input reads as it did. -/
def differNumbersUptoRow : OpenClaim := { program := "ytdjehlabhfjmlaa", sum := "7a681f06a37108ed13e7b8b9c576058aaa95122405d50bfd9a319de8594d0bb8", func := "beadle/beadlelaw21.DifferNumbers", spec := "differNumbers", apart := false, narrowed := true }
def DifferNumbersUptoSaid : Prop := differNumbersUptoRow.holds Try.pinned (OpenSpec.upto differNumbersSpec)

/-- 'beadlelaw21.DifferMeets', WHERE WHAT IT READS IS OF BULK AT MOST 1048576: true; the input reads as it did. -/
def differMeetsUptoRow : OpenClaim := { program := "ytdjehlabhfjmlaa", sum := "7a681f06a37108ed13e7b8b9c576058aaa95122405d50bfd9a319de8594d0bb8", func := "beadle/beadlelaw21.DifferMeets", spec := "differMeets", apart := false, narrowed := true }
def DifferMeetsUptoSaid : Prop := differMeetsUptoRow.holds Try.pinned (OpenSpec.upto differMeetsSpec)

/-- 'beadlelaw21.DifferFalls', WHERE WHAT IT READS IS OF BULK AT MOST 1048576: true; the input reads as it did. -/
def differFallsUptoRow : OpenClaim := { program := "ytdjehlabhfjmlaa", sum := "7a681f06a37108ed13e7b8b9c576058aaa95122405d50bfd9a319de8594d0bb8", func := "beadle/beadlelaw21.DifferFalls", spec := "differFalls", apart := false, narrowed := true }
def DifferFallsUptoSaid : Prop := differFallsUptoRow.holds Try.pinned (OpenSpec.upto differFallsSpec)

end Rows
end Go.Proofs.Ytdjehlabhfjmlaa
