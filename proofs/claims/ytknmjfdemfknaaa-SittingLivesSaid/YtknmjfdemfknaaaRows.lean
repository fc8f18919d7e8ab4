/-
  No cell of these rows narrows 'for every input' (looked for: loops, veiled, ifaces, maps, wideKeys, modest, calm, conditions, laid).
  DERIVED. THE GIVEN ROWS OF THIS SEAT. 5 by the template 'for every input the law returns true; each argument reads behind the call as it read before'; 0 by the template 'total and deterministic' (their statements: YtknmjfdemfknaaaTotals.lean).
  GIVEN WITH THE SEED: the statements are not yours to turn. If you find one false, say at which input.
  Laid BY PROGRAM, IN A SANDBOX (cutbox-rows.mjs): the forced cells as the released guide's own fill.sh prints them over the translation 8d258281604e2176… (all of the seat's roots in one cut). By AI agents, Wed Nov 11 2026. No macro, syntax, notation, axiom, sorry.
-/
import Derived.Test.YtknmjfdemfknaaaChecked
import GoSem.Claim
import GoSem.ClaimJoined
import GoSem.ClaimMapViews
import Derived.JoinedTies
import Derived.KernelRfl
namespace Go.Proofs.Ytknmjfdemfknaaa
/- THE CELL 'sum', in the pinned program and in every row, IS THE sha256 OF THE DUMP (.gsa) THAT YtknmjfdemfknaaaProg.lean LOADS. Nothing in Lean hashes anything: it is a label: what it is worth is what the hold of that sum in a sandbox is worth. -/
noncomputable def Try.pinned : Pinned := { name := "ytknmjfdemfknaaa", sum := "8d258281604e21760e58aa9d89e56d581747cd105ab42ec2309ecbd283b9452f", checked := Try.checked }
namespace Rows
def none {H : Type} : Left H := { results := [], args := [] }

/-- 'beadlelaw17.SittingFair': WHATEVER THE INPUT: true; the input reads as it did. -/
def sittingFairSpec : ChangeSpec := { name := "sittingFair", fn := fun _ => fun
  | [d] => { results := [.lit (.bool true)], args := [d] }
  | _ => none }
def sittingFairRow : OpenClaim := { program := "ytknmjfdemfknaaa", sum := "8d258281604e21760e58aa9d89e56d581747cd105ab42ec2309ecbd283b9452f", func := "beadle/beadlelaw17.SittingFair", spec := "sittingFair", recurses := true, apart := false }
def SittingFairSaid : Prop := sittingFairRow.holds Try.pinned (OpenSpec.ofChange sittingFairSpec)

/-- ITS FALSE NEIGHBOUR: 'it returns false'. Refute it at one input. -/
def sittingFairWrong : ChangeSpec := { name := "sittingFair", fn := fun _ => fun
  | [d] => { results := [.lit (.bool false)], args := [d] }
  | _ => none }
def SittingFairWrongFalsely : Prop := sittingFairRow.holds Try.pinned (OpenSpec.ofChange sittingFairWrong)

/-- 'beadlelaw17.SittingNumbers': WHATEVER THE INPUT: true; the input reads as it did. -/
def sittingNumbersSpec : ChangeSpec := { name := "sittingNumbers", fn := fun _ => fun
  | [] => { results := [.lit (.bool true)], args := [] }
  | _ => none }
def sittingNumbersRow : OpenClaim := { program := "ytknmjfdemfknaaa", sum := "8d258281604e21760e58aa9d89e56d581747cd105ab42ec2309ecbd283b9452f", func := "beadle/beadlelaw17.SittingNumbers", spec := "sittingNumbers", recurses := true, apart := false }
def SittingNumbersSaid : Prop := sittingNumbersRow.holds Try.pinned (OpenSpec.ofChange sittingNumbersSpec)

/-- ITS FALSE NEIGHBOUR: 'it returns false'. Refute it at one input. -/
def sittingNumbersWrong : ChangeSpec := { name := "sittingNumbers", fn := fun _ => fun
  | [] => { results := [.lit (.bool false)], args := [] }
  | _ => none }
def SittingNumbersWrongFalsely : Prop := sittingNumbersRow.holds Try.pinned (OpenSpec.ofChange sittingNumbersWrong)

/-- 'beadlelaw17.SittingOnce': WHATEVER THE INPUT: true; the input reads as it did. -/
def sittingOnceSpec : ChangeSpec := { name := "sittingOnce", fn := fun _ => fun
  | [d1, d2, d3] => { results := [.lit (.bool true)], args := [d1, d2, d3] }
  | _ => none }
def sittingOnceRow : OpenClaim := { program := "ytknmjfdemfknaaa", sum := "8d258281604e21760e58aa9d89e56d581747cd105ab42ec2309ecbd283b9452f", func := "beadle/beadlelaw17.SittingOnce", spec := "sittingOnce", recurses := true, apart := false }
def SittingOnceSaid : Prop := sittingOnceRow.holds Try.pinned (OpenSpec.ofChange sittingOnceSpec)

/-- ITS FALSE NEIGHBOUR: 'it returns false'. Refute it at one input. -/
def sittingOnceWrong : ChangeSpec := { name := "sittingOnce", fn := fun _ => fun
  | [d1, d2, d3] => { results := [.lit (.bool false)], args := [d1, d2, d3] }
  | _ => none }
def SittingOnceWrongFalsely : Prop := sittingOnceRow.holds Try.pinned (OpenSpec.ofChange sittingOnceWrong)

/-- 'beadlelaw17.SittingLives': WHATEVER THE INPUT: true; the input reads as it did. -/
def sittingLivesSpec : ChangeSpec := { name := "sittingLives", fn := fun _ => fun
  | [d1, d2] => { results := [.lit (.bool true)], args := [d1, d2] }
  | _ => none }
def sittingLivesRow : OpenClaim := { program := "ytknmjfdemfknaaa", sum := "8d258281604e21760e58aa9d89e56d581747cd105ab42ec2309ecbd283b9452f", func := "beadle/beadlelaw17.SittingLives", spec := "sittingLives", recurses := true, apart := false }
def SittingLivesSaid : Prop := sittingLivesRow.holds Try.pinned (OpenSpec.ofChange sittingLivesSpec)

/-- ITS FALSE NEIGHBOUR: 'it returns false'. Refute it at one input. -/
def sittingLivesWrong : ChangeSpec := { name := "sittingLives", fn := fun _ => fun
  | [d1, d2] => { results := [.lit (.bool false)], args := [d1, d2] }
  | _ => none }
def SittingLivesWrongFalsely : Prop := sittingLivesRow.holds Try.pinned (OpenSpec.ofChange sittingLivesWrong)

/-- 'beadlelaw17.SittingNil': WHATEVER THE INPUT: true; the input reads as it did. -/
def sittingNilSpec : ChangeSpec := { name := "sittingNil", fn := fun _ => fun
  | [d] => { results := [.lit (.bool true)], args := [d] }
  | _ => none }
def sittingNilRow : OpenClaim := { program := "ytknmjfdemfknaaa", sum := "8d258281604e21760e58aa9d89e56d581747cd105ab42ec2309ecbd283b9452f", func := "beadle/beadlelaw17.SittingNil", spec := "sittingNil", recurses := true, apart := false }
def SittingNilSaid : Prop := sittingNilRow.holds Try.pinned (OpenSpec.ofChange sittingNilSpec)

/-- ITS FALSE NEIGHBOUR: 'it returns false'. Refute it at one input. -/
def sittingNilWrong : ChangeSpec := { name := "sittingNil", fn := fun _ => fun
  | [d] => { results := [.lit (.bool false)], args := [d] }
  | _ => none }
def SittingNilWrongFalsely : Prop := sittingNilRow.holds Try.pinned (OpenSpec.ofChange sittingNilWrong)

/- THE SECOND FORM. 'bulk': how many values and letters a reading holds, each counted each time it is reached (what is shared counts as often as it is met; a slice's spare places count too). A statement '..UptoSaid' is the law's where the arguments, and the package variables that the reading takes, are together of bulk at most 1048576: NARROWER than '..Said'. Prove '..Said' where nothing that the law and all that it calls make is longer than what came in: it says more and counts as full. Else prove '..UptoSaid'. A law counts once. -/
mutual
def uptoBulk {H : Type} : DataW H → Nat
  | .lit (.string bytes) => bytes.length + 1
  | .lit _ => 1
  | .nil => 1
  | .ptr d => uptoBulk d + 1
  | .slice elems spare => uptoBulkAll elems + uptoBulkAll spare + 1
  | .agg parts => uptoBulkAll parts + 1
  | .iface _ d => uptoBulk d + 1
  | .map entries => uptoBulkEntries entries + 1
  | .held _ => 1
def uptoBulkAll {H : Type} : List (DataW H) → Nat
  | [] => 0
  | d :: r => uptoBulk d + uptoBulkAll r
def uptoBulkEntries {H : Type} : List (Lit × DataW H) → Nat
  | [] => 0
  | x :: r => uptoBulkEntry x + uptoBulkEntries r
def uptoBulkEntry {H : Type} : Lit × DataW H → Nat
  | (.string bytes, d) => bytes.length + uptoBulk d + 1
  | (_, d) => uptoBulk d + 1
 end
def uptoSmall : (H : Type) → List (DataW H) → Bool := fun _ ds => decide (uptoBulkAll ds ≤ 1048576)
def OpenSpec.upto (s : _root_.Go.ChangeSpec) : _root_.Go.OpenSpec := { _root_.Go.OpenSpec.ofChange s with cond := some uptoSmall }

/-- 'beadlelaw17.SittingFair', WHERE WHAT IT READS IS OF BULK AT MOST 1048576: true; the input reads as it did. -/
def sittingFairUptoRow : OpenClaim := { program := "ytknmjfdemfknaaa", sum := "8d258281604e21760e58aa9d89e56d581747cd105ab42ec2309ecbd283b9452f", func := "beadle/beadlelaw17.SittingFair", spec := "sittingFair", recurses := true, apart := false, narrowed := true }
def SittingFairUptoSaid : Prop := sittingFairUptoRow.holds Try.pinned (OpenSpec.upto sittingFairSpec)

/-- 'beadlelaw17.SittingNumbers', WHERE WHAT IT READS IS OF BULK AT MOST 1048576: true; the input reads as it did. -/
def sittingNumbersUptoRow : OpenClaim := { program := "ytknmjfdemfknaaa", sum := "8d258281604e21760e58aa9d89e56d581747cd105ab42ec2309ecbd283b9452f", func := "beadle/beadlelaw17.SittingNumbers", spec := "sittingNumbers", recurses := true, apart := false, narrowed := true }
def SittingNumbersUptoSaid : Prop := sittingNumbersUptoRow.holds Try.pinned (OpenSpec.upto sittingNumbersSpec)

/-- 'beadlelaw17.SittingOnce', WHERE WHAT IT READS IS OF BULK AT MOST 1048576: true; the input reads as it did. -/
def sittingOnceUptoRow : OpenClaim := { program := "ytknmjfdemfknaaa", sum := "8d258281604e21760e58aa9d89e56d581747cd105ab42ec2309ecbd283b9452f", func := "beadle/beadlelaw17.SittingOnce", spec := "sittingOnce", recurses := true, apart := false, narrowed := true }
def SittingOnceUptoSaid : Prop := sittingOnceUptoRow.holds Try.pinned (OpenSpec.upto sittingOnceSpec)

/-- 'beadlelaw17.SittingLives', WHERE WHAT IT READS IS OF BULK AT MOST 1048576: true; the input reads as it did. -/
def sittingLivesUptoRow : OpenClaim := { program := "ytknmjfdemfknaaa", sum := "8d258281604e21760e58aa9d89e56d581747cd105ab42ec2309ecbd283b9452f", func := "beadle/beadlelaw17.SittingLives", spec := "sittingLives", recurses := true, apart := false, narrowed := true }
def SittingLivesUptoSaid : Prop := sittingLivesUptoRow.holds Try.pinned (OpenSpec.upto sittingLivesSpec)

/-- 'beadlelaw17.SittingNil', WHERE WHAT IT READS IS OF BULK AT MOST 1048576: true; the input reads as it did. -/
def sittingNilUptoRow : OpenClaim := { program := "ytknmjfdemfknaaa", sum := "8d258281604e21760e58aa9d89e56d581747cd105ab42ec2309ecbd283b9452f", func := "beadle/beadlelaw17.SittingNil", spec := "sittingNil", recurses := true, apart := false, narrowed := true }
def SittingNilUptoSaid : Prop := sittingNilUptoRow.holds Try.pinned (OpenSpec.upto sittingNilSpec)

end Rows
end Go.Proofs.Ytknmjfdemfknaaa
