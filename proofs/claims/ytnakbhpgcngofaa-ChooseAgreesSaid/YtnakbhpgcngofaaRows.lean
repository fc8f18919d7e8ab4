/-
  NARROWER THAN 'FOR EVERY INPUT', by the rows' own cells (each row's printed sentence says how): ChooseDoes: loops · ChooseNone: loops · ChooseWaits: loops.
  DERIVED. THE GIVEN ROWS OF THIS SEAT. 4 by the template 'for every input the law returns true; each argument reads behind the call as it read before'; 0 by the template 'total and deterministic' (their statements: YtnakbhpgcngofaaTotals.lean).
  GIVEN WITH THE SEED: the statements are not yours to turn. If you find one false, say at which input.
  Laid BY PROGRAM, IN A SANDBOX (cutbox-rows.mjs): the forced cells as the released guide's own fill.sh prints them over the translation 6e784097e421b7f4… (all of the seat's roots in one cut). By AI agents, Wed Nov 11 2026. No macro, syntax, notation, axiom, sorry.
-/
import Derived.Test.YtnakbhpgcngofaaChecked
import GoSem.Claim
import GoSem.ClaimJoined
import GoSem.ClaimMapViews
import Derived.JoinedTies
import Derived.KernelRfl
namespace Go.Proofs.Ytnakbhpgcngofaa
/- THE CELL 'sum', in the pinned program and in every row, IS THE sha256 OF THE DUMP (.gsa) THAT YtnakbhpgcngofaaProg.lean LOADS. Nothing in Lean hashes anything: it is a label: what it is worth is what the hold of that sum in a sandbox is worth. -/
noncomputable def Try.pinned : Pinned := { name := "ytnakbhpgcngofaa", sum := "6e784097e421b7f4ec9467662b3398aa26e7a9d801b92668ed60751c7d786c2a", checked := Try.checked }
namespace Rows
def none {H : Type} : Left H := { results := [], args := [] }

/-- 'beadlelaw20.ChooseDoes': WHATEVER THE INPUT: true; the input reads as it did. -/
def chooseDoesSpec : ChangeSpec := { name := "chooseDoes", fn := fun _ => fun
  | [d1, d2, d3, d4, d5] => { results := [.lit (.bool true)], args := [d1, d2, d3, d4, d5] }
  | _ => none }
def chooseDoesRow : OpenClaim := { program := "ytnakbhpgcngofaa", sum := "6e784097e421b7f4ec9467662b3398aa26e7a9d801b92668ed60751c7d786c2a", func := "beadle/beadlelaw20.ChooseDoes", spec := "chooseDoes", unfollowed := true, recurses := true, loops := true, apart := false }
def ChooseDoesSaid : Prop := chooseDoesRow.holds Try.pinned (OpenSpec.ofChange chooseDoesSpec)

/-- ITS FALSE NEIGHBOUR: 'it returns false'. Refute it at one input. -/
def chooseDoesWrong : ChangeSpec := { name := "chooseDoes", fn := fun _ => fun
  | [d1, d2, d3, d4, d5] => { results := [.lit (.bool false)], args := [d1, d2, d3, d4, d5] }
  | _ => none }
def ChooseDoesWrongFalsely : Prop := chooseDoesRow.holds Try.pinned (OpenSpec.ofChange chooseDoesWrong)

/-- 'beadlelaw20.ChooseNone': WHATEVER THE INPUT: true; the input reads as it did. -/
def chooseNoneSpec : ChangeSpec := { name := "chooseNone", fn := fun _ => fun
  | [d1, d2] => { results := [.lit (.bool true)], args := [d1, d2] }
  | _ => none }
def chooseNoneRow : OpenClaim := { program := "ytnakbhpgcngofaa", sum := "6e784097e421b7f4ec9467662b3398aa26e7a9d801b92668ed60751c7d786c2a", func := "beadle/beadlelaw20.ChooseNone", spec := "chooseNone", unfollowed := true, recurses := true, loops := true, apart := false }
def ChooseNoneSaid : Prop := chooseNoneRow.holds Try.pinned (OpenSpec.ofChange chooseNoneSpec)

/-- ITS FALSE NEIGHBOUR: 'it returns false'. Refute it at one input. -/
def chooseNoneWrong : ChangeSpec := { name := "chooseNone", fn := fun _ => fun
  | [d1, d2] => { results := [.lit (.bool false)], args := [d1, d2] }
  | _ => none }
def ChooseNoneWrongFalsely : Prop := chooseNoneRow.holds Try.pinned (OpenSpec.ofChange chooseNoneWrong)

/-- 'beadlelaw20.ChooseAgrees': WHATEVER THE INPUT: true; the input reads as it did. -/
def chooseAgreesSpec : ChangeSpec := { name := "chooseAgrees", fn := fun _ => fun
  | [d1, d2, d3] => { results := [.lit (.bool true)], args := [d1, d2, d3] }
  | _ => none }
def chooseAgreesRow : OpenClaim := { program := "ytnakbhpgcngofaa", sum := "6e784097e421b7f4ec9467662b3398aa26e7a9d801b92668ed60751c7d786c2a", func := "beadle/beadlelaw20.ChooseAgrees", spec := "chooseAgrees", unfollowed := true, recurses := true, apart := false }
def ChooseAgreesSaid : Prop := chooseAgreesRow.holds Try.pinned (OpenSpec.ofChange chooseAgreesSpec)

/-- ITS FALSE NEIGHBOUR: 'it returns false'. Refute it at one input. -/
def chooseAgreesWrong : ChangeSpec := { name := "chooseAgrees", fn := fun _ => fun
  | [d1, d2, d3] => { results := [.lit (.bool false)], args := [d1, d2, d3] }
  | _ => none }
def ChooseAgreesWrongFalsely : Prop := chooseAgreesRow.holds Try.pinned (OpenSpec.ofChange chooseAgreesWrong)

/-- 'beadlelaw20.ChooseWaits': WHATEVER THE INPUT: true; the input reads as it did. -/
def chooseWaitsSpec : ChangeSpec := { name := "chooseWaits", fn := fun _ => fun
  | [d1, d2, d3] => { results := [.lit (.bool true)], args := [d1, d2, d3] }
  | _ => none }
def chooseWaitsRow : OpenClaim := { program := "ytnakbhpgcngofaa", sum := "6e784097e421b7f4ec9467662b3398aa26e7a9d801b92668ed60751c7d786c2a", func := "beadle/beadlelaw20.ChooseWaits", spec := "chooseWaits", unfollowed := true, recurses := true, loops := true, apart := false }
def ChooseWaitsSaid : Prop := chooseWaitsRow.holds Try.pinned (OpenSpec.ofChange chooseWaitsSpec)

/-- ITS FALSE NEIGHBOUR: 'it returns false'. Refute it at one input. -/
def chooseWaitsWrong : ChangeSpec := { name := "chooseWaits", fn := fun _ => fun
  | [d1, d2, d3] => { results := [.lit (.bool false)], args := [d1, d2, d3] }
  | _ => none }
def ChooseWaitsWrongFalsely : Prop := chooseWaitsRow.holds Try.pinned (OpenSpec.ofChange chooseWaitsWrong)

/- THE SECOND FORM. 'bulk': how many values and letters a reading holds, each counted each time it is reached (what is shared counts as often as it is met; a slice's spare places count too). A statement '..UptoSaid' is the law's where the arguments, and the package variables that the reading takes, are together of bulk at most 1048576: NARROWER than '..Said'. Prove '..Said' where nothing that the law and all that it calls make is longer than what came in: it says more and counts as full. Else prove '..UptoSaid'. A law counts once. -/
mutual
def uptoBulk {H : Type} : DataW H → Nat
  | .lit (.string bytes) => bytes.length + 1
  | .lit _ => 1
  | .nil => 1
  | .ptr d => uptoBulk d + 1
  | .slice elems spare => uptoBulkAll elems + uptoBulkAll spare + 1
  | .agg parts => uptoBulkAll parts + 1
  | .iface _ d => uptoBulk d + 1
  | .map entries => uptoBulkEntries entries + 1
  | .held _ => 1
def uptoBulkAll {H : Type} : List (DataW H) → Nat
  | [] => 0
  | d :: r => uptoBulk d + uptoBulkAll r
def uptoBulkEntries {H : Type} : List (Lit × DataW H) → Nat
  | [] => 0
  | x :: r => uptoBulkEntry x + uptoBulkEntries r
def uptoBulkEntry {H : Type} : Lit × DataW H → Nat
  | (.string bytes, d) => bytes.length + uptoBulk d + 1
  | (_, d) => uptoBulk d + 1
 end
def uptoSmall : (H : Type) → List (DataW H) → Bool := fun _ ds => decide (uptoBulkAll ds ≤ 1048576)
def OpenSpec.upto (s : _root_.Go.ChangeSpec) : _root_.Go.OpenSpec := { _root_.Go.OpenSpec.ofChange s with cond := some uptoSmall }

/-- 'beadlelaw20.ChooseDoes', WHERE WHAT IT READS IS OF BULK AT MOST 1048576: true; the input reads as it did. -/
def chooseDoesUptoRow : OpenClaim := { program := "ytnakbhpgcngofaa", sum := "6e784097e421b7f4ec9467662b3398aa26e7a9d801b92668ed60751c7d786c2a", func := "beadle/beadlelaw20.ChooseDoes", spec := "chooseDoes", unfollowed := true, recurses := true, loops := true, apart := false, narrowed := true }
def ChooseDoesUptoSaid : Prop := chooseDoesUptoRow.holds Try.pinned (OpenSpec.upto chooseDoesSpec)

/-- 'beadlelaw20.ChooseNone', WHERE WHAT IT READS IS OF BULK AT MOST 1048576: true; the input reads as it did. -/
def chooseNoneUptoRow : OpenClaim := { program := "ytnakbhpgcngofaa", sum := "6e784097e421b7f4ec9467662b3398aa26e7a9d801b92668ed60751c7d786c2a", func := "beadle/beadlelaw20.ChooseNone", spec := "chooseNone", unfollowed := true, recurses := true, loops := true, apart := false, narrowed := true }
def ChooseNoneUptoSaid : Prop := chooseNoneUptoRow.holds Try.pinned (OpenSpec.upto chooseNoneSpec)

/-- 'beadlelaw20.ChooseAgrees', WHERE WHAT IT READS IS OF BULK AT MOST 1048576: true; the input reads as it did. -/
def chooseAgreesUptoRow : OpenClaim := { program := "ytnakbhpgcngofaa", sum := "6e784097e421b7f4ec9467662b3398aa26e7a9d801b92668ed60751c7d786c2a", func := "beadle/beadlelaw20.ChooseAgrees", spec := "chooseAgrees", unfollowed := true, recurses := true, apart := false, narrowed := true }
def ChooseAgreesUptoSaid : Prop := chooseAgreesUptoRow.holds Try.pinned (OpenSpec.upto chooseAgreesSpec)

/-- 'beadlelaw20.ChooseWaits', WHERE WHAT IT READS IS OF BULK AT MOST 1048576: true; the input reads as it did. -/
def chooseWaitsUptoRow : OpenClaim := { program := "ytnakbhpgcngofaa", sum := "6e784097e421b7f4ec9467662b3398aa26e7a9d801b92668ed60751c7d786c2a", func := "beadle/beadlelaw20.ChooseWaits", spec := "chooseWaits", unfollowed := true, recurses := true, loops := true, apart := false, narrowed := true }
def ChooseWaitsUptoSaid : Prop := chooseWaitsUptoRow.holds Try.pinned (OpenSpec.upto chooseWaitsSpec)

end Rows
end Go.Proofs.Ytnakbhpgcngofaa
