/-
  NARROWER THAN 'FOR EVERY INPUT', by the rows' own cells (each row's printed sentence says how): ReformMakes: loops · ReformChain: loops.
  DERIVED. THE GIVEN ROWS OF THIS SEAT. 5 by the template 'for every input the law returns true; each argument reads behind the call as it read before'; 0 by the template 'total and deterministic' (their statements: YtinddgigjecofaaTotals.lean).
  GIVEN WITH THE SEED: the statements are not yours to turn. If you find one false, say at which input.
  Laid BY PROGRAM, IN A SANDBOX (cutbox-rows.mjs): the forced cells as the released guide's own fill.sh prints them over the translation 227de20e50e8acd0… (all of the seat's roots in one cut). By AI agents, Wed Nov 11 2026. No macro, syntax, notation, axiom, sorry.
-/
import Derived.Test.YtinddgigjecofaaChecked
import GoSem.Claim
import GoSem.ClaimJoined
import GoSem.ClaimMapViews
import Derived.JoinedTies
import Derived.KernelRfl
namespace Go.Proofs.Ytinddgigjecofaa
/- THE CELL 'sum', in the pinned program and in every row, IS THE sha256 OF THE DUMP (.gsa) THAT YtinddgigjecofaaProg.lean LOADS. Nothing in Lean hashes anything: it is a label: what it is worth is what the hold of that sum in a sandbox is worth. -/
noncomputable def Try.pinned : Pinned := { name := "ytinddgigjecofaa", sum := "227de20e50e8acd06c5f330ccf7c0bc707e7059ff3a42c96cf247b4a3e060a4c", checked := Try.checked }
namespace Rows
def none {H : Type} : Left H := { results := [], args := [] }

/-- 'beadlelaw22.ReformMakes': WHATEVER THE INPUT: true; the input reads as it did. -/
def reformMakesSpec : ChangeSpec := { name := "reformMakes", fn := fun _ => fun
  | [d1, d2, d3] => { results := [.lit (.bool true)], args := [d1, d2, d3] }
  | _ => none }
def reformMakesRow : OpenClaim := { program := "ytinddgigjecofaa", sum := "227de20e50e8acd06c5f330ccf7c0bc707e7059ff3a42c96cf247b4a3e060a4c", func := "beadle/beadlelaw22.ReformMakes", spec := "reformMakes", unfollowed := true, recurses := true, loops := true, apart := false }
def ReformMakesSaid : Prop := reformMakesRow.holds Try.pinned (OpenSpec.ofChange reformMakesSpec)

/-- ITS FALSE NEIGHBOUR: 'it returns false'. Refute it at one input. -/
def reformMakesWrong : ChangeSpec := { name := "reformMakes", fn := fun _ => fun
  | [d1, d2, d3] => { results := [.lit (.bool false)], args := [d1, d2, d3] }
  | _ => none }
def ReformMakesWrongFalsely : Prop := reformMakesRow.holds Try.pinned (OpenSpec.ofChange reformMakesWrong)

/-- 'beadlelaw22.ReformBinds': WHATEVER THE INPUT: true; the input reads as it did. -/
def reformBindsSpec : ChangeSpec := { name := "reformBinds", fn := fun _ => fun
  | [d1, d2] => { results := [.lit (.bool true)], args := [d1, d2] }
  | _ => none }
def reformBindsRow : OpenClaim := { program := "ytinddgigjecofaa", sum := "227de20e50e8acd06c5f330ccf7c0bc707e7059ff3a42c96cf247b4a3e060a4c", func := "beadle/beadlelaw22.ReformBinds", spec := "reformBinds", unfollowed := true, recurses := true, apart := false }
def ReformBindsSaid : Prop := reformBindsRow.holds Try.pinned (OpenSpec.ofChange reformBindsSpec)

/-- ITS FALSE NEIGHBOUR: 'it returns false'. Refute it at one input. -/
def reformBindsWrong : ChangeSpec := { name := "reformBinds", fn := fun _ => fun
  | [d1, d2] => { results := [.lit (.bool false)], args := [d1, d2] }
  | _ => none }
def ReformBindsWrongFalsely : Prop := reformBindsRow.holds Try.pinned (OpenSpec.ofChange reformBindsWrong)

/-- 'beadlelaw22.ReformNumbers': WHATEVER THE INPUT: true; the input reads as it did. -/
def reformNumbersSpec : ChangeSpec := { name := "reformNumbers", fn := fun _ => fun
  | [] => { results := [.lit (.bool true)], args := [] }
  | _ => none }
def reformNumbersRow : OpenClaim := { program := "ytinddgigjecofaa", sum := "227de20e50e8acd06c5f330ccf7c0bc707e7059ff3a42c96cf247b4a3e060a4c", func := "beadle/beadlelaw22.ReformNumbers", spec := "reformNumbers", unfollowed := true, recurses := true, apart := false }
def ReformNumbersSaid : Prop := reformNumbersRow.holds Try.pinned (OpenSpec.ofChange reformNumbersSpec)

/-- ITS FALSE NEIGHBOUR: 'it returns false'. Refute it at one input. -/
def reformNumbersWrong : ChangeSpec := { name := "reformNumbers", fn := fun _ => fun
  | [] => { results := [.lit (.bool false)], args := [] }
  | _ => none }
def ReformNumbersWrongFalsely : Prop := reformNumbersRow.holds Try.pinned (OpenSpec.ofChange reformNumbersWrong)

/-- 'beadlelaw22.ReformLast': WHATEVER THE INPUT: true; the input reads as it did. -/
def reformLastSpec : ChangeSpec := { name := "reformLast", fn := fun _ => fun
  | [d1, d2, d3] => { results := [.lit (.bool true)], args := [d1, d2, d3] }
  | _ => none }
def reformLastRow : OpenClaim := { program := "ytinddgigjecofaa", sum := "227de20e50e8acd06c5f330ccf7c0bc707e7059ff3a42c96cf247b4a3e060a4c", func := "beadle/beadlelaw22.ReformLast", spec := "reformLast", unfollowed := true, recurses := true, apart := false }
def ReformLastSaid : Prop := reformLastRow.holds Try.pinned (OpenSpec.ofChange reformLastSpec)

/-- ITS FALSE NEIGHBOUR: 'it returns false'. Refute it at one input. -/
def reformLastWrong : ChangeSpec := { name := "reformLast", fn := fun _ => fun
  | [d1, d2, d3] => { results := [.lit (.bool false)], args := [d1, d2, d3] }
  | _ => none }
def ReformLastWrongFalsely : Prop := reformLastRow.holds Try.pinned (OpenSpec.ofChange reformLastWrong)

/-- 'beadlelaw22.ReformChain': WHATEVER THE INPUT: true; the input reads as it did. -/
def reformChainSpec : ChangeSpec := { name := "reformChain", fn := fun _ => fun
  | [d1, d2, d3, d4] => { results := [.lit (.bool true)], args := [d1, d2, d3, d4] }
  | _ => none }
def reformChainRow : OpenClaim := { program := "ytinddgigjecofaa", sum := "227de20e50e8acd06c5f330ccf7c0bc707e7059ff3a42c96cf247b4a3e060a4c", func := "beadle/beadlelaw22.ReformChain", spec := "reformChain", unfollowed := true, recurses := true, loops := true, apart := false }
def ReformChainSaid : Prop := reformChainRow.holds Try.pinned (OpenSpec.ofChange reformChainSpec)

/-- ITS FALSE NEIGHBOUR: 'it returns false'. Refute it at one input. -/
def reformChainWrong : ChangeSpec := { name := "reformChain", fn := fun _ => fun
  | [d1, d2, d3, d4] => { results := [.lit (.bool false)], args := [d1, d2, d3, d4] }
  | _ => none }
def ReformChainWrongFalsely : Prop := reformChainRow.holds Try.pinned (OpenSpec.ofChange reformChainWrong)

/- THE SECOND FORM. 'bulk': how many values and letters a reading holds, each counted each time it is reached (what is shared counts as often as it is met; a slice's spare places count too). A statement '..UptoSaid' is the law's where the arguments, and the package variables that the reading takes, are together of bulk at most 1048576: NARROWER than '..Said'. Prove '..Said' where nothing that the law and all that it calls make is longer than what came in: it says more and counts as full. Else prove '..UptoSaid'. A law counts once. -/
mutual
def uptoBulk {H : Type} : DataW H → Nat
  | .lit (.string bytes) => bytes.length + 1
  | .lit _ => 1
  | .nil => 1
  | .ptr d => uptoBulk d + 1
  | .slice elems spare => uptoBulkAll elems + uptoBulkAll spare + 1
  | .agg parts => uptoBulkAll parts + 1
  | .iface _ d => uptoBulk d + 1
  | .map entries => uptoBulkEntries entries + 1
  | .held _ => 1
def uptoBulkAll {H : Type} : List (DataW H) → Nat
  | [] => 0
  | d :: r => uptoBulk d + uptoBulkAll r
def uptoBulkEntries {H : Type} : List (Lit × DataW H) → Nat
  | [] => 0
  | x :: r => uptoBulkEntry x + uptoBulkEntries r
def uptoBulkEntry {H : Type} : Lit × DataW H → Nat
  | (.string bytes, d) => bytes.length + uptoBulk d + 1
  | (_, d) => uptoBulk d + 1
 end
def uptoSmall : (H : Type) → List (DataW H) → Bool := fun _ ds => decide (uptoBulkAll ds ≤ 1048576)
def OpenSpec.upto (s : _root_.Go.ChangeSpec) : _root_.Go.OpenSpec := { _root_.Go.OpenSpec.ofChange s with cond := some uptoSmall }

/-- 'beadlelaw22.ReformMakes', WHERE WHAT IT READS IS OF BULK AT MOST 1048576: true; the input reads as it did. -/
def reformMakesUptoRow : OpenClaim := { program := "ytinddgigjecofaa", sum := "227de20e50e8acd06c5f330ccf7c0bc707e7059ff3a42c96cf247b4a3e060a4c", func := "beadle/beadlelaw22.ReformMakes", spec := "reformMakes", unfollowed := true, recurses := true, loops := true, apart := false, narrowed := true }
def ReformMakesUptoSaid : Prop := reformMakesUptoRow.holds Try.pinned (OpenSpec.upto reformMakesSpec)

/-- 'beadlelaw22.ReformBinds', WHERE WHAT IT READS IS OF BULK AT MOST 1048576: true; the input reads as it did. -/
def reformBindsUptoRow : OpenClaim := { program := "ytinddgigjecofaa", sum := "227de20e50e8acd06c5f330ccf7c0bc707e7059ff3a42c96cf247b4a3e060a4c", func := "beadle/beadlelaw22.ReformBinds", spec := "reformBinds", unfollowed := true, recurses := true, apart := false, narrowed := true }
def ReformBindsUptoSaid : Prop := reformBindsUptoRow.holds Try.pinned (OpenSpec.upto reformBindsSpec)

/-- 'beadlelaw22.ReformNumbers', WHERE WHAT IT READS IS OF BULK AT MOST 1048576: true; the input reads as it did. -/
def reformNumbersUptoRow : OpenClaim := { program := "ytinddgigjecofaa", sum := "227de20e50e8acd06c5f330ccf7c0bc707e7059ff3a42c96cf247b4a3e060a4c", func := "beadle/beadlelaw22.ReformNumbers", spec := "reformNumbers", unfollowed := true, recurses := true, apart := false, narrowed := true }
def ReformNumbersUptoSaid : Prop := reformNumbersUptoRow.holds Try.pinned (OpenSpec.upto reformNumbersSpec)

/-- 'beadlelaw22.ReformLast', WHERE WHAT IT READS IS OF BULK AT MOST 1048576: true; the input reads as it did. -/
def reformLastUptoRow : OpenClaim := { program := "ytinddgigjecofaa", sum := "227de20e50e8acd06c5f330ccf7c0bc707e7059ff3a42c96cf247b4a3e060a4c", func := "beadle/beadlelaw22.ReformLast", spec := "reformLast", unfollowed := true, recurses := true, apart := false, narrowed := true }
def ReformLastUptoSaid : Prop := reformLastUptoRow.holds Try.pinned (OpenSpec.upto reformLastSpec)

/-- 'beadlelaw22.ReformChain', WHERE WHAT IT READS IS OF BULK AT MOST 1048576: true; the input reads as it did. -/
def reformChainUptoRow : OpenClaim := { program := "ytinddgigjecofaa", sum := "227de20e50e8acd06c5f330ccf7c0bc707e7059ff3a42c96cf247b4a3e060a4c", func := "beadle/beadlelaw22.ReformChain", spec := "reformChain", unfollowed := true, recurses := true, loops := true, apart := false, narrowed := true }
def ReformChainUptoSaid : Prop := reformChainUptoRow.holds Try.pinned (OpenSpec.upto reformChainSpec)

end Rows
end Go.Proofs.Ytinddgigjecofaa
