/-
  No cell of these rows narrows 'for every input' (looked for: loops, veiled, ifaces, maps, wideKeys, modest, calm, conditions, laid).
  DERIVED. THE GIVEN ROWS OF THIS SEAT. 2 by the template 'for every input the law returns true; each argument reads behind the call as it read before'; 0 by the template 'total and deterministic' (their statements: YtjnplhmhkindpaaTotals.lean).
  GIVEN WITH THE SEED: the statements are not yours to turn. If you find one false, say at which input.
  Laid BY PROGRAM, IN A SANDBOX (cutbox-rows.mjs): the forced cells as the released guide's own fill.sh prints them over the translation 28e3adfed22bbc0e… (all of the seat's roots in one cut). By AI agents, Wed Nov 11 2026. No macro, syntax, notation, axiom, sorry.
-/
import Derived.Test.YtjnplhmhkindpaaChecked
import GoSem.Claim
import GoSem.ClaimJoined
import GoSem.ClaimMapViews
import Derived.JoinedTies
import Derived.KernelRfl
namespace Go.Proofs.Ytjnplhmhkindpaa
/- THE CELL 'sum', in the pinned program and in every row, IS THE sha256 OF THE DUMP (.gsa) THAT YtjnplhmhkindpaaProg.lean LOADS. Nothing in Lean hashes anything: it is a label: what it is worth is what the hold of that sum in a sandbox is worth. -/
noncomputable def Try.pinned : Pinned := { name := "ytjnplhmhkindpaa", sum := "28e3adfed22bbc0ee11079d11cf3676963211058aa6c50530a472d8cba74efbb", checked := Try.checked }
namespace Rows
def none {H : Type} : Left H := { results := [], args := [] }

/-- 'beadlelaw23.LeadOrders': WHATEVER THE INPUT: true; the input reads as it did. -/
def leadOrdersSpec : ChangeSpec := { name := "leadOrders", fn := fun _ => fun
  | [d1, d2, d3, d4] => { results := [.lit (.bool true)], args := [d1, d2, d3, d4] }
  | _ => none }
def leadOrdersRow : OpenClaim := { program := "ytjnplhmhkindpaa", sum := "28e3adfed22bbc0ee11079d11cf3676963211058aa6c50530a472d8cba74efbb", func := "beadle/beadlelaw23.LeadOrders", spec := "leadOrders", unfollowed := true, recurses := true, apart := false }
def LeadOrdersSaid : Prop := leadOrdersRow.holds Try.pinned (OpenSpec.ofChange leadOrdersSpec)

/-- ITS FALSE NEIGHBOUR: 'it returns false'. Refute it at one input. -/
def leadOrdersWrong : ChangeSpec := { name := "leadOrders", fn := fun _ => fun
  | [d1, d2, d3, d4] => { results := [.lit (.bool false)], args := [d1, d2, d3, d4] }
  | _ => none }
def LeadOrdersWrongFalsely : Prop := leadOrdersRow.holds Try.pinned (OpenSpec.ofChange leadOrdersWrong)

/-- 'beadlelaw23.LeadNone': WHATEVER THE INPUT: true; the input reads as it did. -/
def leadNoneSpec : ChangeSpec := { name := "leadNone", fn := fun _ => fun
  | [d] => { results := [.lit (.bool true)], args := [d] }
  | _ => none }
def leadNoneRow : OpenClaim := { program := "ytjnplhmhkindpaa", sum := "28e3adfed22bbc0ee11079d11cf3676963211058aa6c50530a472d8cba74efbb", func := "beadle/beadlelaw23.LeadNone", spec := "leadNone", unfollowed := true, recurses := true, apart := false }
def LeadNoneSaid : Prop := leadNoneRow.holds Try.pinned (OpenSpec.ofChange leadNoneSpec)

/-- ITS FALSE NEIGHBOUR: 'it returns false'. Refute it at one input. -/
def leadNoneWrong : ChangeSpec := { name := "leadNone", fn := fun _ => fun
  | [d] => { results := [.lit (.bool false)], args := [d] }
  | _ => none }
def LeadNoneWrongFalsely : Prop := leadNoneRow.holds Try.pinned (OpenSpec.ofChange leadNoneWrong)

/- THE SECOND FORM. 'bulk': how many values and letters a reading holds, each counted each time it is reached (what is shared counts as often as it is met; a slice's spare places count too). A statement '..UptoSaid' is the law's where the arguments, and the package variables that the reading takes, are together of bulk at most 1048576: NARROWER than '..Said'. Prove '..Said' where nothing that the law and all that it calls make is longer than what came in: it says more and counts as full. Else prove '..UptoSaid'. A law counts once. -/
mutual
def uptoBulk {H : Type} : DataW H → Nat
  | .lit (.string bytes) => bytes.length + 1
  | .lit _ => 1
  | .nil => 1
  | .ptr d => uptoBulk d + 1
  | .slice elems spare => uptoBulkAll elems + uptoBulkAll spare + 1
  | .agg parts => uptoBulkAll parts + 1
  | .iface _ d => uptoBulk d + 1
  | .map entries => uptoBulkEntries entries + 1
  | .held _ => 1
def uptoBulkAll {H : Type} : List (DataW H) → Nat
  | [] => 0
  | d :: r => uptoBulk d + uptoBulkAll r
def uptoBulkEntries {H : Type} : List (Lit × DataW H) → Nat
  | [] => 0
  | x :: r => uptoBulkEntry x + uptoBulkEntries r
def uptoBulkEntry {H : Type} : Lit × DataW H → Nat
  | (.string bytes, d) => bytes.length + uptoBulk d + 1
  | (_, d) => uptoBulk d + 1
 end
def uptoSmall : (H : Type) → List (DataW H) → Bool := fun _ ds => decide (uptoBulkAll ds ≤ 1048576)
def OpenSpec.upto (s : _root_.Go.ChangeSpec) : _root_.Go.OpenSpec := { _root_.Go.OpenSpec.ofChange s with cond := some uptoSmall }

/-- 'beadlelaw23.LeadOrders', WHERE WHAT IT READS IS OF BULK AT MOST 1048576: true; the input reads as it did. -/
def leadOrdersUptoRow : OpenClaim := { program := "ytjnplhmhkindpaa", sum := "28e3adfed22bbc0ee11079d11cf3676963211058aa6c50530a472d8cba74efbb", func := "beadle/beadlelaw23.LeadOrders", spec := "leadOrders", unfollowed := true, recurses := true, apart := false, narrowed := true }
def LeadOrdersUptoSaid : Prop := leadOrdersUptoRow.holds Try.pinned (OpenSpec.upto leadOrdersSpec)

/-- 'beadlelaw23.LeadNone', WHERE WHAT IT READS IS OF BULK AT MOST 1048576: true; the input reads as it did. -/
def leadNoneUptoRow : OpenClaim := { program := "ytjnplhmhkindpaa", sum := "28e3adfed22bbc0ee11079d11cf3676963211058aa6c50530a472d8cba74efbb", func := "beadle/beadlelaw23.LeadNone", spec := "leadNone", unfollowed := true, recurses := true, apart := false, narrowed := true }
def LeadNoneUptoSaid : Prop := leadNoneUptoRow.holds Try.pinned (OpenSpec.upto leadNoneSpec)

end Rows
end Go.Proofs.Ytjnplhmhkindpaa
