/-
  NARROWER THAN 'FOR EVERY INPUT', by the rows' own cells (each row's printed sentence says how): TensorSoftmax: laid · TensorCalls: laid · TensorLists: laid.
  DERIVED. THE GIVEN ROWS OF THIS SEAT. 3 by the template 'for every input the law returns true; each argument reads behind the call as it read before'; 0 by the template 'total and deterministic' (their statements: YtnioohhiphpplaaDoorTotals.lean).
  GIVEN WITH THE SEED: the statements are not yours to turn. If you find one false, say at which input.
  Laid BY PROGRAM, IN A SANDBOX (cutbox-rows.mjs): the forced cells as the released guide's own fill.sh prints them over the translation 9dfd4b52c305f4e2… (all of the seat's roots in one cut). By AI agents, Wed Nov 11 2026. No macro, syntax, notation, axiom, sorry.
-/
import Derived.Test.YtnioohhiphpplaaDoorChecked
import GoSem.Claim
import GoSem.ClaimJoined
import GoSem.ClaimMapViews
import Derived.JoinedTies
import Derived.KernelRfl
namespace Go.Proofs.YtnioohhiphpplaaDoor
/- THE CELL 'sum', in the pinned program and in every row, IS THE sha256 OF THE DUMP (.gsa) THAT YtnioohhiphpplaaDoorProg.lean LOADS. Nothing in Lean hashes anything: it is a label: what it is worth is what the hold of that sum in a sandbox is worth. -/
noncomputable def Tryd.pinned : Pinned := { name := "ytnioohhiphpplaadoor", sum := "9dfd4b52c305f4e2b90ba3decd3998e2c24b35e88ca7e09fbccb996b4122518c", checked := Tryd.checked }
namespace Rows
def none {H : Type} : Left H := { results := [], args := [] }

/- WHAT THE LISTED PACKAGE-LEVEL VARIABLES READ AS WHEN THE CALL BEGINS. Each datum BY PROGRAM (the guide's laid-datum.mjs) off the statement by which the dump's own 'gosem.cut.vars' lays the variable. In a bare row this is a premise. The card (YtnioohhiphpplaaDoorCards.lean) ties it to the program's text. -/
def laid_augur_fix_terms {H : Type} : DataW H := .agg [.lit (.int .i64 1073741824), .lit (.int .i64 (-1073764153)), .lit (.int .i64 536691957), .lit (.int .i64 (-175978408)), .lit (.int .i64 35472643)]

/-- 'augurlaw03.TensorSoftmax': WHATEVER THE INPUT: true; the input reads as it did. -/
def tensorSoftmaxSpec : ChangeSpec := { name := "tensorSoftmax", fn := fun _ => fun
  | [d1, d2, d3] => { results := [.lit (.bool true)], args := [d1, d2, d3] }
  | _ => none }
def tensorSoftmaxRow : OpenClaim := { program := "ytnioohhiphpplaadoor", sum := "9dfd4b52c305f4e2b90ba3decd3998e2c24b35e88ca7e09fbccb996b4122518c", func := "augur/augurlaw03.TensorSoftmax", spec := "tensorSoftmax", named := ["augur/fix.terms"], apart := false, laid := [("augur/fix.terms", laid_augur_fix_terms)] }
def TensorSoftmaxSaid : Prop := tensorSoftmaxRow.holds Tryd.pinned (OpenSpec.ofChange tensorSoftmaxSpec)

/-- ITS FALSE NEIGHBOUR: 'it returns false'. Refute it at one input. -/
def tensorSoftmaxWrong : ChangeSpec := { name := "tensorSoftmax", fn := fun _ => fun
  | [d1, d2, d3] => { results := [.lit (.bool false)], args := [d1, d2, d3] }
  | _ => none }
def TensorSoftmaxWrongFalsely : Prop := tensorSoftmaxRow.holds Tryd.pinned (OpenSpec.ofChange tensorSoftmaxWrong)

/-- 'augurlaw03.TensorCalls': WHATEVER THE INPUT: true; the input reads as it did. -/
def tensorCallsSpec : ChangeSpec := { name := "tensorCalls", fn := fun _ => fun
  | [d] => { results := [.lit (.bool true)], args := [d] }
  | _ => none }
def tensorCallsRow : OpenClaim := { program := "ytnioohhiphpplaadoor", sum := "9dfd4b52c305f4e2b90ba3decd3998e2c24b35e88ca7e09fbccb996b4122518c", func := "augur/augurlaw03.TensorCalls", spec := "tensorCalls", named := ["augur/fix.terms"], apart := false, laid := [("augur/fix.terms", laid_augur_fix_terms)] }
def TensorCallsSaid : Prop := tensorCallsRow.holds Tryd.pinned (OpenSpec.ofChange tensorCallsSpec)

/-- ITS FALSE NEIGHBOUR: 'it returns false'. Refute it at one input. -/
def tensorCallsWrong : ChangeSpec := { name := "tensorCalls", fn := fun _ => fun
  | [d] => { results := [.lit (.bool false)], args := [d] }
  | _ => none }
def TensorCallsWrongFalsely : Prop := tensorCallsRow.holds Tryd.pinned (OpenSpec.ofChange tensorCallsWrong)

/-- 'augurlaw03.TensorLists': WHATEVER THE INPUT: true; the input reads as it did. -/
def tensorListsSpec : ChangeSpec := { name := "tensorLists", fn := fun _ => fun
  | [d] => { results := [.lit (.bool true)], args := [d] }
  | _ => none }
def tensorListsRow : OpenClaim := { program := "ytnioohhiphpplaadoor", sum := "9dfd4b52c305f4e2b90ba3decd3998e2c24b35e88ca7e09fbccb996b4122518c", func := "augur/augurlaw03.TensorLists", spec := "tensorLists", named := ["augur/fix.terms"], apart := false, laid := [("augur/fix.terms", laid_augur_fix_terms)] }
def TensorListsSaid : Prop := tensorListsRow.holds Tryd.pinned (OpenSpec.ofChange tensorListsSpec)

/-- ITS FALSE NEIGHBOUR: 'it returns false'. Refute it at one input. -/
def tensorListsWrong : ChangeSpec := { name := "tensorLists", fn := fun _ => fun
  | [d] => { results := [.lit (.bool false)], args := [d] }
  | _ => none }
def TensorListsWrongFalsely : Prop := tensorListsRow.holds Tryd.pinned (OpenSpec.ofChange tensorListsWrong)

/- THE SECOND FORM. 'bulk': how many values and letters a reading holds, each counted each time it is reached (what is shared counts as often as it is met; a slice's spare places count too). A statement '..UptoSaid' is the law's where the arguments, and the package variables that the reading takes, are together of bulk at most 1048576: NARROWER than '..Said'. Prove '..Said' where nothing that the law and all that it calls make is longer than what came in: it says more and counts as full. Else prove '..UptoSaid'. A law counts once. -/
mutual
def uptoBulk {H : Type} : DataW H → Nat
  | .lit (.string bytes) => bytes.length + 1
  | .lit _ => 1
  | .nil => 1
  | .ptr d => uptoBulk d + 1
  | .slice elems spare => uptoBulkAll elems + uptoBulkAll spare + 1
  | .agg parts => uptoBulkAll parts + 1
  | .iface _ d => uptoBulk d + 1
  | .map entries => uptoBulkEntries entries + 1
  | .held _ => 1
def uptoBulkAll {H : Type} : List (DataW H) → Nat
  | [] => 0
  | d :: r => uptoBulk d + uptoBulkAll r
def uptoBulkEntries {H : Type} : List (Lit × DataW H) → Nat
  | [] => 0
  | x :: r => uptoBulkEntry x + uptoBulkEntries r
def uptoBulkEntry {H : Type} : Lit × DataW H → Nat
  | (.string bytes, d) => bytes.length + uptoBulk d + 1
  | (_, d) => uptoBulk d + 1
 end
def uptoSmall : (H : Type) → List (DataW H) → Bool := fun _ ds => decide (uptoBulkAll ds ≤ 1048576)
def OpenSpec.upto (s : _root_.Go.ChangeSpec) : _root_.Go.OpenSpec := { _root_.Go.OpenSpec.ofChange s with cond := some uptoSmall }

/-- 'augurlaw03.TensorSoftmax', WHERE WHAT IT READS IS OF BULK AT MOST 1048576: true; the input reads as it did. -/
def tensorSoftmaxUptoRow : OpenClaim := { program := "ytnioohhiphpplaadoor", sum := "9dfd4b52c305f4e2b90ba3decd3998e2c24b35e88ca7e09fbccb996b4122518c", func := "augur/augurlaw03.TensorSoftmax", spec := "tensorSoftmax", named := ["augur/fix.terms"], apart := false, laid := [("augur/fix.terms", laid_augur_fix_terms)], narrowed := true }
def TensorSoftmaxUptoSaid : Prop := tensorSoftmaxUptoRow.holds Tryd.pinned (OpenSpec.upto tensorSoftmaxSpec)

/-- 'augurlaw03.TensorCalls', WHERE WHAT IT READS IS OF BULK AT MOST 1048576: true; the input reads as it did. -/
def tensorCallsUptoRow : OpenClaim := { program := "ytnioohhiphpplaadoor", sum := "9dfd4b52c305f4e2b90ba3decd3998e2c24b35e88ca7e09fbccb996b4122518c", func := "augur/augurlaw03.TensorCalls", spec := "tensorCalls", named := ["augur/fix.terms"], apart := false, laid := [("augur/fix.terms", laid_augur_fix_terms)], narrowed := true }
def TensorCallsUptoSaid : Prop := tensorCallsUptoRow.holds Tryd.pinned (OpenSpec.upto tensorCallsSpec)

/-- 'augurlaw03.TensorLists', WHERE WHAT IT READS IS OF BULK AT MOST 1048576: true; the input reads as it did. -/
def tensorListsUptoRow : OpenClaim := { program := "ytnioohhiphpplaadoor", sum := "9dfd4b52c305f4e2b90ba3decd3998e2c24b35e88ca7e09fbccb996b4122518c", func := "augur/augurlaw03.TensorLists", spec := "tensorLists", named := ["augur/fix.terms"], apart := false, laid := [("augur/fix.terms", laid_augur_fix_terms)], narrowed := true }
def TensorListsUptoSaid : Prop := tensorListsUptoRow.holds Tryd.pinned (OpenSpec.upto tensorListsSpec)

end Rows
end Go.Proofs.YtnioohhiphpplaaDoor
