/-
  No cell of these rows narrows 'for every input' (looked for: loops, veiled, ifaces, maps, wideKeys, modest, calm, conditions, laid).
  DERIVED. THE GIVEN ROWS OF THIS SEAT. 4 by the template 'for every input the law returns true; each argument reads behind the call as it read before'; 0 by the template 'total and deterministic' (their statements: YtnioohhiphpplaaTotals.lean).
  GIVEN WITH THE SEED: the statements are not yours to turn. If you find one false, say at which input.
  Laid BY PROGRAM, IN A SANDBOX (cutbox-rows.mjs): the forced cells as the released guide's own fill.sh prints them over the translation e137add53f73a126… (all of the seat's roots in one cut). By AI agents, Wed Nov 11 2026. No macro, syntax, notation, axiom, sorry.
-/
import Derived.Test.YtnioohhiphpplaaChecked
import GoSem.Claim
import GoSem.ClaimJoined
import GoSem.ClaimMapViews
import Derived.JoinedTies
import Derived.KernelRfl
namespace Go.Proofs.Ytnioohhiphpplaa
/- THE CELL 'sum', in the pinned program and in every row, IS THE sha256 OF THE DUMP (.gsa) THAT YtnioohhiphpplaaProg.lean LOADS. Nothing in Lean hashes anything: it is a label: what it is worth is what the hold of that sum in a sandbox is worth. -/
noncomputable def Try.pinned : Pinned := { name := "ytnioohhiphpplaa", sum := "e137add53f73a12685025bfe4c696429f6a16b76d67a7c1b95da271d44740084", checked := Try.checked }
namespace Rows
def none {H : Type} : Left H := { results := [], args := [] }

/-- 'augurlaw03.TensorLinear': WHATEVER THE INPUT: true; the input reads as it did. -/
def tensorLinearSpec : ChangeSpec := { name := "tensorLinear", fn := fun _ => fun
  | [d] => { results := [.lit (.bool true)], args := [d] }
  | _ => none }
def tensorLinearRow : OpenClaim := { program := "ytnioohhiphpplaa", sum := "e137add53f73a12685025bfe4c696429f6a16b76d67a7c1b95da271d44740084", func := "augur/augurlaw03.TensorLinear", spec := "tensorLinear", apart := false }
def TensorLinearSaid : Prop := tensorLinearRow.holds Try.pinned (OpenSpec.ofChange tensorLinearSpec)

/-- ITS FALSE NEIGHBOUR: 'it returns false'. Refute it at one input. -/
def tensorLinearWrong : ChangeSpec := { name := "tensorLinear", fn := fun _ => fun
  | [d] => { results := [.lit (.bool false)], args := [d] }
  | _ => none }
def TensorLinearWrongFalsely : Prop := tensorLinearRow.holds Try.pinned (OpenSpec.ofChange tensorLinearWrong)

/-- 'augurlaw03.TensorTurns': WHATEVER THE INPUT: true; the input reads as it did. -/
def tensorTurnsSpec : ChangeSpec := { name := "tensorTurns", fn := fun _ => fun
  | [d1, d2, d3] => { results := [.lit (.bool true)], args := [d1, d2, d3] }
  | _ => none }
def tensorTurnsRow : OpenClaim := { program := "ytnioohhiphpplaa", sum := "e137add53f73a12685025bfe4c696429f6a16b76d67a7c1b95da271d44740084", func := "augur/augurlaw03.TensorTurns", spec := "tensorTurns", apart := false }
def TensorTurnsSaid : Prop := tensorTurnsRow.holds Try.pinned (OpenSpec.ofChange tensorTurnsSpec)

/-- ITS FALSE NEIGHBOUR: 'it returns false'. Refute it at one input. -/
def tensorTurnsWrong : ChangeSpec := { name := "tensorTurns", fn := fun _ => fun
  | [d1, d2, d3] => { results := [.lit (.bool false)], args := [d1, d2, d3] }
  | _ => none }
def TensorTurnsWrongFalsely : Prop := tensorTurnsRow.holds Try.pinned (OpenSpec.ofChange tensorTurnsWrong)

/-- 'augurlaw03.TensorBlend': WHATEVER THE INPUT: true; the input reads as it did. -/
def tensorBlendSpec : ChangeSpec := { name := "tensorBlend", fn := fun _ => fun
  | [d1, d2, d3] => { results := [.lit (.bool true)], args := [d1, d2, d3] }
  | _ => none }
def tensorBlendRow : OpenClaim := { program := "ytnioohhiphpplaa", sum := "e137add53f73a12685025bfe4c696429f6a16b76d67a7c1b95da271d44740084", func := "augur/augurlaw03.TensorBlend", spec := "tensorBlend", apart := false }
def TensorBlendSaid : Prop := tensorBlendRow.holds Try.pinned (OpenSpec.ofChange tensorBlendSpec)

/-- ITS FALSE NEIGHBOUR: 'it returns false'. Refute it at one input. -/
def tensorBlendWrong : ChangeSpec := { name := "tensorBlend", fn := fun _ => fun
  | [d1, d2, d3] => { results := [.lit (.bool false)], args := [d1, d2, d3] }
  | _ => none }
def TensorBlendWrongFalsely : Prop := tensorBlendRow.holds Try.pinned (OpenSpec.ofChange tensorBlendWrong)

/-- 'augurlaw03.TensorNorm': WHATEVER THE INPUT: true; the input reads as it did. -/
def tensorNormSpec : ChangeSpec := { name := "tensorNorm", fn := fun _ => fun
  | [d1, d2, d3] => { results := [.lit (.bool true)], args := [d1, d2, d3] }
  | _ => none }
def tensorNormRow : OpenClaim := { program := "ytnioohhiphpplaa", sum := "e137add53f73a12685025bfe4c696429f6a16b76d67a7c1b95da271d44740084", func := "augur/augurlaw03.TensorNorm", spec := "tensorNorm", apart := false }
def TensorNormSaid : Prop := tensorNormRow.holds Try.pinned (OpenSpec.ofChange tensorNormSpec)

/-- ITS FALSE NEIGHBOUR: 'it returns false'. Refute it at one input. -/
def tensorNormWrong : ChangeSpec := { name := "tensorNorm", fn := fun _ => fun
  | [d1, d2, d3] => { results := [.lit (.bool false)], args := [d1, d2, d3] }
  | _ => none }
def TensorNormWrongFalsely : Prop := tensorNormRow.holds Try.pinned (OpenSpec.ofChange tensorNormWrong)

/- THE SECOND FORM. 'bulk': how many values and letters a reading holds, each counted each time it is reached (what is shared counts as often as it is met; a slice's spare places count too). A statement '..UptoSaid' is the law's where the arguments, and the package variables that the reading takes, are together of bulk at most 1048576: NARROWER than '..Said'. Prove '..Said' where nothing that the law and all that it calls make is longer than what came in: it says more and counts as full. Else prove '..UptoSaid'. A law counts once. -/
mutual
def uptoBulk {H : Type} : DataW H → Nat
  | .lit (.string bytes) => bytes.length + 1
  | .lit _ => 1
  | .nil => 1
  | .ptr d => uptoBulk d + 1
  | .slice elems spare => uptoBulkAll elems + uptoBulkAll spare + 1
  | .agg parts => uptoBulkAll parts + 1
  | .iface _ d => uptoBulk d + 1
  | .map entries => uptoBulkEntries entries + 1
  | .held _ => 1
def uptoBulkAll {H : Type} : List (DataW H) → Nat
  | [] => 0
  | d :: r => uptoBulk d + uptoBulkAll r
def uptoBulkEntries {H : Type} : List (Lit × DataW H) → Nat
  | [] => 0
  | x :: r => uptoBulkEntry x + uptoBulkEntries r
def uptoBulkEntry {H : Type} : Lit × DataW H → Nat
  | (.string bytes, d) => bytes.length + uptoBulk d + 1
  | (_, d) => uptoBulk d + 1
 end
def uptoSmall : (H : Type) → List (DataW H) → Bool := fun _ ds => decide (uptoBulkAll ds ≤ 1048576)
def OpenSpec.upto (s : _root_.Go.ChangeSpec) : _root_.Go.OpenSpec := { _root_.Go.OpenSpec.ofChange s with cond := some uptoSmall }

/-- 'augurlaw03.TensorLinear', WHERE WHAT IT READS IS OF BULK AT MOST 1048576: true; the input reads as it did. -/
def tensorLinearUptoRow : OpenClaim := { program := "ytnioohhiphpplaa", sum := "e137add53f73a12685025bfe4c696429f6a16b76d67a7c1b95da271d44740084", func := "augur/augurlaw03.TensorLinear", spec := "tensorLinear", apart := false, narrowed := true }
def TensorLinearUptoSaid : Prop := tensorLinearUptoRow.holds Try.pinned (OpenSpec.upto tensorLinearSpec)

/-- 'augurlaw03.TensorTurns', WHERE WHAT IT READS IS OF BULK AT MOST 1048576: true; the input reads as it did. -/
def tensorTurnsUptoRow : OpenClaim := { program := "ytnioohhiphpplaa", sum := "e137add53f73a12685025bfe4c696429f6a16b76d67a7c1b95da271d44740084", func := "augur/augurlaw03.TensorTurns", spec := "tensorTurns", apart := false, narrowed := true }
def TensorTurnsUptoSaid : Prop := tensorTurnsUptoRow.holds Try.pinned (OpenSpec.upto tensorTurnsSpec)

/-- 'augurlaw03.TensorBlend', WHERE WHAT IT READS IS OF BULK AT MOST 1048576: true; the input reads as it did. -/
def tensorBlendUptoRow : OpenClaim := { program := "ytnioohhiphpplaa", sum := "e137add53f73a12685025bfe4c696429f6a16b76d67a7c1b95da271d44740084", func := "augur/augurlaw03.TensorBlend", spec := "tensorBlend", apart := false, narrowed := true }
def TensorBlendUptoSaid : Prop := tensorBlendUptoRow.holds Try.pinned (OpenSpec.upto tensorBlendSpec)

/-- 'augurlaw03.TensorNorm', WHERE WHAT IT READS IS OF BULK AT MOST 1048576: true; the input reads as it did. -/
def tensorNormUptoRow : OpenClaim := { program := "ytnioohhiphpplaa", sum := "e137add53f73a12685025bfe4c696429f6a16b76d67a7c1b95da271d44740084", func := "augur/augurlaw03.TensorNorm", spec := "tensorNorm", apart := false, narrowed := true }
def TensorNormUptoSaid : Prop := tensorNormUptoRow.holds Try.pinned (OpenSpec.upto tensorNormSpec)

end Rows
end Go.Proofs.Ytnioohhiphpplaa
