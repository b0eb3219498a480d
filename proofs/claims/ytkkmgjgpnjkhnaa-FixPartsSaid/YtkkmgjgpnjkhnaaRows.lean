/-
  No cell of these rows narrows 'for every input' (looked for: loops, veiled, ifaces, maps, wideKeys, modest, calm, conditions, laid).
  DERIVED. THE GIVEN ROWS OF THIS SEAT. 6 by the template 'for every input the law returns true; each argument reads behind the call as it read before'; 0 by the template 'total and deterministic' (their statements: YtkkmgjgpnjkhnaaTotals.lean).
  GIVEN WITH THE SEED: the statements are not yours to turn. If you find one false, say at which input.
  Laid BY PROGRAM, IN A SANDBOX (cutbox-rows.mjs): the forced cells as the released guide's own fill.sh prints them over the translation 61f731930c6a832f… (all of the seat's roots in one cut). By AI agents, Wed Nov 11 2026. No macro, syntax, notation, axiom, sorry.
-/
import Derived.Test.YtkkmgjgpnjkhnaaChecked
import GoSem.Claim
import GoSem.ClaimJoined
import GoSem.ClaimMapViews
import Derived.JoinedTies
import Derived.KernelRfl
namespace Go.Proofs.Ytkkmgjgpnjkhnaa
/- THE CELL 'sum', in the pinned program and in every row, IS THE sha256 OF THE DUMP (.gsa) THAT YtkkmgjgpnjkhnaaProg.lean LOADS. Nothing in Lean hashes anything: it is a label: what it is worth is what the hold of that sum in a sandbox is worth. -/
noncomputable def Try.pinned : Pinned := { name := "ytkkmgjgpnjkhnaa", sum := "61f731930c6a832fcd89e3b23a360353200a86e21675f50638581e14494ef07c", checked := Try.checked }
namespace Rows
def none {H : Type} : Left H := { results := [], args := [] }

/-- 'augurlaw01.FixClamps': WHATEVER THE INPUT: true; the input reads as it did. -/
def fixClampsSpec : ChangeSpec := { name := "fixClamps", fn := fun _ => fun
  | [d1, d2] => { results := [.lit (.bool true)], args := [d1, d2] }
  | _ => none }
def fixClampsRow : OpenClaim := { program := "ytkkmgjgpnjkhnaa", sum := "61f731930c6a832fcd89e3b23a360353200a86e21675f50638581e14494ef07c", func := "augur/augurlaw01.FixClamps", spec := "fixClamps", apart := false }
def FixClampsSaid : Prop := fixClampsRow.holds Try.pinned (OpenSpec.ofChange fixClampsSpec)

/-- ITS FALSE NEIGHBOUR: 'it returns false'. Refute it at one input. -/
def fixClampsWrong : ChangeSpec := { name := "fixClamps", fn := fun _ => fun
  | [d1, d2] => { results := [.lit (.bool false)], args := [d1, d2] }
  | _ => none }
def FixClampsWrongFalsely : Prop := fixClampsRow.holds Try.pinned (OpenSpec.ofChange fixClampsWrong)

/-- 'augurlaw01.FixShifts': WHATEVER THE INPUT: true; the input reads as it did. -/
def fixShiftsSpec : ChangeSpec := { name := "fixShifts", fn := fun _ => fun
  | [d1, d2] => { results := [.lit (.bool true)], args := [d1, d2] }
  | _ => none }
def fixShiftsRow : OpenClaim := { program := "ytkkmgjgpnjkhnaa", sum := "61f731930c6a832fcd89e3b23a360353200a86e21675f50638581e14494ef07c", func := "augur/augurlaw01.FixShifts", spec := "fixShifts", apart := false }
def FixShiftsSaid : Prop := fixShiftsRow.holds Try.pinned (OpenSpec.ofChange fixShiftsSpec)

/-- ITS FALSE NEIGHBOUR: 'it returns false'. Refute it at one input. -/
def fixShiftsWrong : ChangeSpec := { name := "fixShifts", fn := fun _ => fun
  | [d1, d2] => { results := [.lit (.bool false)], args := [d1, d2] }
  | _ => none }
def FixShiftsWrongFalsely : Prop := fixShiftsRow.holds Try.pinned (OpenSpec.ofChange fixShiftsWrong)

/-- 'augurlaw01.FixNearest': WHATEVER THE INPUT: true; the input reads as it did. -/
def fixNearestSpec : ChangeSpec := { name := "fixNearest", fn := fun _ => fun
  | [d1, d2] => { results := [.lit (.bool true)], args := [d1, d2] }
  | _ => none }
def fixNearestRow : OpenClaim := { program := "ytkkmgjgpnjkhnaa", sum := "61f731930c6a832fcd89e3b23a360353200a86e21675f50638581e14494ef07c", func := "augur/augurlaw01.FixNearest", spec := "fixNearest", apart := false }
def FixNearestSaid : Prop := fixNearestRow.holds Try.pinned (OpenSpec.ofChange fixNearestSpec)

/-- ITS FALSE NEIGHBOUR: 'it returns false'. Refute it at one input. -/
def fixNearestWrong : ChangeSpec := { name := "fixNearest", fn := fun _ => fun
  | [d1, d2] => { results := [.lit (.bool false)], args := [d1, d2] }
  | _ => none }
def FixNearestWrongFalsely : Prop := fixNearestRow.holds Try.pinned (OpenSpec.ofChange fixNearestWrong)

/-- 'augurlaw01.FixWhole': WHATEVER THE INPUT: true; the input reads as it did. -/
def fixWholeSpec : ChangeSpec := { name := "fixWhole", fn := fun _ => fun
  | [d1, d2] => { results := [.lit (.bool true)], args := [d1, d2] }
  | _ => none }
def fixWholeRow : OpenClaim := { program := "ytkkmgjgpnjkhnaa", sum := "61f731930c6a832fcd89e3b23a360353200a86e21675f50638581e14494ef07c", func := "augur/augurlaw01.FixWhole", spec := "fixWhole", apart := false }
def FixWholeSaid : Prop := fixWholeRow.holds Try.pinned (OpenSpec.ofChange fixWholeSpec)

/-- ITS FALSE NEIGHBOUR: 'it returns false'. Refute it at one input. -/
def fixWholeWrong : ChangeSpec := { name := "fixWhole", fn := fun _ => fun
  | [d1, d2] => { results := [.lit (.bool false)], args := [d1, d2] }
  | _ => none }
def FixWholeWrongFalsely : Prop := fixWholeRow.holds Try.pinned (OpenSpec.ofChange fixWholeWrong)

/-- 'augurlaw01.FixRoots': WHATEVER THE INPUT: true; the input reads as it did. -/
def fixRootsSpec : ChangeSpec := { name := "fixRoots", fn := fun _ => fun
  | [d] => { results := [.lit (.bool true)], args := [d] }
  | _ => none }
def fixRootsRow : OpenClaim := { program := "ytkkmgjgpnjkhnaa", sum := "61f731930c6a832fcd89e3b23a360353200a86e21675f50638581e14494ef07c", func := "augur/augurlaw01.FixRoots", spec := "fixRoots", apart := false }
def FixRootsSaid : Prop := fixRootsRow.holds Try.pinned (OpenSpec.ofChange fixRootsSpec)

/-- ITS FALSE NEIGHBOUR: 'it returns false'. Refute it at one input. -/
def fixRootsWrong : ChangeSpec := { name := "fixRoots", fn := fun _ => fun
  | [d] => { results := [.lit (.bool false)], args := [d] }
  | _ => none }
def FixRootsWrongFalsely : Prop := fixRootsRow.holds Try.pinned (OpenSpec.ofChange fixRootsWrong)

/-- 'augurlaw01.FixParts': WHATEVER THE INPUT: true; the input reads as it did. -/
def fixPartsSpec : ChangeSpec := { name := "fixParts", fn := fun _ => fun
  | [d1, d2] => { results := [.lit (.bool true)], args := [d1, d2] }
  | _ => none }
def fixPartsRow : OpenClaim := { program := "ytkkmgjgpnjkhnaa", sum := "61f731930c6a832fcd89e3b23a360353200a86e21675f50638581e14494ef07c", func := "augur/augurlaw01.FixParts", spec := "fixParts", apart := false }
def FixPartsSaid : Prop := fixPartsRow.holds Try.pinned (OpenSpec.ofChange fixPartsSpec)

/-- ITS FALSE NEIGHBOUR: 'it returns false'. Refute it at one input. -/
def fixPartsWrong : ChangeSpec := { name := "fixParts", fn := fun _ => fun
  | [d1, d2] => { results := [.lit (.bool false)], args := [d1, d2] }
  | _ => none }
def FixPartsWrongFalsely : Prop := fixPartsRow.holds Try.pinned (OpenSpec.ofChange fixPartsWrong)

/- THE SECOND FORM. 'bulk': how many values and letters a reading holds, each counted each time it is reached (what is shared counts as often as it is met; a slice's spare places count too). A statement '..UptoSaid' is the law's where the arguments, and the package variables that the reading takes, are together of bulk at most 1048576: NARROWER than '..Said'. Prove '..Said' where nothing that the law and all that it calls make is longer than what came in: it says more and counts as full. Else prove '..UptoSaid'. A law counts once. -/
mutual
def uptoBulk {H : Type} : DataW H → Nat
  | .lit (.string bytes) => bytes.length + 1
  | .lit _ => 1
  | .nil => 1
  | .ptr d => uptoBulk d + 1
  | .slice elems spare => uptoBulkAll elems + uptoBulkAll spare + 1
  | .agg parts => uptoBulkAll parts + 1
  | .iface _ d => uptoBulk d + 1
  | .map entries => uptoBulkEntries entries + 1
  | .held _ => 1
def uptoBulkAll {H : Type} : List (DataW H) → Nat
  | [] => 0
  | d :: r => uptoBulk d + uptoBulkAll r
def uptoBulkEntries {H : Type} : List (Lit × DataW H) → Nat
  | [] => 0
  | x :: r => uptoBulkEntry x + uptoBulkEntries r
def uptoBulkEntry {H : Type} : Lit × DataW H → Nat
  | (.string bytes, d) => bytes.length + uptoBulk d + 1
  | (_, d) => uptoBulk d + 1
 end
def uptoSmall : (H : Type) → List (DataW H) → Bool := fun _ ds => decide (uptoBulkAll ds ≤ 1048576)
def OpenSpec.upto (s : _root_.Go.ChangeSpec) : _root_.Go.OpenSpec := { _root_.Go.OpenSpec.ofChange s with cond := some uptoSmall }

/-- 'augurlaw01.FixClamps', WHERE WHAT IT READS IS OF BULK AT MOST 1048576: true; the input reads as it did. -/
def fixClampsUptoRow : OpenClaim := { program := "ytkkmgjgpnjkhnaa", sum := "61f731930c6a832fcd89e3b23a360353200a86e21675f50638581e14494ef07c", func := "augur/augurlaw01.FixClamps", spec := "fixClamps", apart := false, narrowed := true }
def FixClampsUptoSaid : Prop := fixClampsUptoRow.holds Try.pinned (OpenSpec.upto fixClampsSpec)

/-- 'augurlaw01.FixShifts', WHERE WHAT IT READS IS OF BULK AT MOST 1048576: true; the input reads as it did. -/
def fixShiftsUptoRow : OpenClaim := { program := "ytkkmgjgpnjkhnaa", sum := "61f731930c6a832fcd89e3b23a360353200a86e21675f50638581e14494ef07c", func := "augur/augurlaw01.FixShifts", spec := "fixShifts", apart := false, narrowed := true }
def FixShiftsUptoSaid : Prop := fixShiftsUptoRow.holds Try.pinned (OpenSpec.upto fixShiftsSpec)

/-- 'augurlaw01.FixNearest', WHERE WHAT IT READS IS OF BULK AT MOST 1048576: true; the input reads as it did. -/
def fixNearestUptoRow : OpenClaim := { program := "ytkkmgjgpnjkhnaa", sum := "61f731930c6a832fcd89e3b23a360353200a86e21675f50638581e14494ef07c", func := "augur/augurlaw01.FixNearest", spec := "fixNearest", apart := false, narrowed := true }
def FixNearestUptoSaid : Prop := fixNearestUptoRow.holds Try.pinned (OpenSpec.upto fixNearestSpec)

/-- 'augurlaw01.FixWhole', WHERE WHAT IT READS IS OF BULK AT MOST 1048576: true; the input reads as it did. -/
def fixWholeUptoRow : OpenClaim := { program := "ytkkmgjgpnjkhnaa", sum := "61f731930c6a832fcd89e3b23a360353200a86e21675f50638581e14494ef07c", func := "augur/augurlaw01.FixWhole", spec := "fixWhole", apart := false, narrowed := true }
def FixWholeUptoSaid : Prop := fixWholeUptoRow.holds Try.pinned (OpenSpec.upto fixWholeSpec)

/-- 'augurlaw01.FixRoots', WHERE WHAT IT READS IS OF BULK AT MOST 1048576: true; the input reads as it did. -/
def fixRootsUptoRow : OpenClaim := { program := "ytkkmgjgpnjkhnaa", sum := "61f731930c6a832fcd89e3b23a360353200a86e21675f50638581e14494ef07c", func := "augur/augurlaw01.FixRoots", spec := "fixRoots", apart := false, narrowed := true }
def FixRootsUptoSaid : Prop := fixRootsUptoRow.holds Try.pinned (OpenSpec.upto fixRootsSpec)

/-- 'augurlaw01.FixParts', WHERE WHAT IT READS IS OF BULK AT MOST 1048576: true; the input reads as it did. -/
def fixPartsUptoRow : OpenClaim := { program := "ytkkmgjgpnjkhnaa", sum := "61f731930c6a832fcd89e3b23a360353200a86e21675f50638581e14494ef07c", func := "augur/augurlaw01.FixParts", spec := "fixParts", apart := false, narrowed := true }
def FixPartsUptoSaid : Prop := fixPartsUptoRow.holds Try.pinned (OpenSpec.upto fixPartsSpec)

end Rows
end Go.Proofs.Ytkkmgjgpnjkhnaa
