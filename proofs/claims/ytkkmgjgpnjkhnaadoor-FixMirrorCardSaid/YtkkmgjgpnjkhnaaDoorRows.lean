/-
  NARROWER THAN 'FOR EVERY INPUT', by the rows' own cells (each row's printed sentence says how): FixHalves: laid · FixRises: laid · FixCurves: laid · FixMirror: laid.
  DERIVED. THE GIVEN ROWS OF THIS SEAT. 4 by the template 'for every input the law returns true; each argument reads behind the call as it read before'; 0 by the template 'total and deterministic' (their statements: YtkkmgjgpnjkhnaaDoorTotals.lean).
  GIVEN WITH THE SEED: the statements are not yours to turn. If you find one false, say at which input.
  Laid BY PROGRAM, IN A SANDBOX (cutbox-rows.mjs): the forced cells as the released guide's own fill.sh prints them over the translation a80f1716eefb91b7… (all of the seat's roots in one cut). By AI agents, Wed Nov 11 2026. No macro, syntax, notation, axiom, sorry.
-/
import Derived.Test.YtkkmgjgpnjkhnaaDoorChecked
import GoSem.Claim
import GoSem.ClaimJoined
import GoSem.ClaimMapViews
import Derived.JoinedTies
import Derived.KernelRfl
namespace Go.Proofs.YtkkmgjgpnjkhnaaDoor
/- THE CELL 'sum', in the pinned program and in every row, IS THE sha256 OF THE DUMP (.gsa) THAT YtkkmgjgpnjkhnaaDoorProg.lean LOADS. Nothing in Lean hashes anything: it is a label: what it is worth is what the hold of that sum in a sandbox is worth. -/
noncomputable def Tryd.pinned : Pinned := { name := "ytkkmgjgpnjkhnaadoor", sum := "a80f1716eefb91b73eac842354915160f124be77dd121defa8f395fdc6e0fe2a", checked := Tryd.checked }
namespace Rows
def none {H : Type} : Left H := { results := [], args := [] }

/- WHAT THE LISTED PACKAGE-LEVEL VARIABLES READ AS WHEN THE CALL BEGINS. Each datum BY PROGRAM (the guide's laid-datum.mjs) off the statement by which the dump's own 'gosem.cut.vars' lays the variable. In a bare row this is a premise. The card (YtkkmgjgpnjkhnaaDoorCards.lean) ties it to the program's text. -/
def laid_augur_fix_terms {H : Type} : DataW H := .agg [.lit (.int .i64 1073741824), .lit (.int .i64 (-1073764153)), .lit (.int .i64 536691957), .lit (.int .i64 (-175978408)), .lit (.int .i64 35472643)]

/-- 'augurlaw01.FixHalves': WHATEVER THE INPUT: true; the input reads as it did. -/
def fixHalvesSpec : ChangeSpec := { name := "fixHalves", fn := fun _ => fun
  | [d1, d2] => { results := [.lit (.bool true)], args := [d1, d2] }
  | _ => none }
def fixHalvesRow : OpenClaim := { program := "ytkkmgjgpnjkhnaadoor", sum := "a80f1716eefb91b73eac842354915160f124be77dd121defa8f395fdc6e0fe2a", func := "augur/augurlaw01.FixHalves", spec := "fixHalves", named := ["augur/fix.terms"], apart := false, laid := [("augur/fix.terms", laid_augur_fix_terms)] }
def FixHalvesSaid : Prop := fixHalvesRow.holds Tryd.pinned (OpenSpec.ofChange fixHalvesSpec)

/-- ITS FALSE NEIGHBOUR: 'it returns false'. Refute it at one input. -/
def fixHalvesWrong : ChangeSpec := { name := "fixHalves", fn := fun _ => fun
  | [d1, d2] => { results := [.lit (.bool false)], args := [d1, d2] }
  | _ => none }
def FixHalvesWrongFalsely : Prop := fixHalvesRow.holds Tryd.pinned (OpenSpec.ofChange fixHalvesWrong)

/-- 'augurlaw01.FixRises': WHATEVER THE INPUT: true; the input reads as it did. -/
def fixRisesSpec : ChangeSpec := { name := "fixRises", fn := fun _ => fun
  | [d1, d2, d3] => { results := [.lit (.bool true)], args := [d1, d2, d3] }
  | _ => none }
def fixRisesRow : OpenClaim := { program := "ytkkmgjgpnjkhnaadoor", sum := "a80f1716eefb91b73eac842354915160f124be77dd121defa8f395fdc6e0fe2a", func := "augur/augurlaw01.FixRises", spec := "fixRises", recurses := true, named := ["augur/fix.terms"], apart := false, laid := [("augur/fix.terms", laid_augur_fix_terms)] }
def FixRisesSaid : Prop := fixRisesRow.holds Tryd.pinned (OpenSpec.ofChange fixRisesSpec)

/-- ITS FALSE NEIGHBOUR: 'it returns false'. Refute it at one input. -/
def fixRisesWrong : ChangeSpec := { name := "fixRises", fn := fun _ => fun
  | [d1, d2, d3] => { results := [.lit (.bool false)], args := [d1, d2, d3] }
  | _ => none }
def FixRisesWrongFalsely : Prop := fixRisesRow.holds Tryd.pinned (OpenSpec.ofChange fixRisesWrong)

/-- 'augurlaw01.FixCurves': WHATEVER THE INPUT: true; the input reads as it did. -/
def fixCurvesSpec : ChangeSpec := { name := "fixCurves", fn := fun _ => fun
  | [d] => { results := [.lit (.bool true)], args := [d] }
  | _ => none }
def fixCurvesRow : OpenClaim := { program := "ytkkmgjgpnjkhnaadoor", sum := "a80f1716eefb91b73eac842354915160f124be77dd121defa8f395fdc6e0fe2a", func := "augur/augurlaw01.FixCurves", spec := "fixCurves", recurses := true, named := ["augur/fix.terms"], apart := false, laid := [("augur/fix.terms", laid_augur_fix_terms)] }
def FixCurvesSaid : Prop := fixCurvesRow.holds Tryd.pinned (OpenSpec.ofChange fixCurvesSpec)

/-- ITS FALSE NEIGHBOUR: 'it returns false'. Refute it at one input. -/
def fixCurvesWrong : ChangeSpec := { name := "fixCurves", fn := fun _ => fun
  | [d] => { results := [.lit (.bool false)], args := [d] }
  | _ => none }
def FixCurvesWrongFalsely : Prop := fixCurvesRow.holds Tryd.pinned (OpenSpec.ofChange fixCurvesWrong)

/-- 'augurlaw01.FixMirror': WHATEVER THE INPUT: true; the input reads as it did. -/
def fixMirrorSpec : ChangeSpec := { name := "fixMirror", fn := fun _ => fun
  | [d1, d2] => { results := [.lit (.bool true)], args := [d1, d2] }
  | _ => none }
def fixMirrorRow : OpenClaim := { program := "ytkkmgjgpnjkhnaadoor", sum := "a80f1716eefb91b73eac842354915160f124be77dd121defa8f395fdc6e0fe2a", func := "augur/augurlaw01.FixMirror", spec := "fixMirror", recurses := true, named := ["augur/fix.terms"], apart := false, laid := [("augur/fix.terms", laid_augur_fix_terms)] }
def FixMirrorSaid : Prop := fixMirrorRow.holds Tryd.pinned (OpenSpec.ofChange fixMirrorSpec)

/-- ITS FALSE NEIGHBOUR: 'it returns false'. Refute it at one input. -/
def fixMirrorWrong : ChangeSpec := { name := "fixMirror", fn := fun _ => fun
  | [d1, d2] => { results := [.lit (.bool false)], args := [d1, d2] }
  | _ => none }
def FixMirrorWrongFalsely : Prop := fixMirrorRow.holds Tryd.pinned (OpenSpec.ofChange fixMirrorWrong)

/- THE SECOND FORM. 'bulk': how many values and letters a reading holds, each counted each time it is reached (what is shared counts as often as it is met; a slice's spare places count too). A statement '..UptoSaid' is the law's where the arguments, and the package variables that the reading takes, are together of bulk at most 1048576: NARROWER than '..Said'. Prove '..Said' where nothing that the law and all that it calls make is longer than what came in: it says more and counts as full. Else prove '..UptoSaid'. A law counts once. -/
mutual
def uptoBulk {H : Type} : DataW H → Nat
  | .lit (.string bytes) => bytes.length + 1
  | .lit _ => 1
  | .nil => 1
  | .ptr d => uptoBulk d + 1
  | .slice elems spare => uptoBulkAll elems + uptoBulkAll spare + 1
  | .agg parts => uptoBulkAll parts + 1
  | .iface _ d => uptoBulk d + 1
  | .map entries => uptoBulkEntries entries + 1
  | .held _ => 1
def uptoBulkAll {H : Type} : List (DataW H) → Nat
  | [] => 0
  | d :: r => uptoBulk d + uptoBulkAll r
def uptoBulkEntries {H : Type} : List (Lit × DataW H) → Nat
  | [] => 0
  | x :: r => uptoBulkEntry x + uptoBulkEntries r
def uptoBulkEntry {H : Type} : Lit × DataW H → Nat
  | (.string bytes, d) => bytes.length + uptoBulk d + 1
  | (_, d) => uptoBulk d + 1
 end
def uptoSmall : (H : Type) → List (DataW H) → Bool := fun _ ds => decide (uptoBulkAll ds ≤ 1048576)
def OpenSpec.upto (s : _root_.Go.ChangeSpec) : _root_.Go.OpenSpec := { _root_.Go.OpenSpec.ofChange s with cond := some uptoSmall }

/-- 'augurlaw01.FixHalves', WHERE WHAT IT READS IS OF BULK AT MOST 1048576: true; the input reads as it did. -/
def fixHalvesUptoRow : OpenClaim := { program := "ytkkmgjgpnjkhnaadoor", sum := "a80f1716eefb91b73eac842354915160f124be77dd121defa8f395fdc6e0fe2a", func := "augur/augurlaw01.FixHalves", spec := "fixHalves", named := ["augur/fix.terms"], apart := false, laid := [("augur/fix.terms", laid_augur_fix_terms)], narrowed := true }
def FixHalvesUptoSaid : Prop := fixHalvesUptoRow.holds Tryd.pinned (OpenSpec.upto fixHalvesSpec)

/-- 'augurlaw01.FixRises', WHERE WHAT IT READS IS OF BULK AT MOST 1048576: true; the input reads as it did. -/
def fixRisesUptoRow : OpenClaim := { program := "ytkkmgjgpnjkhnaadoor", sum := "a80f1716eefb91b73eac842354915160f124be77dd121defa8f395fdc6e0fe2a", func := "augur/augurlaw01.FixRises", spec := "fixRises", recurses := true, named := ["augur/fix.terms"], apart := false, laid := [("augur/fix.terms", laid_augur_fix_terms)], narrowed := true }
def FixRisesUptoSaid : Prop := fixRisesUptoRow.holds Tryd.pinned (OpenSpec.upto fixRisesSpec)

/-- 'augurlaw01.FixCurves', WHERE WHAT IT READS IS OF BULK AT MOST 1048576: true; the input reads as it did. -/
def fixCurvesUptoRow : OpenClaim := { program := "ytkkmgjgpnjkhnaadoor", sum := "a80f1716eefb91b73eac842354915160f124be77dd121defa8f395fdc6e0fe2a", func := "augur/augurlaw01.FixCurves", spec := "fixCurves", recurses := true, named := ["augur/fix.terms"], apart := false, laid := [("augur/fix.terms", laid_augur_fix_terms)], narrowed := true }
def FixCurvesUptoSaid : Prop := fixCurvesUptoRow.holds Tryd.pinned (OpenSpec.upto fixCurvesSpec)

/-- 'augurlaw01.FixMirror', WHERE WHAT IT READS IS OF BULK AT MOST 1048576: true; the input reads as it did. -/
def fixMirrorUptoRow : OpenClaim := { program := "ytkkmgjgpnjkhnaadoor", sum := "a80f1716eefb91b73eac842354915160f124be77dd121defa8f395fdc6e0fe2a", func := "augur/augurlaw01.FixMirror", spec := "fixMirror", recurses := true, named := ["augur/fix.terms"], apart := false, laid := [("augur/fix.terms", laid_augur_fix_terms)], narrowed := true }
def FixMirrorUptoSaid : Prop := fixMirrorUptoRow.holds Tryd.pinned (OpenSpec.upto fixMirrorSpec)

end Rows
end Go.Proofs.YtkkmgjgpnjkhnaaDoor
