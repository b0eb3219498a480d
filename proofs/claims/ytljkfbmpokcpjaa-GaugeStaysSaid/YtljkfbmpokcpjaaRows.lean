/-
  No cell of these rows narrows 'for every input' (looked for: loops, veiled, ifaces, maps, wideKeys, modest, calm, conditions, laid).
  DERIVED. THE GIVEN ROWS OF THIS SEAT. 7 by the template 'for every input the law returns true; each argument reads behind the call as it read before'; 0 by the template 'total and deterministic' (their statements: YtljkfbmpokcpjaaTotals.lean).
  GIVEN WITH THE SEED: the statements are not yours to turn. If you find one false, say at which input.
  Laid BY PROGRAM, IN A SANDBOX (cutbox-rows.mjs): the forced cells as the released guide's own fill.sh prints them over the translation 60d8195f91e9a73f… (all of the seat's roots in one cut). By AI agents, Wed Nov 11 2026. No macro, syntax, notation, axiom, sorry.
-/
import Derived.Test.YtljkfbmpokcpjaaChecked
import GoSem.Claim
import GoSem.ClaimJoined
import GoSem.ClaimMapViews
import Derived.JoinedTies
import Derived.KernelRfl
namespace Go.Proofs.Ytljkfbmpokcpjaa
/- THE CELL 'sum', in the pinned program and in every row, IS THE sha256 OF THE DUMP (.gsa) THAT YtljkfbmpokcpjaaProg.lean LOADS. Nothing in Lean hashes anything: it is a label: what it is worth is what the hold of that sum in a sandbox is worth. -/
noncomputable def Try.pinned : Pinned := { name := "ytljkfbmpokcpjaa", sum := "60d8195f91e9a73fed9d1ecbc1cf777234b3a0ba69d1b60cec27bb684793fb29", checked := Try.checked }
namespace Rows
def none {H : Type} : Left H := { results := [], args := [] }

/-- 'augurlaw17.GaugeChecks': WHATEVER THE INPUT: true; the input reads as it did. -/
def gaugeChecksSpec : ChangeSpec := { name := "gaugeChecks", fn := fun _ => fun
  | [d] => { results := [.lit (.bool true)], args := [d] }
  | _ => none }
def gaugeChecksRow : OpenClaim := { program := "ytljkfbmpokcpjaa", sum := "60d8195f91e9a73fed9d1ecbc1cf777234b3a0ba69d1b60cec27bb684793fb29", func := "augur/augurlaw17.GaugeChecks", spec := "gaugeChecks", apart := false }
def GaugeChecksSaid : Prop := gaugeChecksRow.holds Try.pinned (OpenSpec.ofChange gaugeChecksSpec)

/-- ITS FALSE NEIGHBOUR: 'it returns false'. Refute it at one input. -/
def gaugeChecksWrong : ChangeSpec := { name := "gaugeChecks", fn := fun _ => fun
  | [d] => { results := [.lit (.bool false)], args := [d] }
  | _ => none }
def GaugeChecksWrongFalsely : Prop := gaugeChecksRow.holds Try.pinned (OpenSpec.ofChange gaugeChecksWrong)

/-- 'augurlaw17.GaugeNews': WHATEVER THE INPUT: true; the input reads as it did. -/
def gaugeNewsSpec : ChangeSpec := { name := "gaugeNews", fn := fun _ => fun
  | [d] => { results := [.lit (.bool true)], args := [d] }
  | _ => none }
def gaugeNewsRow : OpenClaim := { program := "ytljkfbmpokcpjaa", sum := "60d8195f91e9a73fed9d1ecbc1cf777234b3a0ba69d1b60cec27bb684793fb29", func := "augur/augurlaw17.GaugeNews", spec := "gaugeNews", apart := false }
def GaugeNewsSaid : Prop := gaugeNewsRow.holds Try.pinned (OpenSpec.ofChange gaugeNewsSpec)

/-- ITS FALSE NEIGHBOUR: 'it returns false'. Refute it at one input. -/
def gaugeNewsWrong : ChangeSpec := { name := "gaugeNews", fn := fun _ => fun
  | [d] => { results := [.lit (.bool false)], args := [d] }
  | _ => none }
def GaugeNewsWrongFalsely : Prop := gaugeNewsRow.holds Try.pinned (OpenSpec.ofChange gaugeNewsWrong)

/-- 'augurlaw17.GaugeNexts': WHATEVER THE INPUT: true; the input reads as it did. -/
def gaugeNextsSpec : ChangeSpec := { name := "gaugeNexts", fn := fun _ => fun
  | [d1, d2, d3] => { results := [.lit (.bool true)], args := [d1, d2, d3] }
  | _ => none }
def gaugeNextsRow : OpenClaim := { program := "ytljkfbmpokcpjaa", sum := "60d8195f91e9a73fed9d1ecbc1cf777234b3a0ba69d1b60cec27bb684793fb29", func := "augur/augurlaw17.GaugeNexts", spec := "gaugeNexts", apart := false }
def GaugeNextsSaid : Prop := gaugeNextsRow.holds Try.pinned (OpenSpec.ofChange gaugeNextsSpec)

/-- ITS FALSE NEIGHBOUR: 'it returns false'. Refute it at one input. -/
def gaugeNextsWrong : ChangeSpec := { name := "gaugeNexts", fn := fun _ => fun
  | [d1, d2, d3] => { results := [.lit (.bool false)], args := [d1, d2, d3] }
  | _ => none }
def GaugeNextsWrongFalsely : Prop := gaugeNextsRow.holds Try.pinned (OpenSpec.ofChange gaugeNextsWrong)

/-- 'augurlaw17.GaugeFalls': WHATEVER THE INPUT: true; the input reads as it did. -/
def gaugeFallsSpec : ChangeSpec := { name := "gaugeFalls", fn := fun _ => fun
  | [d1, d2] => { results := [.lit (.bool true)], args := [d1, d2] }
  | _ => none }
def gaugeFallsRow : OpenClaim := { program := "ytljkfbmpokcpjaa", sum := "60d8195f91e9a73fed9d1ecbc1cf777234b3a0ba69d1b60cec27bb684793fb29", func := "augur/augurlaw17.GaugeFalls", spec := "gaugeFalls", apart := false }
def GaugeFallsSaid : Prop := gaugeFallsRow.holds Try.pinned (OpenSpec.ofChange gaugeFallsSpec)

/-- ITS FALSE NEIGHBOUR: 'it returns false'. Refute it at one input. -/
def gaugeFallsWrong : ChangeSpec := { name := "gaugeFalls", fn := fun _ => fun
  | [d1, d2] => { results := [.lit (.bool false)], args := [d1, d2] }
  | _ => none }
def GaugeFallsWrongFalsely : Prop := gaugeFallsRow.holds Try.pinned (OpenSpec.ofChange gaugeFallsWrong)

/-- 'augurlaw17.GaugeGrows': WHATEVER THE INPUT: true; the input reads as it did. -/
def gaugeGrowsSpec : ChangeSpec := { name := "gaugeGrows", fn := fun _ => fun
  | [d1, d2] => { results := [.lit (.bool true)], args := [d1, d2] }
  | _ => none }
def gaugeGrowsRow : OpenClaim := { program := "ytljkfbmpokcpjaa", sum := "60d8195f91e9a73fed9d1ecbc1cf777234b3a0ba69d1b60cec27bb684793fb29", func := "augur/augurlaw17.GaugeGrows", spec := "gaugeGrows", apart := false }
def GaugeGrowsSaid : Prop := gaugeGrowsRow.holds Try.pinned (OpenSpec.ofChange gaugeGrowsSpec)

/-- ITS FALSE NEIGHBOUR: 'it returns false'. Refute it at one input. -/
def gaugeGrowsWrong : ChangeSpec := { name := "gaugeGrows", fn := fun _ => fun
  | [d1, d2] => { results := [.lit (.bool false)], args := [d1, d2] }
  | _ => none }
def GaugeGrowsWrongFalsely : Prop := gaugeGrowsRow.holds Try.pinned (OpenSpec.ofChange gaugeGrowsWrong)

/-- 'augurlaw17.GaugeStays': WHATEVER THE INPUT: true; the input reads as it did. -/
def gaugeStaysSpec : ChangeSpec := { name := "gaugeStays", fn := fun _ => fun
  | [d1, d2] => { results := [.lit (.bool true)], args := [d1, d2] }
  | _ => none }
def gaugeStaysRow : OpenClaim := { program := "ytljkfbmpokcpjaa", sum := "60d8195f91e9a73fed9d1ecbc1cf777234b3a0ba69d1b60cec27bb684793fb29", func := "augur/augurlaw17.GaugeStays", spec := "gaugeStays", apart := false }
def GaugeStaysSaid : Prop := gaugeStaysRow.holds Try.pinned (OpenSpec.ofChange gaugeStaysSpec)

/-- ITS FALSE NEIGHBOUR: 'it returns false'. Refute it at one input. -/
def gaugeStaysWrong : ChangeSpec := { name := "gaugeStays", fn := fun _ => fun
  | [d1, d2] => { results := [.lit (.bool false)], args := [d1, d2] }
  | _ => none }
def GaugeStaysWrongFalsely : Prop := gaugeStaysRow.holds Try.pinned (OpenSpec.ofChange gaugeStaysWrong)

/-- 'augurtop.Names': WHATEVER THE INPUT: true; the input reads as it did. -/
def namesSpec : ChangeSpec := { name := "names", fn := fun _ => fun
  | [] => { results := [.lit (.bool true)], args := [] }
  | _ => none }
def namesRow : OpenClaim := { program := "ytljkfbmpokcpjaa", sum := "60d8195f91e9a73fed9d1ecbc1cf777234b3a0ba69d1b60cec27bb684793fb29", func := "augur/augurtop.Names", spec := "names", apart := false }
def NamesSaid : Prop := namesRow.holds Try.pinned (OpenSpec.ofChange namesSpec)

/-- ITS FALSE NEIGHBOUR: 'it returns false'. Refute it at one input. -/
def namesWrong : ChangeSpec := { name := "names", fn := fun _ => fun
  | [] => { results := [.lit (.bool false)], args := [] }
  | _ => none }
def NamesWrongFalsely : Prop := namesRow.holds Try.pinned (OpenSpec.ofChange namesWrong)

/- THE SECOND FORM. 'bulk': how many values and letters a reading holds, each counted each time it is reached (what is shared counts as often as it is met; a slice's spare places count too). A statement '..UptoSaid' is the law's where the arguments, and the package variables that the reading takes, are together of bulk at most 1048576: NARROWER than '..Said'. Prove '..Said' where nothing that the law and all that it calls make is longer than what came in: it says more and counts as full. Else prove '..UptoSaid'. A law counts once. -/
mutual
def uptoBulk {H : Type} : DataW H → Nat
  | .lit (.string bytes) => bytes.length + 1
  | .lit _ => 1
  | .nil => 1
  | .ptr d => uptoBulk d + 1
  | .slice elems spare => uptoBulkAll elems + uptoBulkAll spare + 1
  | .agg parts => uptoBulkAll parts + 1
  | .iface _ d => uptoBulk d + 1
  | .map entries => uptoBulkEntries entries + 1
  | .held _ => 1
def uptoBulkAll {H : Type} : List (DataW H) → Nat
  | [] => 0
  | d :: r => uptoBulk d + uptoBulkAll r
def uptoBulkEntries {H : Type} : List (Lit × DataW H) → Nat
  | [] => 0
  | x :: r => uptoBulkEntry x + uptoBulkEntries r
def uptoBulkEntry {H : Type} : Lit × DataW H → Nat
  | (.string bytes, d) => bytes.length + uptoBulk d + 1
  | (_, d) => uptoBulk d + 1
 end
def uptoSmall : (H : Type) → List (DataW H) → Bool := fun _ ds => decide (uptoBulkAll ds ≤ 1048576)
def OpenSpec.upto (s : _root_.Go.ChangeSpec) : _root_.Go.OpenSpec := { _root_.Go.OpenSpec.ofChange s with cond := some uptoSmall }

/-- 'augurlaw17.GaugeChecks', WHERE WHAT IT READS IS OF BULK AT MOST 1048576: true; the input reads as it did. -/
def gaugeChecksUptoRow : OpenClaim := { program := "ytljkfbmpokcpjaa", sum := "60d8195f91e9a73fed9d1ecbc1cf777234b3a0ba69d1b60cec27bb684793fb29", func := "augur/augurlaw17.GaugeChecks", spec := "gaugeChecks", apart := false, narrowed := true }
def GaugeChecksUptoSaid : Prop := gaugeChecksUptoRow.holds Try.pinned (OpenSpec.upto gaugeChecksSpec)

/-- 'augurlaw17.GaugeNews', WHERE WHAT IT READS IS OF BULK AT MOST 1048576: true; the input reads as it did. -/
def gaugeNewsUptoRow : OpenClaim := { program := "ytljkfbmpokcpjaa", sum := "60d8195f91e9a73fed9d1ecbc1cf777234b3a0ba69d1b60cec27bb684793fb29", func := "augur/augurlaw17.GaugeNews", spec := "gaugeNews", apart := false, narrowed := true }
def GaugeNewsUptoSaid : Prop := gaugeNewsUptoRow.holds Try.pinned (OpenSpec.upto gaugeNewsSpec)

/-- 'augurlaw17.GaugeNexts', WHERE WHAT IT READS IS OF BULK AT MOST 1048576: true; the input reads as it did. -/
def gaugeNextsUptoRow : OpenClaim := { program := "ytljkfbmpokcpjaa", sum := "60d8195f91e9a73fed9d1ecbc1cf777234b3a0ba69d1b60cec27bb684793fb29", func := "augur/augurlaw17.GaugeNexts", spec := "gaugeNexts", apart := false, narrowed := true }
def GaugeNextsUptoSaid : Prop := gaugeNextsUptoRow.holds Try.pinned (OpenSpec.upto gaugeNextsSpec)

/-- 'augurlaw17.GaugeFalls', WHERE WHAT IT READS IS OF BULK AT MOST 1048576: true; the input reads as it did. -/
def gaugeFallsUptoRow : OpenClaim := { program := "ytljkfbmpokcpjaa", sum := "60d8195f91e9a73fed9d1ecbc1cf777234b3a0ba69d1b60cec27bb684793fb29", func := "augur/augurlaw17.GaugeFalls", spec := "gaugeFalls", apart := false, narrowed := true }
def GaugeFallsUptoSaid : Prop := gaugeFallsUptoRow.holds Try.pinned (OpenSpec.upto gaugeFallsSpec)

/-- 'augurlaw17.GaugeGrows', WHERE WHAT IT READS IS OF BULK AT MOST 1048576: true; the input reads as it did. -/
def gaugeGrowsUptoRow : OpenClaim := { program := "ytljkfbmpokcpjaa", sum := "60d8195f91e9a73fed9d1ecbc1cf777234b3a0ba69d1b60cec27bb684793fb29", func := "augur/augurlaw17.GaugeGrows", spec := "gaugeGrows", apart := false, narrowed := true }
def GaugeGrowsUptoSaid : Prop := gaugeGrowsUptoRow.holds Try.pinned (OpenSpec.upto gaugeGrowsSpec)

/-- 'augurlaw17.GaugeStays', WHERE WHAT IT READS IS OF BULK AT MOST 1048576: true; the input reads as it did. -/
def gaugeStaysUptoRow : OpenClaim := { program := "ytljkfbmpokcpjaa", sum := "60d8195f91e9a73fed9d1ecbc1cf777234b3a0ba69d1b60cec27bb684793fb29", func := "augur/augurlaw17.GaugeStays", spec := "gaugeStays", apart := false, narrowed := true }
def GaugeStaysUptoSaid : Prop := gaugeStaysUptoRow.holds Try.pinned (OpenSpec.upto gaugeStaysSpec)

/-- 'augurtop.Names', WHERE WHAT IT READS IS OF BULK AT MOST 1048576: true; the input reads as it did. -/
def namesUptoRow : OpenClaim := { program := "ytljkfbmpokcpjaa", sum := "60d8195f91e9a73fed9d1ecbc1cf777234b3a0ba69d1b60cec27bb684793fb29", func := "augur/augurtop.Names", spec := "names", apart := false, narrowed := true }
def NamesUptoSaid : Prop := namesUptoRow.holds Try.pinned (OpenSpec.upto namesSpec)

end Rows
end Go.Proofs.Ytljkfbmpokcpjaa
