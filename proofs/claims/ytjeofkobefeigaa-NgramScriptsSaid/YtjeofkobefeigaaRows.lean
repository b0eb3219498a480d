/-
  No cell of these rows narrows 'for every input' (looked for: loops, veiled, ifaces, maps, wideKeys, modest, calm, conditions, laid).
  DERIVED. THE GIVEN ROWS OF THIS SEAT. 8 by the template 'for every input the law returns true; each argument reads behind the call as it read before'; 0 by the template 'total and deterministic' (their statements: YtjeofkobefeigaaTotals.lean).
  GIVEN WITH THE SEED: the statements are not yours to turn. If you find one false, say at which input.
  Laid BY PROGRAM, IN A SANDBOX (cutbox-rows.mjs): the forced cells as the released guide's own fill.sh prints them over the translation 38a8c2dfbdc085d5… (all of the seat's roots in one cut). By AI agents, Wed Nov 11 2026. No macro, syntax, notation, axiom, sorry.
-/
import Derived.Test.YtjeofkobefeigaaChecked
import GoSem.Claim
import GoSem.ClaimJoined
import GoSem.ClaimMapViews
import Derived.JoinedTies
import Derived.KernelRfl
namespace Go.Proofs.Ytjeofkobefeigaa
/- THE CELL 'sum', in the pinned program and in every row, IS THE sha256 OF THE DUMP (.gsa) THAT YtjeofkobefeigaaProg.lean LOADS. Nothing in Lean hashes anything: it is a label: what it is worth is what the hold of that sum in a sandbox is worth. -/
noncomputable def Try.pinned : Pinned := { name := "ytjeofkobefeigaa", sum := "38a8c2dfbdc085d557c9ce09b0616ca00bdf8434190d02d8cd12f6b1824abf36", checked := Try.checked }
namespace Rows
def none {H : Type} : Left H := { results := [], args := [] }

/-- 'augurlaw13.NgramTold': WHATEVER THE INPUT: true; the input reads as it did. -/
def ngramToldSpec : ChangeSpec := { name := "ngramTold", fn := fun _ => fun
  | [d1, d2] => { results := [.lit (.bool true)], args := [d1, d2] }
  | _ => none }
def ngramToldRow : OpenClaim := { program := "ytjeofkobefeigaa", sum := "38a8c2dfbdc085d557c9ce09b0616ca00bdf8434190d02d8cd12f6b1824abf36", func := "augur/augurlaw13.NgramTold", spec := "ngramTold", unfollowed := true, recurses := true, plainKeys := false, apart := false }
def NgramToldSaid : Prop := ngramToldRow.holds Try.pinned (OpenSpec.ofChange ngramToldSpec)

/-- ITS FALSE NEIGHBOUR: 'it returns false'. Refute it at one input. -/
def ngramToldWrong : ChangeSpec := { name := "ngramTold", fn := fun _ => fun
  | [d1, d2] => { results := [.lit (.bool false)], args := [d1, d2] }
  | _ => none }
def NgramToldWrongFalsely : Prop := ngramToldRow.holds Try.pinned (OpenSpec.ofChange ngramToldWrong)

/-- 'augurlaw13.NgramRaws': WHATEVER THE INPUT: true; the input reads as it did. -/
def ngramRawsSpec : ChangeSpec := { name := "ngramRaws", fn := fun _ => fun
  | [d1, d2, d3, d4] => { results := [.lit (.bool true)], args := [d1, d2, d3, d4] }
  | _ => none }
def ngramRawsRow : OpenClaim := { program := "ytjeofkobefeigaa", sum := "38a8c2dfbdc085d557c9ce09b0616ca00bdf8434190d02d8cd12f6b1824abf36", func := "augur/augurlaw13.NgramRaws", spec := "ngramRaws", unfollowed := true, recurses := true, plainKeys := false, apart := false }
def NgramRawsSaid : Prop := ngramRawsRow.holds Try.pinned (OpenSpec.ofChange ngramRawsSpec)

/-- ITS FALSE NEIGHBOUR: 'it returns false'. Refute it at one input. -/
def ngramRawsWrong : ChangeSpec := { name := "ngramRaws", fn := fun _ => fun
  | [d1, d2, d3, d4] => { results := [.lit (.bool false)], args := [d1, d2, d3, d4] }
  | _ => none }
def NgramRawsWrongFalsely : Prop := ngramRawsRow.holds Try.pinned (OpenSpec.ofChange ngramRawsWrong)

/-- 'augurlaw13.NgramMore': WHATEVER THE INPUT: true; the input reads as it did. -/
def ngramMoreSpec : ChangeSpec := { name := "ngramMore", fn := fun _ => fun
  | [d1, d2] => { results := [.lit (.bool true)], args := [d1, d2] }
  | _ => none }
def ngramMoreRow : OpenClaim := { program := "ytjeofkobefeigaa", sum := "38a8c2dfbdc085d557c9ce09b0616ca00bdf8434190d02d8cd12f6b1824abf36", func := "augur/augurlaw13.NgramMore", spec := "ngramMore", unfollowed := true, recurses := true, plainKeys := false, apart := false }
def NgramMoreSaid : Prop := ngramMoreRow.holds Try.pinned (OpenSpec.ofChange ngramMoreSpec)

/-- ITS FALSE NEIGHBOUR: 'it returns false'. Refute it at one input. -/
def ngramMoreWrong : ChangeSpec := { name := "ngramMore", fn := fun _ => fun
  | [d1, d2] => { results := [.lit (.bool false)], args := [d1, d2] }
  | _ => none }
def NgramMoreWrongFalsely : Prop := ngramMoreRow.holds Try.pinned (OpenSpec.ofChange ngramMoreWrong)

/-- 'augurlaw13.NgramAlike': WHATEVER THE INPUT: true; the input reads as it did. -/
def ngramAlikeSpec : ChangeSpec := { name := "ngramAlike", fn := fun _ => fun
  | [d1, d2, d3] => { results := [.lit (.bool true)], args := [d1, d2, d3] }
  | _ => none }
def ngramAlikeRow : OpenClaim := { program := "ytjeofkobefeigaa", sum := "38a8c2dfbdc085d557c9ce09b0616ca00bdf8434190d02d8cd12f6b1824abf36", func := "augur/augurlaw13.NgramAlike", spec := "ngramAlike", unfollowed := true, recurses := true, plainKeys := false, apart := false }
def NgramAlikeSaid : Prop := ngramAlikeRow.holds Try.pinned (OpenSpec.ofChange ngramAlikeSpec)

/-- ITS FALSE NEIGHBOUR: 'it returns false'. Refute it at one input. -/
def ngramAlikeWrong : ChangeSpec := { name := "ngramAlike", fn := fun _ => fun
  | [d1, d2, d3] => { results := [.lit (.bool false)], args := [d1, d2, d3] }
  | _ => none }
def NgramAlikeWrongFalsely : Prop := ngramAlikeRow.holds Try.pinned (OpenSpec.ofChange ngramAlikeWrong)

/-- 'augurlaw13.NgramScripts': WHATEVER THE INPUT: true; the input reads as it did. -/
def ngramScriptsSpec : ChangeSpec := { name := "ngramScripts", fn := fun _ => fun
  | [d] => { results := [.lit (.bool true)], args := [d] }
  | _ => none }
def ngramScriptsRow : OpenClaim := { program := "ytjeofkobefeigaa", sum := "38a8c2dfbdc085d557c9ce09b0616ca00bdf8434190d02d8cd12f6b1824abf36", func := "augur/augurlaw13.NgramScripts", spec := "ngramScripts", unfollowed := true, recurses := true, plainKeys := false, apart := false }
def NgramScriptsSaid : Prop := ngramScriptsRow.holds Try.pinned (OpenSpec.ofChange ngramScriptsSpec)

/-- ITS FALSE NEIGHBOUR: 'it returns false'. Refute it at one input. -/
def ngramScriptsWrong : ChangeSpec := { name := "ngramScripts", fn := fun _ => fun
  | [d] => { results := [.lit (.bool false)], args := [d] }
  | _ => none }
def NgramScriptsWrongFalsely : Prop := ngramScriptsRow.holds Try.pinned (OpenSpec.ofChange ngramScriptsWrong)

/-- 'augurlaw13.NgramLists': WHATEVER THE INPUT: true; the input reads as it did. -/
def ngramListsSpec : ChangeSpec := { name := "ngramLists", fn := fun _ => fun
  | [d1, d2, d3, d4, d5] => { results := [.lit (.bool true)], args := [d1, d2, d3, d4, d5] }
  | _ => none }
def ngramListsRow : OpenClaim := { program := "ytjeofkobefeigaa", sum := "38a8c2dfbdc085d557c9ce09b0616ca00bdf8434190d02d8cd12f6b1824abf36", func := "augur/augurlaw13.NgramLists", spec := "ngramLists", unfollowed := true, recurses := true, plainKeys := false, apart := false }
def NgramListsSaid : Prop := ngramListsRow.holds Try.pinned (OpenSpec.ofChange ngramListsSpec)

/-- ITS FALSE NEIGHBOUR: 'it returns false'. Refute it at one input. -/
def ngramListsWrong : ChangeSpec := { name := "ngramLists", fn := fun _ => fun
  | [d1, d2, d3, d4, d5] => { results := [.lit (.bool false)], args := [d1, d2, d3, d4, d5] }
  | _ => none }
def NgramListsWrongFalsely : Prop := ngramListsRow.holds Try.pinned (OpenSpec.ofChange ngramListsWrong)

/-- 'augurlaw13.NgramAgain': WHATEVER THE INPUT: true; the input reads as it did. -/
def ngramAgainSpec : ChangeSpec := { name := "ngramAgain", fn := fun _ => fun
  | [d1, d2, d3, d4] => { results := [.lit (.bool true)], args := [d1, d2, d3, d4] }
  | _ => none }
def ngramAgainRow : OpenClaim := { program := "ytjeofkobefeigaa", sum := "38a8c2dfbdc085d557c9ce09b0616ca00bdf8434190d02d8cd12f6b1824abf36", func := "augur/augurlaw13.NgramAgain", spec := "ngramAgain", unfollowed := true, recurses := true, plainKeys := false, apart := false }
def NgramAgainSaid : Prop := ngramAgainRow.holds Try.pinned (OpenSpec.ofChange ngramAgainSpec)

/-- ITS FALSE NEIGHBOUR: 'it returns false'. Refute it at one input. -/
def ngramAgainWrong : ChangeSpec := { name := "ngramAgain", fn := fun _ => fun
  | [d1, d2, d3, d4] => { results := [.lit (.bool false)], args := [d1, d2, d3, d4] }
  | _ => none }
def NgramAgainWrongFalsely : Prop := ngramAgainRow.holds Try.pinned (OpenSpec.ofChange ngramAgainWrong)

/-- 'augurlaw13.NgramCuts': WHATEVER THE INPUT: true; the input reads as it did. -/
def ngramCutsSpec : ChangeSpec := { name := "ngramCuts", fn := fun _ => fun
  | [d1, d2, d3, d4, d5] => { results := [.lit (.bool true)], args := [d1, d2, d3, d4, d5] }
  | _ => none }
def ngramCutsRow : OpenClaim := { program := "ytjeofkobefeigaa", sum := "38a8c2dfbdc085d557c9ce09b0616ca00bdf8434190d02d8cd12f6b1824abf36", func := "augur/augurlaw13.NgramCuts", spec := "ngramCuts", unfollowed := true, recurses := true, plainKeys := false, apart := false }
def NgramCutsSaid : Prop := ngramCutsRow.holds Try.pinned (OpenSpec.ofChange ngramCutsSpec)

/-- ITS FALSE NEIGHBOUR: 'it returns false'. Refute it at one input. -/
def ngramCutsWrong : ChangeSpec := { name := "ngramCuts", fn := fun _ => fun
  | [d1, d2, d3, d4, d5] => { results := [.lit (.bool false)], args := [d1, d2, d3, d4, d5] }
  | _ => none }
def NgramCutsWrongFalsely : Prop := ngramCutsRow.holds Try.pinned (OpenSpec.ofChange ngramCutsWrong)

/- THE SECOND FORM. 'bulk': how many values and letters a reading holds, each counted each time it is reached (what is shared counts as often as it is met; a slice's spare places count too). A statement '..UptoSaid' is the law's where the arguments, and the package variables that the reading takes, are together of bulk at most 1048576: NARROWER than '..Said'. Prove '..Said' where nothing that the law and all that it calls make is longer than what came in: it says more and counts as full. Else prove '..UptoSaid'. A law counts once. -/
mutual
def uptoBulk {H : Type} : DataW H → Nat
  | .lit (.string bytes) => bytes.length + 1
  | .lit _ => 1
  | .nil => 1
  | .ptr d => uptoBulk d + 1
  | .slice elems spare => uptoBulkAll elems + uptoBulkAll spare + 1
  | .agg parts => uptoBulkAll parts + 1
  | .iface _ d => uptoBulk d + 1
  | .map entries => uptoBulkEntries entries + 1
  | .held _ => 1
def uptoBulkAll {H : Type} : List (DataW H) → Nat
  | [] => 0
  | d :: r => uptoBulk d + uptoBulkAll r
def uptoBulkEntries {H : Type} : List (Lit × DataW H) → Nat
  | [] => 0
  | x :: r => uptoBulkEntry x + uptoBulkEntries r
def uptoBulkEntry {H : Type} : Lit × DataW H → Nat
  | (.string bytes, d) => bytes.length + uptoBulk d + 1
  | (_, d) => uptoBulk d + 1
 end
def uptoSmall : (H : Type) → List (DataW H) → Bool := fun _ ds => decide (uptoBulkAll ds ≤ 1048576)
def OpenSpec.upto (s : _root_.Go.ChangeSpec) : _root_.Go.OpenSpec := { _root_.Go.OpenSpec.ofChange s with cond := some uptoSmall }

/-- 'augurlaw13.NgramTold', WHERE WHAT IT READS IS OF BULK AT MOST 1048576: true; the input reads as it did. -/
def ngramToldUptoRow : OpenClaim := { program := "ytjeofkobefeigaa", sum := "38a8c2dfbdc085d557c9ce09b0616ca00bdf8434190d02d8cd12f6b1824abf36", func := "augur/augurlaw13.NgramTold", spec := "ngramTold", unfollowed := true, recurses := true, plainKeys := false, apart := false, narrowed := true }
def NgramToldUptoSaid : Prop := ngramToldUptoRow.holds Try.pinned (OpenSpec.upto ngramToldSpec)

/-- 'augurlaw13.NgramRaws', WHERE WHAT IT READS IS OF BULK AT MOST 1048576: true; the input reads as it did. -/
def ngramRawsUptoRow : OpenClaim := { program := "ytjeofkobefeigaa", sum := "38a8c2dfbdc085d557c9ce09b0616ca00bdf8434190d02d8cd12f6b1824abf36", func := "augur/augurlaw13.NgramRaws", spec := "ngramRaws", unfollowed := true, recurses := true, plainKeys := false, apart := false, narrowed := true }
def NgramRawsUptoSaid : Prop := ngramRawsUptoRow.holds Try.pinned (OpenSpec.upto ngramRawsSpec)

/-- 'augurlaw13.NgramMore', WHERE WHAT IT READS IS OF BULK AT MOST 1048576: true; the input reads as it did. -/
def ngramMoreUptoRow : OpenClaim := { program := "ytjeofkobefeigaa", sum := "38a8c2dfbdc085d557c9ce09b0616ca00bdf8434190d02d8cd12f6b1824abf36", func := "augur/augurlaw13.NgramMore", spec := "ngramMore", unfollowed := true, recurses := true, plainKeys := false, apart := false, narrowed := true }
def NgramMoreUptoSaid : Prop := ngramMoreUptoRow.holds Try.pinned (OpenSpec.upto ngramMoreSpec)

/-- 'augurlaw13.NgramAlike', WHERE WHAT IT READS IS OF BULK AT MOST 1048576: true; the input reads as it did. -/
def ngramAlikeUptoRow : OpenClaim := { program := "ytjeofkobefeigaa", sum := "38a8c2dfbdc085d557c9ce09b0616ca00bdf8434190d02d8cd12f6b1824abf36", func := "augur/augurlaw13.NgramAlike", spec := "ngramAlike", unfollowed := true, recurses := true, plainKeys := false, apart := false, narrowed := true }
def NgramAlikeUptoSaid : Prop := ngramAlikeUptoRow.holds Try.pinned (OpenSpec.upto ngramAlikeSpec)

/-- 'augurlaw13.NgramScripts', WHERE WHAT IT READS IS OF BULK AT MOST 1048576: true; the input reads as it did. -/
def ngramScriptsUptoRow : OpenClaim := { program := "ytjeofkobefeigaa", sum := "38a8c2dfbdc085d557c9ce09b0616ca00bdf8434190d02d8cd12f6b1824abf36", func := "augur/augurlaw13.NgramScripts", spec := "ngramScripts", unfollowed := true, recurses := true, plainKeys := false, apart := false, narrowed := true }
def NgramScriptsUptoSaid : Prop := ngramScriptsUptoRow.holds Try.pinned (OpenSpec.upto ngramScriptsSpec)

/-- 'augurlaw13.NgramLists', WHERE WHAT IT READS IS OF BULK AT MOST 1048576: true; the input reads as it did. -/
def ngramListsUptoRow : OpenClaim := { program := "ytjeofkobefeigaa", sum := "38a8c2dfbdc085d557c9ce09b0616ca00bdf8434190d02d8cd12f6b1824abf36", func := "augur/augurlaw13.NgramLists", spec := "ngramLists", unfollowed := true, recurses := true, plainKeys := false, apart := false, narrowed := true }
def NgramListsUptoSaid : Prop := ngramListsUptoRow.holds Try.pinned (OpenSpec.upto ngramListsSpec)

/-- 'augurlaw13.NgramAgain', WHERE WHAT IT READS IS OF BULK AT MOST 1048576: true; the input reads as it did. -/
def ngramAgainUptoRow : OpenClaim := { program := "ytjeofkobefeigaa", sum := "38a8c2dfbdc085d557c9ce09b0616ca00bdf8434190d02d8cd12f6b1824abf36", func := "augur/augurlaw13.NgramAgain", spec := "ngramAgain", unfollowed := true, recurses := true, plainKeys := false, apart := false, narrowed := true }
def NgramAgainUptoSaid : Prop := ngramAgainUptoRow.holds Try.pinned (OpenSpec.upto ngramAgainSpec)

/-- 'augurlaw13.NgramCuts', WHERE WHAT IT READS IS OF BULK AT MOST 1048576: true; the input reads as it did. -/
def ngramCutsUptoRow : OpenClaim := { program := "ytjeofkobefeigaa", sum := "38a8c2dfbdc085d557c9ce09b0616ca00bdf8434190d02d8cd12f6b1824abf36", func := "augur/augurlaw13.NgramCuts", spec := "ngramCuts", unfollowed := true, recurses := true, plainKeys := false, apart := false, narrowed := true }
def NgramCutsUptoSaid : Prop := ngramCutsUptoRow.holds Try.pinned (OpenSpec.upto ngramCutsSpec)

end Rows
end Go.Proofs.Ytjeofkobefeigaa
