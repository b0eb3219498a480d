/-
  DERIVED. GIVEN WITH THE SEED: THE CARDS: each row of YtkkmgjgpnjkhnaaDoorRows.lean that lists a variable, with what it lists TIED to the program's text (the seventh form; the later family's looks); each row that meets fmt, with fmt's text TOLD by the authors' own Lean function (tested against real Go, not proved from fmt's source: count such statements apart). THE CARD IS WHAT COUNTS. Prove the row's statement (the work); the ties are given (YtkkmgjgpnjkhnaaDoorTie.lean); close each card by the builder's one call (the guide's Derived/Test/ToyasCard.lean, 'card_holds'). Laid BY PROGRAM, IN A SANDBOX (cutbox-door.mjs). By AI agents, Wed Nov 11 2026. No macro, syntax, notation, axiom, sorry.
-/
import Derived.Test.YtkkmgjgpnjkhnaaDoorRows
import GoSem.ClaimSeven
namespace Go.Proofs.YtkkmgjgpnjkhnaaDoor
namespace Rows

/-- THE TIED CARD OF 'augurlaw01.FixHalves'. -/
def fixHalvesCard : Claim7 := { stood := { row := fixHalvesRow, standIns := [], harness := (true, "d8642d867b17e9e91ce5b20f366eb36aa7a9e9118c93e043ad560a05f64c90cc"), looks := false }, kinds := [], alts := [], laidByText := true, laidKinds := [.data], laidTests := true, laidLooks := .later }
def FixHalvesCardSaid : Prop := Claim7.holds Tryd.pinned (.plain (OpenSpec.ofChange fixHalvesSpec)) fixHalvesCard

/-- THE TIED CARD OF 'augurlaw01.FixRises'. -/
def fixRisesCard : Claim7 := { stood := { row := fixRisesRow, standIns := [], harness := (true, "d8642d867b17e9e91ce5b20f366eb36aa7a9e9118c93e043ad560a05f64c90cc"), looks := false }, kinds := [], alts := [], laidByText := true, laidKinds := [.data], laidTests := true, laidLooks := .later }
def FixRisesCardSaid : Prop := Claim7.holds Tryd.pinned (.plain (OpenSpec.ofChange fixRisesSpec)) fixRisesCard

/-- THE TIED CARD OF 'augurlaw01.FixCurves'. -/
def fixCurvesCard : Claim7 := { stood := { row := fixCurvesRow, standIns := [], harness := (true, "d8642d867b17e9e91ce5b20f366eb36aa7a9e9118c93e043ad560a05f64c90cc"), looks := false }, kinds := [], alts := [], laidByText := true, laidKinds := [.data], laidTests := true, laidLooks := .later }
def FixCurvesCardSaid : Prop := Claim7.holds Tryd.pinned (.plain (OpenSpec.ofChange fixCurvesSpec)) fixCurvesCard

/-- THE TIED CARD OF 'augurlaw01.FixMirror'. -/
def fixMirrorCard : Claim7 := { stood := { row := fixMirrorRow, standIns := [], harness := (true, "d8642d867b17e9e91ce5b20f366eb36aa7a9e9118c93e043ad560a05f64c90cc"), looks := false }, kinds := [], alts := [], laidByText := true, laidKinds := [.data], laidTests := true, laidLooks := .later }
def FixMirrorCardSaid : Prop := Claim7.holds Tryd.pinned (.plain (OpenSpec.ofChange fixMirrorSpec)) fixMirrorCard

/-- THE SECOND FORM's CARD OF 'augurlaw01.FixHalves'. -/
def fixHalvesUptoCard : Claim7 := { stood := { row := fixHalvesUptoRow, standIns := [], harness := (true, "d8642d867b17e9e91ce5b20f366eb36aa7a9e9118c93e043ad560a05f64c90cc"), looks := false }, kinds := [], alts := [], laidByText := true, laidKinds := [.data], laidTests := true, laidLooks := .later }
def FixHalvesUptoCardSaid : Prop := Claim7.holds Tryd.pinned (.plain (OpenSpec.upto fixHalvesSpec)) fixHalvesUptoCard

/-- THE SECOND FORM's CARD OF 'augurlaw01.FixRises'. -/
def fixRisesUptoCard : Claim7 := { stood := { row := fixRisesUptoRow, standIns := [], harness := (true, "d8642d867b17e9e91ce5b20f366eb36aa7a9e9118c93e043ad560a05f64c90cc"), looks := false }, kinds := [], alts := [], laidByText := true, laidKinds := [.data], laidTests := true, laidLooks := .later }
def FixRisesUptoCardSaid : Prop := Claim7.holds Tryd.pinned (.plain (OpenSpec.upto fixRisesSpec)) fixRisesUptoCard

/-- THE SECOND FORM's CARD OF 'augurlaw01.FixCurves'. -/
def fixCurvesUptoCard : Claim7 := { stood := { row := fixCurvesUptoRow, standIns := [], harness := (true, "d8642d867b17e9e91ce5b20f366eb36aa7a9e9118c93e043ad560a05f64c90cc"), looks := false }, kinds := [], alts := [], laidByText := true, laidKinds := [.data], laidTests := true, laidLooks := .later }
def FixCurvesUptoCardSaid : Prop := Claim7.holds Tryd.pinned (.plain (OpenSpec.upto fixCurvesSpec)) fixCurvesUptoCard

/-- THE SECOND FORM's CARD OF 'augurlaw01.FixMirror'. -/
def fixMirrorUptoCard : Claim7 := { stood := { row := fixMirrorUptoRow, standIns := [], harness := (true, "d8642d867b17e9e91ce5b20f366eb36aa7a9e9118c93e043ad560a05f64c90cc"), looks := false }, kinds := [], alts := [], laidByText := true, laidKinds := [.data], laidTests := true, laidLooks := .later }
def FixMirrorUptoCardSaid : Prop := Claim7.holds Tryd.pinned (.plain (OpenSpec.upto fixMirrorSpec)) fixMirrorUptoCard
end Rows
end Go.Proofs.YtkkmgjgpnjkhnaaDoor
