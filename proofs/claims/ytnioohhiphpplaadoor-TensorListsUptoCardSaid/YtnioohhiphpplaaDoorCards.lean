/-
  DERIVED. GIVEN WITH THE SEED: THE CARDS: each row of YtnioohhiphpplaaDoorRows.lean that lists a variable, with what it lists TIED to the program's text (the seventh form; the later family's looks); each row that meets fmt, with fmt's text TOLD by the authors' own Lean function (tested against real Go, not proved from fmt's source: count such statements apart). THE CARD IS WHAT COUNTS. Prove the row's statement (the work); the ties are given (YtnioohhiphpplaaDoorTie.lean); close each card by the builder's one call (the guide's Derived/Test/ToyasCard.lean, 'card_holds'). Laid BY PROGRAM, IN A SANDBOX (cutbox-door.mjs). By AI agents, Wed Nov 11 2026. No macro, syntax, notation, axiom, sorry.
-/
import Derived.Test.YtnioohhiphpplaaDoorRows
import GoSem.ClaimSeven
namespace Go.Proofs.YtnioohhiphpplaaDoor
namespace Rows

/-- THE TIED CARD OF 'augurlaw03.TensorSoftmax'. -/
def tensorSoftmaxCard : Claim7 := { stood := { row := tensorSoftmaxRow, standIns := [], harness := (true, "95061b3a617245ca44d14716534bb3043df69f6a7f9bce153a84750dbbb9f77b"), looks := false }, kinds := [], alts := [], laidByText := true, laidKinds := [.data], laidTests := true, laidLooks := .later }
def TensorSoftmaxCardSaid : Prop := Claim7.holds Tryd.pinned (.plain (OpenSpec.ofChange tensorSoftmaxSpec)) tensorSoftmaxCard

/-- THE TIED CARD OF 'augurlaw03.TensorCalls'. -/
def tensorCallsCard : Claim7 := { stood := { row := tensorCallsRow, standIns := [], harness := (true, "95061b3a617245ca44d14716534bb3043df69f6a7f9bce153a84750dbbb9f77b"), looks := false }, kinds := [], alts := [], laidByText := true, laidKinds := [.data], laidTests := true, laidLooks := .later }
def TensorCallsCardSaid : Prop := Claim7.holds Tryd.pinned (.plain (OpenSpec.ofChange tensorCallsSpec)) tensorCallsCard

/-- THE TIED CARD OF 'augurlaw03.TensorLists'. -/
def tensorListsCard : Claim7 := { stood := { row := tensorListsRow, standIns := [], harness := (true, "95061b3a617245ca44d14716534bb3043df69f6a7f9bce153a84750dbbb9f77b"), looks := false }, kinds := [], alts := [], laidByText := true, laidKinds := [.data], laidTests := true, laidLooks := .later }
def TensorListsCardSaid : Prop := Claim7.holds Tryd.pinned (.plain (OpenSpec.ofChange tensorListsSpec)) tensorListsCard

/-- THE SECOND FORM's CARD OF 'augurlaw03.TensorSoftmax'. -/
def tensorSoftmaxUptoCard : Claim7 := { stood := { row := tensorSoftmaxUptoRow, standIns := [], harness := (true, "95061b3a617245ca44d14716534bb3043df69f6a7f9bce153a84750dbbb9f77b"), looks := false }, kinds := [], alts := [], laidByText := true, laidKinds := [.data], laidTests := true, laidLooks := .later }
def TensorSoftmaxUptoCardSaid : Prop := Claim7.holds Tryd.pinned (.plain (OpenSpec.upto tensorSoftmaxSpec)) tensorSoftmaxUptoCard

/-- THE SECOND FORM's CARD OF 'augurlaw03.TensorCalls'. -/
def tensorCallsUptoCard : Claim7 := { stood := { row := tensorCallsUptoRow, standIns := [], harness := (true, "95061b3a617245ca44d14716534bb3043df69f6a7f9bce153a84750dbbb9f77b"), looks := false }, kinds := [], alts := [], laidByText := true, laidKinds := [.data], laidTests := true, laidLooks := .later }
def TensorCallsUptoCardSaid : Prop := Claim7.holds Tryd.pinned (.plain (OpenSpec.upto tensorCallsSpec)) tensorCallsUptoCard

/-- THE SECOND FORM's CARD OF 'augurlaw03.TensorLists'. -/
def tensorListsUptoCard : Claim7 := { stood := { row := tensorListsUptoRow, standIns := [], harness := (true, "95061b3a617245ca44d14716534bb3043df69f6a7f9bce153a84750dbbb9f77b"), looks := false }, kinds := [], alts := [], laidByText := true, laidKinds := [.data], laidTests := true, laidLooks := .later }
def TensorListsUptoCardSaid : Prop := Claim7.holds Tryd.pinned (.plain (OpenSpec.upto tensorListsSpec)) tensorListsUptoCard
end Rows
end Go.Proofs.YtnioohhiphpplaaDoor
