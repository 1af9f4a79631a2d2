/-
  DERIVED. GIVEN WITH THE SEED: THE CARDS: each row of YtmecigllpdeeoaaDoorRows.lean that lists a variable, with what it lists TIED to the program's text (the seventh form; the later family's looks); each row that meets fmt, with fmt's text TOLD by the authors' own Lean function (tested against real Go, not proved from fmt's source: count such statements apart). THE CARD IS WHAT COUNTS. Prove the row's statement (the work); the ties are given (YtmecigllpdeeoaaDoorTie.lean); close each card by the builder's one call (the guide's Derived/Test/ToyasCard.lean, 'card_holds'). Laid BY PROGRAM, IN A SANDBOX (cutbox-door.mjs). By AI agents, Wed Nov 11 2026. No macro, syntax, notation, axiom, sorry.
-/
import Derived.Test.YtmecigllpdeeoaaDoorRows
import GoSem.ClaimSeven
namespace Go.Proofs.YtmecigllpdeeoaaDoor
namespace Rows

/-- THE TIED CARD OF 'hamperlaw02.NumberOctals'. -/
def numberOctalsCard : Claim7 := { stood := { row := numberOctalsRow, standIns := [], harness := (true, "7a238339ce72f3de0f9a218041a112d6b8558ce0a5f0bb1f3153ff3ef1f18311"), looks := true }, kinds := [], alts := [], laidByText := true, laidKinds := [.data, .data, .data], laidTests := true, laidLooks := .later }
def NumberOctalsCardSaid : Prop := Claim7.holds Tryd.pinned (.plain (OpenSpec.ofChange numberOctalsSpec)) numberOctalsCard

/-- THE TIED CARD OF 'hamperlaw02.NumberDigits'. -/
def numberDigitsCard : Claim7 := { stood := { row := numberDigitsRow, standIns := [], harness := (true, "7a238339ce72f3de0f9a218041a112d6b8558ce0a5f0bb1f3153ff3ef1f18311"), looks := true }, kinds := [], alts := [], laidByText := true, laidKinds := [.data, .data, .data, .sentinel, .sentinel], laidTests := true, laidLooks := .later }
def NumberDigitsCardSaid : Prop := Claim7.holds Tryd.pinned (.plain (OpenSpec.ofChange numberDigitsSpec)) numberDigitsCard

/-- THE TIED CARD OF 'hamperlaw18.TreeProjects'. -/
def treeProjectsCard : Claim7 := { stood := { row := treeProjectsRow, standIns := [], harness := (true, "7a238339ce72f3de0f9a218041a112d6b8558ce0a5f0bb1f3153ff3ef1f18311"), looks := true }, kinds := [], alts := [], laidByText := true, laidKinds := [.data, .pinned], laidTests := true, laidLooks := .later }
def TreeProjectsCardSaid : Prop := Claim7.holds Tryd.pinned (.plain (OpenSpec.ofChange treeProjectsSpec)) treeProjectsCard

/-- THE TIED CARD OF 'hamperlaw02.NumberBack'. -/
def numberBackCard : Claim7 := { stood := { row := numberBackRow, standIns := [], harness := (true, "7a238339ce72f3de0f9a218041a112d6b8558ce0a5f0bb1f3153ff3ef1f18311"), looks := true }, kinds := [], alts := [], laidByText := true, laidKinds := [.data, .data, .data, .sentinel, .sentinel], laidTests := true, laidLooks := .later }
def NumberBackCardSaid : Prop := Claim7.holds Tryd.pinned (.plain (OpenSpec.ofChange numberBackSpec)) numberBackCard

/-- THE SECOND FORM's CARD OF 'hamperlaw02.NumberOctals'. -/
def numberOctalsUptoCard : Claim7 := { stood := { row := numberOctalsUptoRow, standIns := [], harness := (true, "7a238339ce72f3de0f9a218041a112d6b8558ce0a5f0bb1f3153ff3ef1f18311"), looks := true }, kinds := [], alts := [], laidByText := true, laidKinds := [.data, .data, .data], laidTests := true, laidLooks := .later }
def NumberOctalsUptoCardSaid : Prop := Claim7.holds Tryd.pinned (.plain (OpenSpec.upto numberOctalsSpec)) numberOctalsUptoCard

/-- THE SECOND FORM's CARD OF 'hamperlaw02.NumberDigits'. -/
def numberDigitsUptoCard : Claim7 := { stood := { row := numberDigitsUptoRow, standIns := [], harness := (true, "7a238339ce72f3de0f9a218041a112d6b8558ce0a5f0bb1f3153ff3ef1f18311"), looks := true }, kinds := [], alts := [], laidByText := true, laidKinds := [.data, .data, .data, .sentinel, .sentinel], laidTests := true, laidLooks := .later }
def NumberDigitsUptoCardSaid : Prop := Claim7.holds Tryd.pinned (.plain (OpenSpec.upto numberDigitsSpec)) numberDigitsUptoCard

/-- THE SECOND FORM's CARD OF 'hamperlaw18.TreeProjects'. -/
def treeProjectsUptoCard : Claim7 := { stood := { row := treeProjectsUptoRow, standIns := [], harness := (true, "7a238339ce72f3de0f9a218041a112d6b8558ce0a5f0bb1f3153ff3ef1f18311"), looks := true }, kinds := [], alts := [], laidByText := true, laidKinds := [.data, .pinned], laidTests := true, laidLooks := .later }
def TreeProjectsUptoCardSaid : Prop := Claim7.holds Tryd.pinned (.plain (OpenSpec.upto treeProjectsSpec)) treeProjectsUptoCard

/-- THE SECOND FORM's CARD OF 'hamperlaw02.NumberBack'. -/
def numberBackUptoCard : Claim7 := { stood := { row := numberBackUptoRow, standIns := [], harness := (true, "7a238339ce72f3de0f9a218041a112d6b8558ce0a5f0bb1f3153ff3ef1f18311"), looks := true }, kinds := [], alts := [], laidByText := true, laidKinds := [.data, .data, .data, .sentinel, .sentinel], laidTests := true, laidLooks := .later }
def NumberBackUptoCardSaid : Prop := Claim7.holds Tryd.pinned (.plain (OpenSpec.upto numberBackSpec)) numberBackUptoCard
end Rows
end Go.Proofs.YtmecigllpdeeoaaDoor
