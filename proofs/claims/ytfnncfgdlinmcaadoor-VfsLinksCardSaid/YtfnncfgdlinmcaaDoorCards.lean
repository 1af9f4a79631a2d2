/-
  DERIVED. GIVEN WITH THE SEED: THE CARDS: each row of YtfnncfgdlinmcaaDoorRows.lean that lists a variable, with what it lists TIED to the program's text (the seventh form; the later family's looks); each row that meets fmt, with fmt's text TOLD by the authors' own Lean function (tested against real Go, not proved from fmt's source: count such statements apart). THE CARD IS WHAT COUNTS. Prove the row's statement (the work); the ties are given (YtfnncfgdlinmcaaDoorTie.lean); close each card by the builder's one call (the guide's Derived/Test/ToyasCard.lean, 'card_holds'). Laid BY PROGRAM, IN A SANDBOX (cutbox-door.mjs). By AI agents, Wed Nov 11 2026. No macro, syntax, notation, axiom, sorry.
-/
import Derived.Test.YtfnncfgdlinmcaaDoorRows
import GoSem.ClaimSeven
namespace Go.Proofs.YtfnncfgdlinmcaaDoor
namespace Rows

/-- THE TIED CARD OF 'hamperlaw02.NumberOctals'. -/
def numberOctalsCard : Claim7 := { stood := { row := numberOctalsRow, standIns := [], harness := (true, "cc242329d7f83e94d2837ea2a97d94b9d4d320b1b532fd1b4b7ace5abe714e02"), looks := true }, kinds := [], alts := [], laidByText := true, laidKinds := [.data, .data, .data], laidTests := true, laidLooks := .later }
def NumberOctalsCardSaid : Prop := Claim7.holds Tryd.pinned (.plain (OpenSpec.ofChange numberOctalsSpec)) numberOctalsCard

/-- THE TIED CARD OF 'hamperlaw19.TarRecords'. -/
def tarRecordsCard : Claim7 := { stood := { row := tarRecordsRow, standIns := [], harness := (true, "cc242329d7f83e94d2837ea2a97d94b9d4d320b1b532fd1b4b7ace5abe714e02"), looks := true }, kinds := [], alts := [], laidByText := true, laidKinds := [.data, .data, .data, .sentinel, .sentinel], laidTests := true, laidLooks := .later }
def TarRecordsCardSaid : Prop := Claim7.holds Tryd.pinned (.plain (OpenSpec.ofChange tarRecordsSpec)) tarRecordsCard

/-- THE TIED CARD OF 'hamperlaw23.VfsLinks'. -/
def vfsLinksCard : Claim7 := { stood := { row := vfsLinksRow, standIns := [], harness := (true, "cc242329d7f83e94d2837ea2a97d94b9d4d320b1b532fd1b4b7ace5abe714e02"), looks := true }, kinds := [], alts := [], laidByText := true, laidKinds := [.data, .pinned], laidTests := true, laidLooks := .later }
def VfsLinksCardSaid : Prop := Claim7.holds Tryd.pinned (.plain (OpenSpec.ofChange vfsLinksSpec)) vfsLinksCard

/-- THE SECOND FORM's CARD OF 'hamperlaw02.NumberOctals'. -/
def numberOctalsUptoCard : Claim7 := { stood := { row := numberOctalsUptoRow, standIns := [], harness := (true, "cc242329d7f83e94d2837ea2a97d94b9d4d320b1b532fd1b4b7ace5abe714e02"), looks := true }, kinds := [], alts := [], laidByText := true, laidKinds := [.data, .data, .data], laidTests := true, laidLooks := .later }
def NumberOctalsUptoCardSaid : Prop := Claim7.holds Tryd.pinned (.plain (OpenSpec.upto numberOctalsSpec)) numberOctalsUptoCard

/-- THE SECOND FORM's CARD OF 'hamperlaw19.TarRecords'. -/
def tarRecordsUptoCard : Claim7 := { stood := { row := tarRecordsUptoRow, standIns := [], harness := (true, "cc242329d7f83e94d2837ea2a97d94b9d4d320b1b532fd1b4b7ace5abe714e02"), looks := true }, kinds := [], alts := [], laidByText := true, laidKinds := [.data, .data, .data, .sentinel, .sentinel], laidTests := true, laidLooks := .later }
def TarRecordsUptoCardSaid : Prop := Claim7.holds Tryd.pinned (.plain (OpenSpec.upto tarRecordsSpec)) tarRecordsUptoCard

/-- THE SECOND FORM's CARD OF 'hamperlaw23.VfsLinks'. -/
def vfsLinksUptoCard : Claim7 := { stood := { row := vfsLinksUptoRow, standIns := [], harness := (true, "cc242329d7f83e94d2837ea2a97d94b9d4d320b1b532fd1b4b7ace5abe714e02"), looks := true }, kinds := [], alts := [], laidByText := true, laidKinds := [.data, .pinned], laidTests := true, laidLooks := .later }
def VfsLinksUptoCardSaid : Prop := Claim7.holds Tryd.pinned (.plain (OpenSpec.upto vfsLinksSpec)) vfsLinksUptoCard
end Rows
end Go.Proofs.YtfnncfgdlinmcaaDoor
