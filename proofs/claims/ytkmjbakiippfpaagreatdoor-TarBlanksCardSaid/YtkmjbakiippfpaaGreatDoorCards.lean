/-
  DERIVED. GIVEN WITH THE SEED: THE CARDS: each row of YtkmjbakiippfpaaGreatDoorRows.lean that lists a variable, with what it lists TIED to the program's text (the seventh form; the later family's looks); each row that meets fmt, with fmt's text TOLD by the authors' own Lean function (tested against real Go, not proved from fmt's source: count such statements apart). THE CARD IS WHAT COUNTS. Prove the row's statement (the work); the ties are given (YtkmjbakiippfpaaGreatDoorTie.lean); close each card by the builder's one call (the guide's Derived/Test/ToyasCard.lean, 'card_holds'). Laid BY PROGRAM, IN A SANDBOX (cutbox-door.mjs). By AI agents, Wed Nov 11 2026. No macro, syntax, notation, axiom, sorry.
-/
import Derived.Test.YtkmjbakiippfpaaGreatDoorRows
import GoSem.ClaimSeven
namespace Go.Proofs.YtkmjbakiippfpaaGreatDoor
namespace Rows

/-- THE TIED CARD OF 'hamperlaw19.TarBack'. -/
def tarBackCard : Claim7 := { stood := { row := tarBackRow, standIns := [], harness := (true, "dc9e2d57f668bc75558580ffe999a7154d5205b1512efa81e1672f0ee93cf308"), looks := true }, kinds := [], alts := [], laidByText := true, laidKinds := [.data, .data, .data, .data, .sentinel, .sentinel, .pinned], laidTests := true, laidLooks := .later }
def TarBackCardSaid : Prop := Claim7.holds Tryz.pinned (.plain (OpenSpec.ofChange tarBackSpec)) tarBackCard

/-- THE TIED CARD OF 'hamperlaw19.TarBlanks'. -/
def tarBlanksCard : Claim7 := { stood := { row := tarBlanksRow, standIns := [], harness := (true, "dc9e2d57f668bc75558580ffe999a7154d5205b1512efa81e1672f0ee93cf308"), looks := true }, kinds := [], alts := [], laidByText := true, laidKinds := [.data, .data, .data, .data, .sentinel, .sentinel, .pinned], laidTests := true, laidLooks := .later }
def TarBlanksCardSaid : Prop := Claim7.holds Tryz.pinned (.plain (OpenSpec.ofChange tarBlanksSpec)) tarBlanksCard

/-- THE SECOND FORM's CARD OF 'hamperlaw19.TarBack'. -/
def tarBackUptoCard : Claim7 := { stood := { row := tarBackUptoRow, standIns := [], harness := (true, "dc9e2d57f668bc75558580ffe999a7154d5205b1512efa81e1672f0ee93cf308"), looks := true }, kinds := [], alts := [], laidByText := true, laidKinds := [.data, .data, .data, .data, .sentinel, .sentinel, .pinned], laidTests := true, laidLooks := .later }
def TarBackUptoCardSaid : Prop := Claim7.holds Tryz.pinned (.plain (OpenSpec.upto tarBackSpec)) tarBackUptoCard

/-- THE SECOND FORM's CARD OF 'hamperlaw19.TarBlanks'. -/
def tarBlanksUptoCard : Claim7 := { stood := { row := tarBlanksUptoRow, standIns := [], harness := (true, "dc9e2d57f668bc75558580ffe999a7154d5205b1512efa81e1672f0ee93cf308"), looks := true }, kinds := [], alts := [], laidByText := true, laidKinds := [.data, .data, .data, .data, .sentinel, .sentinel, .pinned], laidTests := true, laidLooks := .later }
def TarBlanksUptoCardSaid : Prop := Claim7.holds Tryz.pinned (.plain (OpenSpec.upto tarBlanksSpec)) tarBlanksUptoCard
end Rows
end Go.Proofs.YtkmjbakiippfpaaGreatDoor
