/-
  DERIVED. GIVEN WITH THE SEED: THE CARDS: each row of YthcoafkjeljdgaaGreatDoorRows.lean that lists a variable, with what it lists TIED to the program's text (the seventh form; the later family's looks); each row that meets fmt, with fmt's text TOLD by the authors' own Lean function (tested against real Go, not proved from fmt's source: count such statements apart). THE CARD IS WHAT COUNTS. Prove the row's statement (the work); the ties are given (YthcoafkjeljdgaaGreatDoorTie.lean); close each card by the builder's one call (the guide's Derived/Test/ToyasCard.lean, 'card_holds'). Laid BY PROGRAM, IN A SANDBOX (cutbox-door.mjs). By AI agents, Wed Nov 11 2026. No macro, syntax, notation, axiom, sorry.
-/
import Derived.Test.YthcoafkjeljdgaaGreatDoorRows
import GoSem.ClaimSeven
namespace Go.Proofs.YthcoafkjeljdgaaGreatDoor
namespace Rows

/-- THE TIED CARD OF 'hamperlaw23.VfsNobody'. -/
def vfsNobodyCard : Claim7 := { stood := { row := vfsNobodyRow, standIns := [], harness := (true, "e22ae8004660d5ad7d9f1f666ed5f596a0a6d0aacc02e1684c4154091c94e4b2"), looks := true }, kinds := [], alts := [], laidByText := true, laidKinds := [.data, .pinned], laidTests := true, laidLooks := .later }
def VfsNobodyCardSaid : Prop := Claim7.holds Tryz.pinned (.plain (OpenSpec.ofChange vfsNobodySpec)) vfsNobodyCard

/-- THE SECOND FORM's CARD OF 'hamperlaw23.VfsNobody'. -/
def vfsNobodyUptoCard : Claim7 := { stood := { row := vfsNobodyUptoRow, standIns := [], harness := (true, "e22ae8004660d5ad7d9f1f666ed5f596a0a6d0aacc02e1684c4154091c94e4b2"), looks := true }, kinds := [], alts := [], laidByText := true, laidKinds := [.data, .pinned], laidTests := true, laidLooks := .later }
def VfsNobodyUptoCardSaid : Prop := Claim7.holds Tryz.pinned (.plain (OpenSpec.upto vfsNobodySpec)) vfsNobodyUptoCard
end Rows
end Go.Proofs.YthcoafkjeljdgaaGreatDoor
