/-
  DERIVED. GIVEN WITH THE SEED: THE CARDS: each row of YtageofdcloneoaaDoorRows.lean that lists a variable, with what it lists TIED to the program's text (the seventh form; the later family's looks); each row that meets fmt, with fmt's text TOLD by the authors' own Lean function (tested against real Go, not proved from fmt's source: count such statements apart). THE CARD IS WHAT COUNTS. Prove the row's statement (the work); the ties are given (YtageofdcloneoaaDoorTie.lean); close each card by the builder's one call (the guide's Derived/Test/ToyasCard.lean, 'card_holds'). Laid BY PROGRAM, IN A SANDBOX (cutbox-door.mjs). By AI agents, Wed Nov 11 2026. No macro, syntax, notation, axiom, sorry.
-/
import Derived.Test.YtageofdcloneoaaDoorRows
import GoSem.ClaimSeven
namespace Go.Proofs.YtageofdcloneoaaDoor
namespace Rows

/-- THE TIED CARD OF 'hamperlaw23.VfsReplays'. -/
def vfsReplaysCard : Claim7 := { stood := { row := vfsReplaysRow, standIns := [], harness := (true, "a3160f20b47cf45cd8bfe61ab6ce6f2ce343e84f7252526ca4119f890fd6afda"), looks := true }, kinds := [], alts := [], laidByText := true, laidKinds := [.data, .pinned], laidTests := true, laidLooks := .later }
def VfsReplaysCardSaid : Prop := Claim7.holds Tryd.pinned (.plain (OpenSpec.ofChange vfsReplaysSpec)) vfsReplaysCard

/-- THE TIED CARD OF 'hamperlaw23.VfsFaults'. -/
def vfsFaultsCard : Claim7 := { stood := { row := vfsFaultsRow, standIns := [], harness := (true, "a3160f20b47cf45cd8bfe61ab6ce6f2ce343e84f7252526ca4119f890fd6afda"), looks := true }, kinds := [], alts := [], laidByText := true, laidKinds := [.data, .pinned], laidTests := true, laidLooks := .later }
def VfsFaultsCardSaid : Prop := Claim7.holds Tryd.pinned (.plain (OpenSpec.ofChange vfsFaultsSpec)) vfsFaultsCard

/-- THE TIED CARD OF 'hamperlaw23.VfsTouches'. -/
def vfsTouchesCard : Claim7 := { stood := { row := vfsTouchesRow, standIns := [], harness := (true, "a3160f20b47cf45cd8bfe61ab6ce6f2ce343e84f7252526ca4119f890fd6afda"), looks := true }, kinds := [], alts := [], laidByText := true, laidKinds := [.data, .pinned], laidTests := true, laidLooks := .later }
def VfsTouchesCardSaid : Prop := Claim7.holds Tryd.pinned (.plain (OpenSpec.ofChange vfsTouchesSpec)) vfsTouchesCard

/-- THE SECOND FORM's CARD OF 'hamperlaw23.VfsReplays'. -/
def vfsReplaysUptoCard : Claim7 := { stood := { row := vfsReplaysUptoRow, standIns := [], harness := (true, "a3160f20b47cf45cd8bfe61ab6ce6f2ce343e84f7252526ca4119f890fd6afda"), looks := true }, kinds := [], alts := [], laidByText := true, laidKinds := [.data, .pinned], laidTests := true, laidLooks := .later }
def VfsReplaysUptoCardSaid : Prop := Claim7.holds Tryd.pinned (.plain (OpenSpec.upto vfsReplaysSpec)) vfsReplaysUptoCard

/-- THE SECOND FORM's CARD OF 'hamperlaw23.VfsFaults'. -/
def vfsFaultsUptoCard : Claim7 := { stood := { row := vfsFaultsUptoRow, standIns := [], harness := (true, "a3160f20b47cf45cd8bfe61ab6ce6f2ce343e84f7252526ca4119f890fd6afda"), looks := true }, kinds := [], alts := [], laidByText := true, laidKinds := [.data, .pinned], laidTests := true, laidLooks := .later }
def VfsFaultsUptoCardSaid : Prop := Claim7.holds Tryd.pinned (.plain (OpenSpec.upto vfsFaultsSpec)) vfsFaultsUptoCard

/-- THE SECOND FORM's CARD OF 'hamperlaw23.VfsTouches'. -/
def vfsTouchesUptoCard : Claim7 := { stood := { row := vfsTouchesUptoRow, standIns := [], harness := (true, "a3160f20b47cf45cd8bfe61ab6ce6f2ce343e84f7252526ca4119f890fd6afda"), looks := true }, kinds := [], alts := [], laidByText := true, laidKinds := [.data, .pinned], laidTests := true, laidLooks := .later }
def VfsTouchesUptoCardSaid : Prop := Claim7.holds Tryd.pinned (.plain (OpenSpec.upto vfsTouchesSpec)) vfsTouchesUptoCard
end Rows
end Go.Proofs.YtageofdcloneoaaDoor
