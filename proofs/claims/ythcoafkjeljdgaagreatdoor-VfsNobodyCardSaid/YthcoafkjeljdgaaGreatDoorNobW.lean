/- One start that fits what the rows of VfsNobody list. -/
import Derived.Test.YthcoafkjeljdgaaGreatDoorRows
import Derived.Test.YthcoafkjeljdgaaGreatDoorNobL
import Derived.Deep.DeepLaidRun
import Derived.LaidLaws
set_option linter.unusedVariables false
namespace Go.Proofs.YthcoafkjeljdgaaGreatDoor.Nob
open Go.RowKit
abbrev list2 : List (String × DataW Unit) := [("unicode/utf8.acceptRanges", Rows.laid_unicode_utf8_acceptRanges), ("unicode/utf8.first", Rows.laid_unicode_utf8_first)]
def ints (k : IntKind) (zs : List Int) : Array Value := (zs.map fun z => Value.int k z).toArray
def setTo (v : Array Value) : Obj → Obj
  | .cells _ t frozen => .cells v t frozen
  | o => o
def firstZ : List Int := List.map Int.ofNat Go.Pinned.utf8FirstZ
def acceptZ : List Int := [128, 191, 160, 191, 128, 159, 144, 191, 128, 143, 0, 0, 0, 0, 0, 0, 0, 0, 0, 0, 0, 0, 0, 0, 0, 0, 0, 0, 0, 0, 0, 0]
noncomputable def world2 (os : Os) : World :=
  let w0 := World.holding Tryz.prog os ⟨#[], #[], []⟩
  { w0 with heap := (w0.heap.modify 1 (setTo (ints .u8 firstZ))).modify 2 (setTo (ints .u8 acceptZ)) }
theorem world2_met (os : Os) (args : Array Value) : laidMet Tryz.prog list2 ((world2 os).forCall (fun _ _ => 0) ⟨#[], args, []⟩).memory :=
  laidMet_of_run3 8 (by kernel_rfl) (by kernel_rfl) (by kernel_rfl)
theorem walk (c0 c1 c2 c3 c4 c5 c6 c7 c8 c9 c10 : Value) (w : World) (_ : laidMet Tryz.prog list2 w) :
    Calls Tryz.prog 3 #[.agg #[c0, c1, c2, c3, c4, c5, c6, c7, c8, c9, c10]] w fun e w' => e = .returned (.bool true) ∧ Below w.heap.size w w' :=
  law c0 c1 c2 c3 c4 c5 c6 c7 c8 c9 c10 w
end Go.Proofs.YthcoafkjeljdgaaGreatDoor.Nob
