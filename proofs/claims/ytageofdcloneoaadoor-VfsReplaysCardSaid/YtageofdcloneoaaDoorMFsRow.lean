/- FsRow put together. -/
import Derived.Test.YtageofdcloneoaaDoorRows
import Derived.Test.YtageofdcloneoaaDoorMFsJ
import Derived.Test.YtageofdcloneoaaDoorMTreeO
import Derived.Deep.DeepLaidRun
import Derived.LaidLaws
set_option linter.unusedVariables false
namespace Go.Proofs.YtageofdcloneoaaDoor.Fs
open Go.RowKit Go.Proofs.YtageofdcloneoaaDoor.Node Go.Proofs.YtageofdcloneoaaDoor.Tree
abbrev list2 : List (String × DataW Unit) := [("unicode/utf8.acceptRanges", Rows.laid_unicode_utf8_acceptRanges), ("unicode/utf8.first", Rows.laid_unicode_utf8_first)]
def ints (k : IntKind) (zs : List Int) : Array Value := (zs.map fun z => Value.int k z).toArray
def setTo (v : Array Value) : Obj → Obj
  | .cells _ t frozen => .cells v t frozen
  | o => o
def firstZ : List Int := List.map Int.ofNat Go.Pinned.utf8FirstZ
def acceptZ : List Int := [128, 191, 160, 191, 128, 159, 144, 191, 128, 143, 0, 0, 0, 0, 0, 0, 0, 0, 0, 0, 0, 0, 0, 0, 0, 0, 0, 0, 0, 0, 0, 0]
noncomputable def world2 (os : Os) : World :=
  let w0 := World.holding Tryd.prog os ⟨#[], #[], []⟩
  { w0 with heap := (w0.heap.modify 1 (setTo (ints .u8 firstZ))).modify 2 (setTo (ints .u8 acceptZ)) }
theorem world2_met (os : Os) (args : Array Value) : laidMet Tryd.prog list2 ((world2 os).forCall (fun _ _ => 0) ⟨#[], args, []⟩).memory :=
  laidMet_of_run3 8 (by kernel_rfl) (by kernel_rfl) (by kernel_rfl)
theorem touches_walk (A : Option Addr) (c : Nat) (l : List Nd) (a : Ac) (A2 : Option Addr) (c2 : Nat) (A3 : Option Addr) (c3 : Nat) (w : World) (hC : kN.C w A l.length l) (hok : ∀ x ∈ l, Ok x) (hl : l.length * 64 ≤ 140737488351232) (hA : AcAt w a A2 c2 A3 c3) (_ : laidMet Tryd.prog list2 w) :
    Calls Tryd.prog 5 #[.slice A l.length c, .agg (actV a A2 c2 A3 c3)] w fun e w' => e = .returned (.bool true) ∧ Below w.heap.size w w' :=
  touches_calls A c l a A2 c2 A3 c3 w hC hok (by omega) hA.ok hA.by_ hA.C2 hA.l2 hA.C3
end Go.Proofs.YtageofdcloneoaaDoor.Fs
