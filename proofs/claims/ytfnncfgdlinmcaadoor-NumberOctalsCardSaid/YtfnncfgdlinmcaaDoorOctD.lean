/- Out of the row's cell 'laid': what the walks ask of the library's variables; and one world in which they lie so. -/
import Derived.Test.YtfnncfgdlinmcaaDoorRows
import Derived.Test.YtfnncfgdlinmcaaDoorOctL
import Derived.Stop.LaidErr
import Derived.Lib.ItoaNum
import Derived.Lib.LaidTab
import Derived.Deep.DeepLaidRun
import Derived.LaidLaws
set_option linter.unusedVariables false
namespace Go.Proofs.YtfnncfgdlinmcaaDoor.Oct
open Go.RowKit Go.Lib
theorem g64 : Tryd.prog.globalNamed "math/bits.deBruijn64tab" = some 5 := by kernel_rfl
def tab32 : List Int := [0, 1, 28, 2, 29, 14, 24, 3, 30, 22, 20, 15, 25, 17, 4, 8, 31, 27, 13, 23, 21, 19, 16, 7, 26, 12, 18, 6, 11, 5, 10, 9]
def tab64 : List Int := [0, 1, 56, 2, 57, 49, 28, 3, 61, 58, 42, 50, 38, 29, 17, 4, 62, 47, 59, 36, 45, 43, 51, 22, 53, 39, 33, 30, 24, 18, 12, 5, 63, 55, 48, 27, 60, 41, 37, 16, 46, 35, 44, 21, 52, 32, 23, 11, 54, 26, 40, 15, 34, 20, 31, 10, 25, 14, 19, 9, 13, 8, 7, 6]
theorem tab_data : (Rows.laid_math_bits_deBruijn64tab : DataW Unit) = Lib.tabData .u8 tab64 := by rfl
abbrev list3 : List (String × DataW Unit) := [("math/bits.deBruijn32tab", Rows.laid_math_bits_deBruijn32tab), ("math/bits.deBruijn64tab", Rows.laid_math_bits_deBruijn64tab), ("internal/strconv.uint64pow10", Rows.laid_internal_strconv_uint64pow10)]
theorem tz_of (W : World) (h : laidMet Tryd.prog list3 W) : Tz W := by
  have h3 : laidMet Tryd.prog (("math/bits.deBruijn64tab", Lib.tabData .u8 tab64) :: [("internal/strconv.uint64pow10", Rows.laid_internal_strconv_uint64pow10)]) W := by
    rw [← tab_data]
    exact h.tail
  have ht : TabIs Tryd.prog W "math/bits.deBruijn64tab" .u8 tab64 := Lib.tabIs_of_head g64 (by kernel_rfl) (t := 129) Tryd.underlying129 Tryd.underlying5 (by kernel_rfl) (by kernel_rfl) h3
  unfold TabIs at ht
  have h0 := World.var?_cell g64 ht 7
  unfold Tz
  simpa [tab64] using h0

/-! ### One start that fits -/
def ints (k : IntKind) (zs : List Int) : Array Value := (zs.map fun z => Value.int k z).toArray
def setTo (v : Array Value) : Obj → Obj
  | .cells _ t frozen => .cells v t frozen
  | o => o
noncomputable def laidWorld (os : Os) : World :=
  let w0 := World.holding Tryd.prog os ⟨#[], #[], []⟩
  { w0 with heap := (((w0.heap.modify 1 (setTo (ints .u64 Lib.pow10Tab))).modify 4 (setTo (ints .u8 tab32))).modify 5 (setTo (ints .u8 tab64))) }
theorem laidWorld_met (os : Os) (args : Array Value) : laidMet Tryd.prog list3 ((laidWorld os).forCall (fun _ _ => 0) ⟨#[], args, []⟩).memory :=
  laidMet_of_run3 8 (by kernel_rfl) (by kernel_rfl) (by kernel_rfl)
theorem octals_law (v n : Int) (a : Option Addr) (len cap : Nat) (zs : List Int) (w : World) (h0 : (Lit.int .i64 v).wf = true) (h1 : (Lit.int .i64 n).wf = true) (h2 : IsRow .u8 w a len cap zs) (h3 : len * 1 ≤ 140737488351232) (hL : laidMet Tryd.prog list3 w) :
    Calls Tryd.prog 3 #[.int .i64 v, .int .i64 n, .slice a len cap] w fun e w' => e = .returned (.bool true) ∧ Below w.heap.size w w' :=
  walk v n a len cap zs w h0 h1 h2 h3 (tz_of w hL)
end Go.Proofs.YtfnncfgdlinmcaaDoor.Oct
