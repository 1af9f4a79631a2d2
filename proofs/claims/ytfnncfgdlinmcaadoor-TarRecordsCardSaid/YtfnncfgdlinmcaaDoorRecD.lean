/- Out of the row's cell 'laid': what the walks ask of the library's variables; and one world in which they lie so. -/
import Derived.Test.YtfnncfgdlinmcaaDoorRows
import Derived.Test.YtfnncfgdlinmcaaDoorRecL
import Derived.Stop.LaidErr
import Derived.Lib.LaidTab
import Derived.Deep.DeepLaidRun
import Derived.LaidLaws
set_option linter.unusedVariables false
namespace Go.Proofs.YtfnncfgdlinmcaaDoor.Rec
open Go.RowKit Go.Lib
theorem gPow : Tryd.prog.globalNamed "internal/strconv.uint64pow10" = some 1 := by kernel_rfl
theorem gER : Tryd.prog.globalNamed "strconv.ErrRange" = some 7 := by kernel_rfl
theorem gES : Tryd.prog.globalNamed "strconv.ErrSyntax" = some 6 := by kernel_rfl
theorem gERType : (Tryd.prog.globals[7]?).map (·.type) = some 101 := by kernel_rfl
theorem gESType : (Tryd.prog.globals[6]?).map (·.type) = some 101 := by kernel_rfl
theorem cellsES : Tryd.prog.cellsOf 141 = 1 := by kernel_rfl
theorem cellsStr : Tryd.prog.cellsOf 9 = 1 := by kernel_rfl
theorem star : "*" ++ "errors.errorString" = "*errors.errorString" := by decide
theorem rowES (u : TypeId) (h : Tryd.prog.typeName? 3 u = some "*errors.errorString") : u = 139 :=
  typeName_ptr_named (nm := "errors.errorString") (by rw [star]; kernel_rfl) (by kernel_rfl) (by decide) u (by rw [star]; exact h)
theorem pow_data : (Rows.laid_internal_strconv_uint64pow10 : DataW Unit) = Lib.tabData .u64 Lib.pow10Tab := by rfl
abbrev list5 : List (String × DataW Unit) := [("math/bits.deBruijn32tab", Rows.laid_math_bits_deBruijn32tab), ("math/bits.deBruijn64tab", Rows.laid_math_bits_deBruijn64tab), ("internal/strconv.uint64pow10", Rows.laid_internal_strconv_uint64pow10), ("strconv.ErrRange", Rows.laid_strconv_ErrRange), ("strconv.ErrSyntax", Rows.laid_strconv_ErrSyntax)]
theorem laid_of (W : World) (h : laidMet Tryd.prog list5 W) (hS : W.ShapedOpen Tryd.prog) : Laid W := by
  have h3 : laidMet Tryd.prog (("internal/strconv.uint64pow10", Lib.tabData .u64 Lib.pow10Tab) :: [("strconv.ErrRange", Rows.laid_strconv_ErrRange), ("strconv.ErrSyntax", Rows.laid_strconv_ErrSyntax)]) W := by
    rw [← pow_data]
    exact h.tail.tail
  obtain ⟨a0, s0, hv0, -, -, -⟩ := laid_sentinel h3.tail gER gERType Tryd.underlying101 rowES Tryd.underlying139 Tryd.underlying141 rfl rfl Tryd.underlying9 cellsES cellsStr
  obtain ⟨a1, s1, hv1, -, -, -⟩ := laid_sentinel h3.tail.tail gES gESType Tryd.underlying101 rowES Tryd.underlying139 Tryd.underlying141 rfl rfl Tryd.underlying9 cellsES cellsStr
  exact ⟨Lib.tabIs_of_head gPow (by kernel_rfl) (t := 111) Tryd.underlying111 Tryd.underlying90 (by kernel_rfl) (by kernel_rfl) h3, ⟨_, _, by have h0 := World.var?_cell gES hv1 0; simpa using h0⟩, ⟨_, _, by have h0 := World.var?_cell gER hv0 0; simpa using h0⟩, Tryd.maxLen_some W hS⟩

/-! ### One start that fits -/
noncomputable def low : Nat := (World.holding Tryd.prog default ⟨#[], #[], []⟩).heap.size
def ints (k : IntKind) (zs : List Int) : Array Value := (zs.map fun z => Value.int k z).toArray
def setTo (v : Array Value) : Obj → Obj
  | .cells _ t frozen => .cells v t frozen
  | o => o
def tab32 : List Int := [0, 1, 28, 2, 29, 14, 24, 3, 30, 22, 20, 15, 25, 17, 4, 8, 31, 27, 13, 23, 21, 19, 16, 7, 26, 12, 18, 6, 11, 5, 10, 9]
def tab64 : List Int := [0, 1, 56, 2, 57, 49, 28, 3, 61, 58, 42, 50, 38, 29, 17, 4, 62, 47, 59, 36, 45, 43, 51, 22, 53, 39, 33, 30, 24, 18, 12, 5, 63, 55, 48, 27, 60, 41, 37, 16, 46, 35, 44, 21, 52, 32, 23, 11, 54, 26, 40, 15, 34, 20, 31, 10, 25, 14, 19, 9, 13, 8, 7, 6]
noncomputable def laidWorld (os : Os) : World :=
  let w0 := World.holding Tryd.prog os ⟨#[.cells #[.string ⟨#[105, 110, 118, 97, 108, 105, 100, 32, 115, 121, 110, 116, 97, 120]⟩] 141, .cells #[.string ⟨#[118, 97, 108, 117, 101, 32, 111, 117, 116, 32, 111, 102, 32, 114, 97, 110, 103, 101]⟩] 141], #[], []⟩
  { w0 with heap := ((((w0.heap.modify 1 (setTo (ints .u64 Lib.pow10Tab))).modify 6 (setTo #[.iface 139 (.pointer (some ⟨low, 0, none⟩))])).modify 7 (setTo #[.iface 139 (.pointer (some ⟨low + 1, 0, none⟩))])).modify 4 (setTo (ints .u8 tab32))).modify 5 (setTo (ints .u8 tab64)) }
theorem laidWorld_met (os : Os) (args : Array Value) : laidMet Tryd.prog list5 ((laidWorld os).forCall (fun _ _ => 0) ⟨#[], args, []⟩).memory :=
  laidMet_of_run3 8 (by kernel_rfl) (by kernel_rfl) (by kernel_rfl)
end Go.Proofs.YtfnncfgdlinmcaaDoor.Rec
