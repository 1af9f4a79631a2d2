/-
  No cell of these rows narrows 'for every input' (looked for: loops, veiled, ifaces, maps, wideKeys, modest, calm, conditions, laid).
  DERIVED. THE GIVEN ROWS OF THIS SEAT. 8 by the template 'for every input the law returns true; each argument reads behind the call as it read before'; 0 by the template 'total and deterministic' (their statements: YtmecigllpdeeoaaTotals.lean).
  GIVEN WITH THE SEED: the statements are not yours to turn. If you find one false, say at which input.
  Laid BY PROGRAM, IN A SANDBOX (cutbox-rows.mjs): the forced cells as the released guide's own fill.sh prints them over the translation 2a24e89746195b1c… (all of the seat's roots in one cut). By AI agents, Wed Nov 11 2026. No macro, syntax, notation, axiom, sorry.
-/
import Derived.Test.YtmecigllpdeeoaaChecked
import GoSem.Claim
import GoSem.ClaimJoined
import GoSem.ClaimMapViews
import Derived.JoinedTies
import Derived.KernelRfl
namespace Go.Proofs.Ytmecigllpdeeoaa
/- THE CELL 'sum', in the pinned program and in every row, IS THE sha256 OF THE DUMP (.gsa) THAT YtmecigllpdeeoaaProg.lean LOADS. Nothing in Lean hashes anything: it is a label: what it is worth is what the hold of that sum in a sandbox is worth. -/
noncomputable def Try.pinned : Pinned := { name := "ytmecigllpdeeoaa", sum := "2a24e89746195b1cdb747d223b2c03d9398b8c94370e98f5d57d14926662e466", checked := Try.checked }
namespace Rows
def none {H : Type} : Left H := { results := [], args := [] }

/-- 'hamperlaw02.NumberChecks': WHATEVER THE INPUT: true; the input reads as it did. -/
def numberChecksSpec : ChangeSpec := { name := "numberChecks", fn := fun _ => fun
  | [d1, d2] => { results := [.lit (.bool true)], args := [d1, d2] }
  | _ => none }
def numberChecksRow : OpenClaim := { program := "ytmecigllpdeeoaa", sum := "2a24e89746195b1cdb747d223b2c03d9398b8c94370e98f5d57d14926662e466", func := "hamper/hamperlaw02.NumberChecks", spec := "numberChecks", apart := false }
def NumberChecksSaid : Prop := numberChecksRow.holds Try.pinned (OpenSpec.ofChange numberChecksSpec)

/-- ITS FALSE NEIGHBOUR: 'it returns false'. Refute it at one input. -/
def numberChecksWrong : ChangeSpec := { name := "numberChecks", fn := fun _ => fun
  | [d1, d2] => { results := [.lit (.bool false)], args := [d1, d2] }
  | _ => none }
def NumberChecksWrongFalsely : Prop := numberChecksRow.holds Try.pinned (OpenSpec.ofChange numberChecksWrong)

/-- 'hamperlaw02.NumberTurns': WHATEVER THE INPUT: true; the input reads as it did. -/
def numberTurnsSpec : ChangeSpec := { name := "numberTurns", fn := fun _ => fun
  | [d1, d2] => { results := [.lit (.bool true)], args := [d1, d2] }
  | _ => none }
def numberTurnsRow : OpenClaim := { program := "ytmecigllpdeeoaa", sum := "2a24e89746195b1cdb747d223b2c03d9398b8c94370e98f5d57d14926662e466", func := "hamper/hamperlaw02.NumberTurns", spec := "numberTurns", apart := false }
def NumberTurnsSaid : Prop := numberTurnsRow.holds Try.pinned (OpenSpec.ofChange numberTurnsSpec)

/-- ITS FALSE NEIGHBOUR: 'it returns false'. Refute it at one input. -/
def numberTurnsWrong : ChangeSpec := { name := "numberTurns", fn := fun _ => fun
  | [d1, d2] => { results := [.lit (.bool false)], args := [d1, d2] }
  | _ => none }
def NumberTurnsWrongFalsely : Prop := numberTurnsRow.holds Try.pinned (OpenSpec.ofChange numberTurnsWrong)

/-- 'hamperlaw08.DeflateRuns': WHATEVER THE INPUT: true; the input reads as it did. -/
def deflateRunsSpec : ChangeSpec := { name := "deflateRuns", fn := fun _ => fun
  | [d] => { results := [.lit (.bool true)], args := [d] }
  | _ => none }
def deflateRunsRow : OpenClaim := { program := "ytmecigllpdeeoaa", sum := "2a24e89746195b1cdb747d223b2c03d9398b8c94370e98f5d57d14926662e466", func := "hamper/hamperlaw08.DeflateRuns", spec := "deflateRuns", unfollowed := true, recurses := true, apart := false }
def DeflateRunsSaid : Prop := deflateRunsRow.holds Try.pinned (OpenSpec.ofChange deflateRunsSpec)

/-- ITS FALSE NEIGHBOUR: 'it returns false'. Refute it at one input. -/
def deflateRunsWrong : ChangeSpec := { name := "deflateRuns", fn := fun _ => fun
  | [d] => { results := [.lit (.bool false)], args := [d] }
  | _ => none }
def DeflateRunsWrongFalsely : Prop := deflateRunsRow.holds Try.pinned (OpenSpec.ofChange deflateRunsWrong)

/-- 'hamperlaw08.DeflateSymbols': WHATEVER THE INPUT: true; the input reads as it did. -/
def deflateSymbolsSpec : ChangeSpec := { name := "deflateSymbols", fn := fun _ => fun
  | [d1, d2] => { results := [.lit (.bool true)], args := [d1, d2] }
  | _ => none }
def deflateSymbolsRow : OpenClaim := { program := "ytmecigllpdeeoaa", sum := "2a24e89746195b1cdb747d223b2c03d9398b8c94370e98f5d57d14926662e466", func := "hamper/hamperlaw08.DeflateSymbols", spec := "deflateSymbols", unfollowed := true, recurses := true, apart := false }
def DeflateSymbolsSaid : Prop := deflateSymbolsRow.holds Try.pinned (OpenSpec.ofChange deflateSymbolsSpec)

/-- ITS FALSE NEIGHBOUR: 'it returns false'. Refute it at one input. -/
def deflateSymbolsWrong : ChangeSpec := { name := "deflateSymbols", fn := fun _ => fun
  | [d1, d2] => { results := [.lit (.bool false)], args := [d1, d2] }
  | _ => none }
def DeflateSymbolsWrongFalsely : Prop := deflateSymbolsRow.holds Try.pinned (OpenSpec.ofChange deflateSymbolsWrong)

/-- 'hamperlaw20.ZipEnds': WHATEVER THE INPUT: true; the input reads as it did. -/
def zipEndsSpec : ChangeSpec := { name := "zipEnds", fn := fun _ => fun
  | [d] => { results := [.lit (.bool true)], args := [d] }
  | _ => none }
def zipEndsRow : OpenClaim := { program := "ytmecigllpdeeoaa", sum := "2a24e89746195b1cdb747d223b2c03d9398b8c94370e98f5d57d14926662e466", func := "hamper/hamperlaw20.ZipEnds", spec := "zipEnds", unfollowed := true, recurses := true, apart := false }
def ZipEndsSaid : Prop := zipEndsRow.holds Try.pinned (OpenSpec.ofChange zipEndsSpec)

/-- ITS FALSE NEIGHBOUR: 'it returns false'. Refute it at one input. -/
def zipEndsWrong : ChangeSpec := { name := "zipEnds", fn := fun _ => fun
  | [d] => { results := [.lit (.bool false)], args := [d] }
  | _ => none }
def ZipEndsWrongFalsely : Prop := zipEndsRow.holds Try.pinned (OpenSpec.ofChange zipEndsWrong)

/-- 'hamperlaw02.NumberPuts': WHATEVER THE INPUT: true; the input reads as it did. -/
def numberPutsSpec : ChangeSpec := { name := "numberPuts", fn := fun _ => fun
  | [d1, d2, d3] => { results := [.lit (.bool true)], args := [d1, d2, d3] }
  | _ => none }
def numberPutsRow : OpenClaim := { program := "ytmecigllpdeeoaa", sum := "2a24e89746195b1cdb747d223b2c03d9398b8c94370e98f5d57d14926662e466", func := "hamper/hamperlaw02.NumberPuts", spec := "numberPuts", unfollowed := true, recurses := true, apart := false }
def NumberPutsSaid : Prop := numberPutsRow.holds Try.pinned (OpenSpec.ofChange numberPutsSpec)

/-- ITS FALSE NEIGHBOUR: 'it returns false'. Refute it at one input. -/
def numberPutsWrong : ChangeSpec := { name := "numberPuts", fn := fun _ => fun
  | [d1, d2, d3] => { results := [.lit (.bool false)], args := [d1, d2, d3] }
  | _ => none }
def NumberPutsWrongFalsely : Prop := numberPutsRow.holds Try.pinned (OpenSpec.ofChange numberPutsWrong)

/-- 'hamperlaw18.TreeSeconds': WHATEVER THE INPUT: true; the input reads as it did. -/
def treeSecondsSpec : ChangeSpec := { name := "treeSeconds", fn := fun _ => fun
  | [d1, d2, d3] => { results := [.lit (.bool true)], args := [d1, d2, d3] }
  | _ => none }
def treeSecondsRow : OpenClaim := { program := "ytmecigllpdeeoaa", sum := "2a24e89746195b1cdb747d223b2c03d9398b8c94370e98f5d57d14926662e466", func := "hamper/hamperlaw18.TreeSeconds", spec := "treeSeconds", apart := false }
def TreeSecondsSaid : Prop := treeSecondsRow.holds Try.pinned (OpenSpec.ofChange treeSecondsSpec)

/-- ITS FALSE NEIGHBOUR: 'it returns false'. Refute it at one input. -/
def treeSecondsWrong : ChangeSpec := { name := "treeSeconds", fn := fun _ => fun
  | [d1, d2, d3] => { results := [.lit (.bool false)], args := [d1, d2, d3] }
  | _ => none }
def TreeSecondsWrongFalsely : Prop := treeSecondsRow.holds Try.pinned (OpenSpec.ofChange treeSecondsWrong)

/-- 'hamperlaw18.TreeTimes': WHATEVER THE INPUT: true; the input reads as it did. -/
def treeTimesSpec : ChangeSpec := { name := "treeTimes", fn := fun _ => fun
  | [d] => { results := [.lit (.bool true)], args := [d] }
  | _ => none }
def treeTimesRow : OpenClaim := { program := "ytmecigllpdeeoaa", sum := "2a24e89746195b1cdb747d223b2c03d9398b8c94370e98f5d57d14926662e466", func := "hamper/hamperlaw18.TreeTimes", spec := "treeTimes", apart := false }
def TreeTimesSaid : Prop := treeTimesRow.holds Try.pinned (OpenSpec.ofChange treeTimesSpec)

/-- ITS FALSE NEIGHBOUR: 'it returns false'. Refute it at one input. -/
def treeTimesWrong : ChangeSpec := { name := "treeTimes", fn := fun _ => fun
  | [d] => { results := [.lit (.bool false)], args := [d] }
  | _ => none }
def TreeTimesWrongFalsely : Prop := treeTimesRow.holds Try.pinned (OpenSpec.ofChange treeTimesWrong)

/- THE SECOND FORM. 'bulk': how many values and letters a reading holds, each counted each time it is reached (what is shared counts as often as it is met; a slice's spare places count too). A statement '..UptoSaid' is the law's where the arguments, and the package variables that the reading takes, are together of bulk at most 1048576: NARROWER than '..Said'. Prove '..Said' where nothing that the law and all that it calls make is longer than what came in: it says more and counts as full. Else prove '..UptoSaid'. A law counts once. -/
mutual
def uptoBulk {H : Type} : DataW H → Nat
  | .lit (.string bytes) => bytes.length + 1
  | .lit _ => 1
  | .nil => 1
  | .ptr d => uptoBulk d + 1
  | .slice elems spare => uptoBulkAll elems + uptoBulkAll spare + 1
  | .agg parts => uptoBulkAll parts + 1
  | .iface _ d => uptoBulk d + 1
  | .map entries => uptoBulkEntries entries + 1
  | .held _ => 1
def uptoBulkAll {H : Type} : List (DataW H) → Nat
  | [] => 0
  | d :: r => uptoBulk d + uptoBulkAll r
def uptoBulkEntries {H : Type} : List (Lit × DataW H) → Nat
  | [] => 0
  | x :: r => uptoBulkEntry x + uptoBulkEntries r
def uptoBulkEntry {H : Type} : Lit × DataW H → Nat
  | (.string bytes, d) => bytes.length + uptoBulk d + 1
  | (_, d) => uptoBulk d + 1
 end
def uptoSmall : (H : Type) → List (DataW H) → Bool := fun _ ds => decide (uptoBulkAll ds ≤ 1048576)
def OpenSpec.upto (s : _root_.Go.ChangeSpec) : _root_.Go.OpenSpec := { _root_.Go.OpenSpec.ofChange s with cond := some uptoSmall }

/-- 'hamperlaw02.NumberChecks', WHERE WHAT IT READS IS OF BULK AT MOST 1048576: true; the input reads as it did. -/
def numberChecksUptoRow : OpenClaim := { program := "ytmecigllpdeeoaa", sum := "2a24e89746195b1cdb747d223b2c03d9398b8c94370e98f5d57d14926662e466", func := "hamper/hamperlaw02.NumberChecks", spec := "numberChecks", apart := false, narrowed := true }
def NumberChecksUptoSaid : Prop := numberChecksUptoRow.holds Try.pinned (OpenSpec.upto numberChecksSpec)

/-- 'hamperlaw02.NumberTurns', WHERE WHAT IT READS IS OF BULK AT MOST 1048576: true; the input reads as it did. -/
def numberTurnsUptoRow : OpenClaim := { program := "ytmecigllpdeeoaa", sum := "2a24e89746195b1cdb747d223b2c03d9398b8c94370e98f5d57d14926662e466", func := "hamper/hamperlaw02.NumberTurns", spec := "numberTurns", apart := false, narrowed := true }
def NumberTurnsUptoSaid : Prop := numberTurnsUptoRow.holds Try.pinned (OpenSpec.upto numberTurnsSpec)

/-- 'hamperlaw08.DeflateRuns', WHERE WHAT IT READS IS OF BULK AT MOST 1048576: true; the input reads as it did. -/
def deflateRunsUptoRow : OpenClaim := { program := "ytmecigllpdeeoaa", sum := "2a24e89746195b1cdb747d223b2c03d9398b8c94370e98f5d57d14926662e466", func := "hamper/hamperlaw08.DeflateRuns", spec := "deflateRuns", unfollowed := true, recurses := true, apart := false, narrowed := true }
def DeflateRunsUptoSaid : Prop := deflateRunsUptoRow.holds Try.pinned (OpenSpec.upto deflateRunsSpec)

/-- 'hamperlaw08.DeflateSymbols', WHERE WHAT IT READS IS OF BULK AT MOST 1048576: true; the input reads as it did. -/
def deflateSymbolsUptoRow : OpenClaim := { program := "ytmecigllpdeeoaa", sum := "2a24e89746195b1cdb747d223b2c03d9398b8c94370e98f5d57d14926662e466", func := "hamper/hamperlaw08.DeflateSymbols", spec := "deflateSymbols", unfollowed := true, recurses := true, apart := false, narrowed := true }
def DeflateSymbolsUptoSaid : Prop := deflateSymbolsUptoRow.holds Try.pinned (OpenSpec.upto deflateSymbolsSpec)

/-- 'hamperlaw20.ZipEnds', WHERE WHAT IT READS IS OF BULK AT MOST 1048576: true; the input reads as it did. -/
def zipEndsUptoRow : OpenClaim := { program := "ytmecigllpdeeoaa", sum := "2a24e89746195b1cdb747d223b2c03d9398b8c94370e98f5d57d14926662e466", func := "hamper/hamperlaw20.ZipEnds", spec := "zipEnds", unfollowed := true, recurses := true, apart := false, narrowed := true }
def ZipEndsUptoSaid : Prop := zipEndsUptoRow.holds Try.pinned (OpenSpec.upto zipEndsSpec)

/-- 'hamperlaw02.NumberPuts', WHERE WHAT IT READS IS OF BULK AT MOST 1048576: true; the input reads as it did. -/
def numberPutsUptoRow : OpenClaim := { program := "ytmecigllpdeeoaa", sum := "2a24e89746195b1cdb747d223b2c03d9398b8c94370e98f5d57d14926662e466", func := "hamper/hamperlaw02.NumberPuts", spec := "numberPuts", unfollowed := true, recurses := true, apart := false, narrowed := true }
def NumberPutsUptoSaid : Prop := numberPutsUptoRow.holds Try.pinned (OpenSpec.upto numberPutsSpec)

/-- 'hamperlaw18.TreeSeconds', WHERE WHAT IT READS IS OF BULK AT MOST 1048576: true; the input reads as it did. -/
def treeSecondsUptoRow : OpenClaim := { program := "ytmecigllpdeeoaa", sum := "2a24e89746195b1cdb747d223b2c03d9398b8c94370e98f5d57d14926662e466", func := "hamper/hamperlaw18.TreeSeconds", spec := "treeSeconds", apart := false, narrowed := true }
def TreeSecondsUptoSaid : Prop := treeSecondsUptoRow.holds Try.pinned (OpenSpec.upto treeSecondsSpec)

/-- 'hamperlaw18.TreeTimes', WHERE WHAT IT READS IS OF BULK AT MOST 1048576: true; the input reads as it did. -/
def treeTimesUptoRow : OpenClaim := { program := "ytmecigllpdeeoaa", sum := "2a24e89746195b1cdb747d223b2c03d9398b8c94370e98f5d57d14926662e466", func := "hamper/hamperlaw18.TreeTimes", spec := "treeTimes", apart := false, narrowed := true }
def TreeTimesUptoSaid : Prop := treeTimesUptoRow.holds Try.pinned (OpenSpec.upto treeTimesSpec)

end Rows
end Go.Proofs.Ytmecigllpdeeoaa
