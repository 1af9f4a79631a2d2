/- File systems that no call made. -/
import Derived.Test.YthcoafkjeljdgaaGreatDoorProg
import Derived.Test.YthcoafkjeljdgaaGreatDoorReg
import Derived.Lib.Hide
import Derived.Handy
set_option linter.unusedVariables false
namespace Go.Proofs.YthcoafkjeljdgaaGreatDoor.Nob
open Go.RowKit Go.BigFrame Go.Proofs.YthcoafkjeljdgaaGreatDoor.Reg

/-- A pointer to no file system, or to one without nodes. -/
def Nob (w : World) (p : Value) : Prop := p = .pointer none ∨ ∃ b, p = .pointer (some ⟨b, 0, none⟩) ∧ w.cell? ⟨b, 0, none⟩ = some (.map none)
theorem Nob.below {w w' : World} {p : Value} (h : Nob w p) (hb : Below w.heap.size w w') : Nob w' p := by
  rcases h with h | ⟨b, h, hc⟩
  · exact .inl h
  · exact .inr ⟨b, h, bkeep hb hc⟩
abbrev node0 : Value := .agg #[.int .i64 0, .string ByteArray.empty, .slice none 0 0, .int .i64 0, .int .i64 0]
set_option maxRecDepth 100000 in
theorem none_calls (p : Value) (w : World) (h : Nob w p) : Calls Tryz.prog 17 #[p] w fun e w' => e = .returned (.bool true) ∧ w = w' := by
  rcases h with rfl | ⟨b, rfl, hc⟩
  · go_enter Tryz.func17, Tryz.ntmps17
    go_wp2
    go_ret
    exact ⟨rfl, rfl⟩
  · have hmm : ∀ w : World, (binOp BinOp.eql 28 (.map none) (.map none)).run Tryz.prog w = .ok (.bool true) w := fun w => by
      simp [binOp]
      try rfl
    go_enter Tryz.func17, Tryz.ntmps17
    go_wp2
    go_ret
    exact ⟨rfl, rfl⟩
theorem real_calls (p : Value) (s : Value) (w : World) (h : Nob w p) : Calls Tryz.prog 6 #[p, s] w fun e w' => e = .returned (.tuple #[.string ByteArray.empty, .int .i64 1]) ∧ Below w.heap.size w w' := by
  have H := Lib.hid (none_calls p w h)
  go_enter Tryz.func6, Tryz.ntmps6
  go_wp2_with (go_at_call 17; refine H.out.mono ?_; rintro e w1 ⟨rfl, rfl⟩)
  go_ret2
  exact ⟨rfl, Below.refl _ _⟩
theorem stat_calls (p : Value) (s : Value) (w : World) (h : Nob w p) : Calls Tryz.prog 4 #[p, s] w fun e w' => e = .returned (.tuple #[node0, .int .i64 1]) ∧ Below w.heap.size w w' := by
  go_enter Tryz.func4, Tryz.ntmps4
  go_wp2_with (go_at_call 17; refine (none_calls p _ (h.below (by exact (balloc (Below.refl _ _) _)))).mono ?_; rintro e w1 ⟨rfl, rfl⟩)
  go_returns
  exact ⟨rfl, balloc (Below.refl _ _) _⟩
theorem clone_calls (p : Value) (w : World) (h : Nob w p) : Calls Tryz.prog 16 #[p] w fun e w' => e = .returned (.pointer none) ∧ Below w.heap.size w w' := by
  have H := Lib.hid (none_calls p w h)
  go_enter Tryz.func16, Tryz.ntmps16
  go_wp2_with (go_at_call 17; refine H.out.mono ?_; rintro e w1 ⟨rfl, rfl⟩)
  go_ret
  exact ⟨rfl, Below.refl _ _⟩
theorem make_calls (p c0 c1 c2 c3 c4 : Value) (w : World) (h : Nob w p) : Calls Tryz.prog 7 #[p, .agg #[c0, c1, c2, c3, c4]] w fun e w' => e = .returned (.int .i64 1) ∧ Below w.heap.size w w' := by
  go_enter Tryz.func7, Tryz.ntmps7
  go_wp2_with (go_at_call 17; refine (none_calls p _ (h.below (by exact (balloc (Below.refl _ _) _)))).mono ?_; rintro e w1 ⟨rfl, rfl⟩)
  go_ret
  exact ⟨rfl, balloc (Below.refl _ _) _⟩
theorem write_calls (p : Value) (s v : Value) (w : World) (h : Nob w p) : Calls Tryz.prog 8 #[p, s, v] w fun e w' => e = .returned (.int .i64 1) ∧ Below w.heap.size w w' := by
  have H := Lib.hid (none_calls p w h)
  go_enter Tryz.func8, Tryz.ntmps8
  go_wp2_with (go_at_call 17; refine H.out.mono ?_; rintro e w1 ⟨rfl, rfl⟩)
  go_ret
  exact ⟨rfl, Below.refl _ _⟩
theorem rename_calls (p : Value) (s t : Value) (w : World) (h : Nob w p) : Calls Tryz.prog 9 #[p, s, t] w fun e w' => e = .returned (.int .i64 1) ∧ Below w.heap.size w w' := by
  have H := Lib.hid (none_calls p w h)
  go_enter Tryz.func9, Tryz.ntmps9
  go_wp2_with (go_at_call 17; refine H.out.mono ?_; rintro e w1 ⟨rfl, rfl⟩)
  go_ret
  exact ⟨rfl, Below.refl _ _⟩
theorem remove_calls (p : Value) (s : Value) (w : World) (h : Nob w p) : Calls Tryz.prog 10 #[p, s] w fun e w' => e = .returned (.int .i64 1) ∧ Below w.heap.size w w' := by
  have H := Lib.hid (none_calls p w h)
  go_enter Tryz.func10, Tryz.ntmps10
  go_wp2_with (go_at_call 17; refine H.out.mono ?_; rintro e w1 ⟨rfl, rfl⟩)
  go_ret
  exact ⟨rfl, Below.refl _ _⟩
theorem fail_calls (p : Value) (n b : Value) (w : World) (h : Nob w p) : Calls Tryz.prog 11 #[p, n, b] w fun e w' => e = .returned (.int .i64 1) ∧ Below w.heap.size w w' := by
  have H := Lib.hid (none_calls p w h)
  go_enter Tryz.func11, Tryz.ntmps11
  go_wp2_with (go_at_call 17; refine H.out.mono ?_; rintro e w1 ⟨rfl, rfl⟩)
  go_ret
  exact ⟨rfl, Below.refl _ _⟩
theorem room_calls (p : Value) (n : Value) (w : World) (h : Nob w p) : Calls Tryz.prog 12 #[p, n] w fun e w' => e = .returned (.int .i64 1) ∧ Below w.heap.size w w' := by
  have H := Lib.hid (none_calls p w h)
  go_enter Tryz.func12, Tryz.ntmps12
  go_wp2_with (go_at_call 17; refine H.out.mono ?_; rintro e w1 ⟨rfl, rfl⟩)
  go_ret
  exact ⟨rfl, Below.refl _ _⟩
theorem tree_calls (p : Value)  (w : World) (h : Nob w p) : Calls Tryz.prog 14 #[p] w fun e w' => e = .returned (.slice none 0 0) ∧ Below w.heap.size w w' := by
  have H := Lib.hid (none_calls p w h)
  go_enter Tryz.func14, Tryz.ntmps14
  go_wp2_with (go_at_call 17; refine H.out.mono ?_; rintro e w1 ⟨rfl, rfl⟩)
  go_ret
  exact ⟨rfl, Below.refl _ _⟩
theorem log_calls (p : Value)  (w : World) (h : Nob w p) : Calls Tryz.prog 15 #[p] w fun e w' => e = .returned (.slice none 0 0) ∧ Below w.heap.size w w' := by
  have H := Lib.hid (none_calls p w h)
  go_enter Tryz.func15, Tryz.ntmps15
  go_wp2_with (go_at_call 17; refine H.out.mono ?_; rintro e w1 ⟨rfl, rfl⟩)
  go_ret
  exact ⟨rfl, Below.refl _ _⟩
theorem list_calls (p : Value) (s : Value) (w : World) (h : Nob w p) : Calls Tryz.prog 5 #[p, s] w fun e w' => e = .returned (.tuple #[.slice none 0 0, .int .i64 1]) ∧ Below w.heap.size w w' := by
  have H := Lib.hid (stat_calls p s w h)
  go_enter Tryz.func5, Tryz.ntmps5
  go_wp2_with (go_at_call 4; refine H.out.mono ?_; rintro e w1 ⟨rfl, hb⟩)
  go_ret2
  exact ⟨rfl, balloc hb _⟩
set_option maxRecDepth 100000 in
theorem one_calls (w : World) : Calls Tryz.prog 13 #[node0, node0] w fun e w' => e = .returned (.bool true) ∧ Below w.heap.size w w' := by
  have hcv : ∀ w : World, (convert 22 9 (.slice none 0 0)).run Tryz.prog w = .ok (.string ByteArray.empty) w := fun w => by
    simp [convert]
    rfl
  go_enter Tryz.func13, Tryz.ntmps13
  go_wp2
  go_ret
  exact ⟨rfl, balloc (balloc (Below.refl _ _) _) _⟩
end Go.Proofs.YthcoafkjeljdgaaGreatDoor.Nob
