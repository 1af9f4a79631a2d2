/- The walk of tree.Day.right, case by case, and of tree.long. -/
import Derived.Test.YtoiffnoiliknnaaDoorPlongx1
import Derived.Test.YtoiffnoiliknnaaDoorPfloorx1
import Derived.Test.YtoiffnoiliknnaaDoorPmonthx1
import Derived.Test.YtoiffnoiliknnaaDoorReg
import Derived.Lib.Hide
set_option linter.unusedVariables false
namespace Go.Proofs.YtoiffnoiliknnaaDoor.Tim
open Go.RowKit Go.BigFrame Go.Proofs.YtoiffnoiliknnaaDoor.Reg Go.Proofs.YtoiffnoiliknnaaDoor.Plong Go.Proofs.YtoiffnoiliknnaaDoor.Pfloor Go.Proofs.YtoiffnoiliknnaaDoor.Pmonth Go.Proofs.YtoiffnoiliknnaaDoorW.PrintWords Go.Proofs.YtoiffnoiliknnaaDoorW.PrintLast Go.Proofs.YtoiffnoiliknnaaDoorW.PrintMore

def leapB (y : Int) : Bool := decide (y % 4 = 0 ∧ (y % 100 ≠ 0 ∨ y % 400 = 0))
def ml (y m : Int) : Int := if m = 2 then (if leapB y then 29 else 28) else if m = 4 ∨ m = 6 ∨ m = 9 ∨ m = 11 then 30 else 31
theorem ml_bd (y m : Int) : 28 ≤ ml y m ∧ ml y m ≤ 31 := by unfold ml; split <;> split <;> omega
def rightB (y m d h mi s : Int) : Bool := decide (-40000 ≤ y ∧ y ≤ 40000 ∧ 1 ≤ m ∧ m ≤ 12 ∧ 1 ≤ d ∧ d ≤ ml y m ∧ 0 ≤ h ∧ h < 24 ∧ 0 ≤ mi ∧ mi < 60 ∧ 0 ≤ s ∧ s < 60)

theorem tmod4 (y : Int) : Int.tmod y 4 = 0 ↔ y % 4 = 0 := by rw [← Int.dvd_iff_tmod_eq_zero, ← Int.dvd_iff_emod_eq_zero]
theorem tmod100 (y : Int) : Int.tmod y 100 = 0 ↔ y % 100 = 0 := by rw [← Int.dvd_iff_tmod_eq_zero, ← Int.dvd_iff_emod_eq_zero]
theorem tmod400 (y : Int) : Int.tmod y 400 = 0 ↔ y % 400 = 0 := by rw [← Int.dvd_iff_tmod_eq_zero, ← Int.dvd_iff_emod_eq_zero]
theorem w1 : wrap64 1 = 1 := by unfold wrap64; omega
theorem w2 : wrap64 2 = 2 := by unfold wrap64; omega
theorem w3 : wrap64 3 = 3 := by unfold wrap64; omega
theorem w4 : wrap64 4 = 4 := by unfold wrap64; omega
theorem index_four (m : Int) : slices_Index_int_int.f 5 [4, 6, 9, 11] m = some (if m = 4 then 0 else if m = 6 then 1 else if m = 9 then 2 else if m = 11 then 3 else -1) := by
  unfold slices_Index_int_int.f
  by_cases h1 : m = 4
  · subst h1; simp [slices_Index_int_int.l0, rd]
  by_cases h2 : m = 6
  · subst h2; simp [slices_Index_int_int.l0, rd, w1]
  by_cases h3 : m = 9
  · subst h3; simp [slices_Index_int_int.l0, rd, w1, w2]
  by_cases h4 : m = 11
  · subst h4; simp [slices_Index_int_int.l0, rd, w1, w2, w3]
  · simp [slices_Index_int_int.l0, rd, w1, w2, w3, w4, h1, h2, h3, h4]
theorem contains_four (m : Int) : slices_Contains_int_int.f 5 [4, 6, 9, 11] m = some (decide (m = 4 ∨ m = 6 ∨ m = 9 ∨ m = 11)) := by
  unfold slices_Contains_int_int.f
  rw [index_four]
  simp only [Option.bind_some, Option.some.injEq]
  by_cases h1 : m = 4
  · simp [h1]
  by_cases h2 : m = 6
  · simp [h2]
  by_cases h3 : m = 9
  · simp [h3]
  by_cases h4 : m = 11
  · simp [h4]
  · simp [h1, h2, h3, h4]
theorem long_f (y m : Int) : tree_long.f 6 y m = some (ml y m) := by
  unfold tree_long.f ml
  have hn : m ≠ 2 → tree_long.j0 6 m false = some (if m = 4 ∨ m = 6 ∨ m = 9 ∨ m = 11 then 30 else 31) := by
    intro h2
    simp only [tree_long.j0]
    rw [if_neg (by simp), if_neg h2, contains_four]
    simp only [Option.bind_some, decide_eq_true_eq]
    split <;> rfl
  have hy : ∀ b, tree_long.j0 6 2 b = some (if b = true then 29 else 28) := by
    intro b
    simp only [tree_long.j0]
    cases b <;> simp
  by_cases h2 : m = 2
  · subst h2
    rw [if_pos rfl, if_pos rfl]
    unfold leapB
    simp only [tmod4, tmod100]
    by_cases h4 : y % 4 = 0
    · rw [if_pos h4]
      by_cases h100 : y % 100 = 0
      · rw [if_pos h100, hy]
        congr 1
        have : (Int.tmod y 400 == 0) = decide (y % 400 = 0) := by
          rw [Bool.eq_iff_iff, beq_iff_eq, decide_eq_true_eq]; exact tmod400 y
        rw [this]
        simp [h4, h100]
      · rw [if_neg h100, hy]; simp [h4, h100]
    · rw [if_neg h4, hy]; simp [h4]
  · rw [if_neg h2, if_neg h2, hn h2]
theorem long_calls (y m : Int) (w : World) : Calls Tryd.prog 76 #[.int .i64 y, .int .i64 m] w fun e w' => e = .returned (.int .i64 (ml y m)) ∧ Below w.heap.size w w' :=
  tree_long.calls 6 y m _ w (long_f y m)

set_option maxHeartbeats 4000000 in
theorem right_0 (y m d h mi s : Int) (w : World) (r1 : -40000 ≤ y) (r2 : y ≤ 40000) (r3 : 1 ≤ m) (r4 : m ≤ 12)  (a1 : decide (1 ≤ d) = false) :
    Calls Tryd.prog 75 #[.agg #[.int .i64 y, .int .i64 m, .int .i64 d, .int .i64 h, .int .i64 mi, .int .i64 s]] w fun e w' => e = .returned (.bool false) ∧ Below w.heap.size w w' := by
  go_enter Tryd.func75, Tryd.ntmps75
  go_wp2
  go_quiet (fail)
  go_wp2
  go_ret
  exact ⟨rfl, pw_below_drewN (below_alloc (Below.refl _ _) _) _⟩

set_option maxHeartbeats 4000000 in
theorem right_1 (y m d h mi s : Int) (w : World) (r1 : -40000 ≤ y) (r2 : y ≤ 40000) (r3 : 1 ≤ m) (r4 : m ≤ 12) (a1 : 1 ≤ d) (a2 : decide (d ≤ ml y m) = false) :
    Calls Tryd.prog 75 #[.agg #[.int .i64 y, .int .i64 m, .int .i64 d, .int .i64 h, .int .i64 mi, .int .i64 s]] w fun e w' => e = .returned (.bool false) ∧ Below w.heap.size w w' := by
  go_enter Tryd.func75, Tryd.ntmps75
  go_wp2
  refine wp_world ?_
  intro w1 hw1
  have hb : Below w.heap.size w w1 := by rw [hw1]; exact balloc (Below.refl _ _) _
  have c0 : w1.cell? ⟨w.heap.size, 0, none⟩ = some (.int .i64 y) := by rw [hw1]; go_simp
  have c1 : w1.cell? ⟨w.heap.size, 1, none⟩ = some (.int .i64 m) := by rw [hw1]; go_simp
  have c2 : w1.cell? ⟨w.heap.size, 2, none⟩ = some (.int .i64 d) := by rw [hw1]; go_simp
  have c3 : w1.cell? ⟨w.heap.size, 3, none⟩ = some (.int .i64 h) := by rw [hw1]; go_simp
  have c4 : w1.cell? ⟨w.heap.size, 4, none⟩ = some (.int .i64 mi) := by rw [hw1]; go_simp
  have c5 : w1.cell? ⟨w.heap.size, 5, none⟩ = some (.int .i64 s) := by rw [hw1]; go_simp
  clear hw1
  refine wp_region_above (by kernel_rfl) (by kernel_rfl) ?_
  intro ne
  have e0 : ∀ n : Abv w1, n.w.cell? ⟨w.heap.size, 0, none⟩ = some (.int .i64 y) := fun n => n.cell c0
  have e1 : ∀ n : Abv w1, n.w.cell? ⟨w.heap.size, 1, none⟩ = some (.int .i64 m) := fun n => n.cell c1
  have e2 : ∀ n : Abv w1, n.w.cell? ⟨w.heap.size, 2, none⟩ = some (.int .i64 d) := fun n => n.cell c2
  have e3 : ∀ n : Abv w1, n.w.cell? ⟨w.heap.size, 3, none⟩ = some (.int .i64 h) := fun n => n.cell c3
  have e4 : ∀ n : Abv w1, n.w.cell? ⟨w.heap.size, 4, none⟩ = some (.int .i64 mi) := fun n => n.cell c4
  have e5 : ∀ n : Abv w1, n.w.cell? ⟨w.heap.size, 5, none⟩ = some (.int .i64 s) := fun n => n.cell c5
  repeat (go_big_quiet_step ((go_at_call 76; exact Abv.call _ (long_calls _ _ _))))
  refine quiet_above ?_
  intro w2 hb2
  clear e0 e1 e2 e3 e4 e5 c0 c1 c2 c3 c4 c5
  go_wp2
  go_ret
  exact ⟨rfl, bgo hb hb2⟩

set_option maxHeartbeats 4000000 in
theorem right_2 (y m d h mi s : Int) (w : World) (r1 : -40000 ≤ y) (r2 : y ≤ 40000) (r3 : 1 ≤ m) (r4 : m ≤ 12) (a1 : 1 ≤ d) (a2 : d ≤ ml y m) (a3 : decide (0 ≤ h) = false) :
    Calls Tryd.prog 75 #[.agg #[.int .i64 y, .int .i64 m, .int .i64 d, .int .i64 h, .int .i64 mi, .int .i64 s]] w fun e w' => e = .returned (.bool false) ∧ Below w.heap.size w w' := by
  go_enter Tryd.func75, Tryd.ntmps75
  go_wp2
  refine wp_world ?_
  intro w1 hw1
  have hb : Below w.heap.size w w1 := by rw [hw1]; exact balloc (Below.refl _ _) _
  have c0 : w1.cell? ⟨w.heap.size, 0, none⟩ = some (.int .i64 y) := by rw [hw1]; go_simp
  have c1 : w1.cell? ⟨w.heap.size, 1, none⟩ = some (.int .i64 m) := by rw [hw1]; go_simp
  have c2 : w1.cell? ⟨w.heap.size, 2, none⟩ = some (.int .i64 d) := by rw [hw1]; go_simp
  have c3 : w1.cell? ⟨w.heap.size, 3, none⟩ = some (.int .i64 h) := by rw [hw1]; go_simp
  have c4 : w1.cell? ⟨w.heap.size, 4, none⟩ = some (.int .i64 mi) := by rw [hw1]; go_simp
  have c5 : w1.cell? ⟨w.heap.size, 5, none⟩ = some (.int .i64 s) := by rw [hw1]; go_simp
  clear hw1
  refine wp_region_above (by kernel_rfl) (by kernel_rfl) ?_
  intro ne
  have e0 : ∀ n : Abv w1, n.w.cell? ⟨w.heap.size, 0, none⟩ = some (.int .i64 y) := fun n => n.cell c0
  have e1 : ∀ n : Abv w1, n.w.cell? ⟨w.heap.size, 1, none⟩ = some (.int .i64 m) := fun n => n.cell c1
  have e2 : ∀ n : Abv w1, n.w.cell? ⟨w.heap.size, 2, none⟩ = some (.int .i64 d) := fun n => n.cell c2
  have e3 : ∀ n : Abv w1, n.w.cell? ⟨w.heap.size, 3, none⟩ = some (.int .i64 h) := fun n => n.cell c3
  have e4 : ∀ n : Abv w1, n.w.cell? ⟨w.heap.size, 4, none⟩ = some (.int .i64 mi) := fun n => n.cell c4
  have e5 : ∀ n : Abv w1, n.w.cell? ⟨w.heap.size, 5, none⟩ = some (.int .i64 s) := fun n => n.cell c5
  repeat (go_big_quiet_step ((go_at_call 76; exact Abv.call _ (long_calls _ _ _))))
  refine quiet_above ?_
  intro w2 hb2
  clear e0 e1 e2 e3 e4 e5 c0 c1 c2 c3 c4 c5
  go_wp2
  go_ret
  exact ⟨rfl, bgo hb hb2⟩

set_option maxHeartbeats 4000000 in
theorem right_3 (y m d h mi s : Int) (w : World) (r1 : -40000 ≤ y) (r2 : y ≤ 40000) (r3 : 1 ≤ m) (r4 : m ≤ 12) (a1 : 1 ≤ d) (a2 : d ≤ ml y m) (a3 : 0 ≤ h) (a4 : decide (h < 24) = false) :
    Calls Tryd.prog 75 #[.agg #[.int .i64 y, .int .i64 m, .int .i64 d, .int .i64 h, .int .i64 mi, .int .i64 s]] w fun e w' => e = .returned (.bool false) ∧ Below w.heap.size w w' := by
  go_enter Tryd.func75, Tryd.ntmps75
  go_wp2
  refine wp_world ?_
  intro w1 hw1
  have hb : Below w.heap.size w w1 := by rw [hw1]; exact balloc (Below.refl _ _) _
  have c0 : w1.cell? ⟨w.heap.size, 0, none⟩ = some (.int .i64 y) := by rw [hw1]; go_simp
  have c1 : w1.cell? ⟨w.heap.size, 1, none⟩ = some (.int .i64 m) := by rw [hw1]; go_simp
  have c2 : w1.cell? ⟨w.heap.size, 2, none⟩ = some (.int .i64 d) := by rw [hw1]; go_simp
  have c3 : w1.cell? ⟨w.heap.size, 3, none⟩ = some (.int .i64 h) := by rw [hw1]; go_simp
  have c4 : w1.cell? ⟨w.heap.size, 4, none⟩ = some (.int .i64 mi) := by rw [hw1]; go_simp
  have c5 : w1.cell? ⟨w.heap.size, 5, none⟩ = some (.int .i64 s) := by rw [hw1]; go_simp
  clear hw1
  refine wp_region_above (by kernel_rfl) (by kernel_rfl) ?_
  intro ne
  have e0 : ∀ n : Abv w1, n.w.cell? ⟨w.heap.size, 0, none⟩ = some (.int .i64 y) := fun n => n.cell c0
  have e1 : ∀ n : Abv w1, n.w.cell? ⟨w.heap.size, 1, none⟩ = some (.int .i64 m) := fun n => n.cell c1
  have e2 : ∀ n : Abv w1, n.w.cell? ⟨w.heap.size, 2, none⟩ = some (.int .i64 d) := fun n => n.cell c2
  have e3 : ∀ n : Abv w1, n.w.cell? ⟨w.heap.size, 3, none⟩ = some (.int .i64 h) := fun n => n.cell c3
  have e4 : ∀ n : Abv w1, n.w.cell? ⟨w.heap.size, 4, none⟩ = some (.int .i64 mi) := fun n => n.cell c4
  have e5 : ∀ n : Abv w1, n.w.cell? ⟨w.heap.size, 5, none⟩ = some (.int .i64 s) := fun n => n.cell c5
  repeat (go_big_quiet_step ((go_at_call 76; exact Abv.call _ (long_calls _ _ _))))
  refine quiet_above ?_
  intro w2 hb2
  clear e0 e1 e2 e3 e4 e5 c0 c1 c2 c3 c4 c5
  go_wp2
  go_ret
  exact ⟨rfl, bgo hb hb2⟩

set_option maxHeartbeats 4000000 in
theorem right_4 (y m d h mi s : Int) (w : World) (r1 : -40000 ≤ y) (r2 : y ≤ 40000) (r3 : 1 ≤ m) (r4 : m ≤ 12) (a1 : 1 ≤ d) (a2 : d ≤ ml y m) (a3 : 0 ≤ h) (a4 : h < 24) (a5 : decide (0 ≤ mi) = false) :
    Calls Tryd.prog 75 #[.agg #[.int .i64 y, .int .i64 m, .int .i64 d, .int .i64 h, .int .i64 mi, .int .i64 s]] w fun e w' => e = .returned (.bool false) ∧ Below w.heap.size w w' := by
  go_enter Tryd.func75, Tryd.ntmps75
  go_wp2
  refine wp_world ?_
  intro w1 hw1
  have hb : Below w.heap.size w w1 := by rw [hw1]; exact balloc (Below.refl _ _) _
  have c0 : w1.cell? ⟨w.heap.size, 0, none⟩ = some (.int .i64 y) := by rw [hw1]; go_simp
  have c1 : w1.cell? ⟨w.heap.size, 1, none⟩ = some (.int .i64 m) := by rw [hw1]; go_simp
  have c2 : w1.cell? ⟨w.heap.size, 2, none⟩ = some (.int .i64 d) := by rw [hw1]; go_simp
  have c3 : w1.cell? ⟨w.heap.size, 3, none⟩ = some (.int .i64 h) := by rw [hw1]; go_simp
  have c4 : w1.cell? ⟨w.heap.size, 4, none⟩ = some (.int .i64 mi) := by rw [hw1]; go_simp
  have c5 : w1.cell? ⟨w.heap.size, 5, none⟩ = some (.int .i64 s) := by rw [hw1]; go_simp
  clear hw1
  refine wp_region_above (by kernel_rfl) (by kernel_rfl) ?_
  intro ne
  have e0 : ∀ n : Abv w1, n.w.cell? ⟨w.heap.size, 0, none⟩ = some (.int .i64 y) := fun n => n.cell c0
  have e1 : ∀ n : Abv w1, n.w.cell? ⟨w.heap.size, 1, none⟩ = some (.int .i64 m) := fun n => n.cell c1
  have e2 : ∀ n : Abv w1, n.w.cell? ⟨w.heap.size, 2, none⟩ = some (.int .i64 d) := fun n => n.cell c2
  have e3 : ∀ n : Abv w1, n.w.cell? ⟨w.heap.size, 3, none⟩ = some (.int .i64 h) := fun n => n.cell c3
  have e4 : ∀ n : Abv w1, n.w.cell? ⟨w.heap.size, 4, none⟩ = some (.int .i64 mi) := fun n => n.cell c4
  have e5 : ∀ n : Abv w1, n.w.cell? ⟨w.heap.size, 5, none⟩ = some (.int .i64 s) := fun n => n.cell c5
  repeat (go_big_quiet_step ((go_at_call 76; exact Abv.call _ (long_calls _ _ _))))
  refine quiet_above ?_
  intro w2 hb2
  clear e0 e1 e2 e3 e4 e5 c0 c1 c2 c3 c4 c5
  go_wp2
  go_ret
  exact ⟨rfl, bgo hb hb2⟩

set_option maxHeartbeats 4000000 in
theorem right_5 (y m d h mi s : Int) (w : World) (r1 : -40000 ≤ y) (r2 : y ≤ 40000) (r3 : 1 ≤ m) (r4 : m ≤ 12) (a1 : 1 ≤ d) (a2 : d ≤ ml y m) (a3 : 0 ≤ h) (a4 : h < 24) (a5 : 0 ≤ mi) (a6 : decide (mi < 60) = false) :
    Calls Tryd.prog 75 #[.agg #[.int .i64 y, .int .i64 m, .int .i64 d, .int .i64 h, .int .i64 mi, .int .i64 s]] w fun e w' => e = .returned (.bool false) ∧ Below w.heap.size w w' := by
  go_enter Tryd.func75, Tryd.ntmps75
  go_wp2
  refine wp_world ?_
  intro w1 hw1
  have hb : Below w.heap.size w w1 := by rw [hw1]; exact balloc (Below.refl _ _) _
  have c0 : w1.cell? ⟨w.heap.size, 0, none⟩ = some (.int .i64 y) := by rw [hw1]; go_simp
  have c1 : w1.cell? ⟨w.heap.size, 1, none⟩ = some (.int .i64 m) := by rw [hw1]; go_simp
  have c2 : w1.cell? ⟨w.heap.size, 2, none⟩ = some (.int .i64 d) := by rw [hw1]; go_simp
  have c3 : w1.cell? ⟨w.heap.size, 3, none⟩ = some (.int .i64 h) := by rw [hw1]; go_simp
  have c4 : w1.cell? ⟨w.heap.size, 4, none⟩ = some (.int .i64 mi) := by rw [hw1]; go_simp
  have c5 : w1.cell? ⟨w.heap.size, 5, none⟩ = some (.int .i64 s) := by rw [hw1]; go_simp
  clear hw1
  refine wp_region_above (by kernel_rfl) (by kernel_rfl) ?_
  intro ne
  have e0 : ∀ n : Abv w1, n.w.cell? ⟨w.heap.size, 0, none⟩ = some (.int .i64 y) := fun n => n.cell c0
  have e1 : ∀ n : Abv w1, n.w.cell? ⟨w.heap.size, 1, none⟩ = some (.int .i64 m) := fun n => n.cell c1
  have e2 : ∀ n : Abv w1, n.w.cell? ⟨w.heap.size, 2, none⟩ = some (.int .i64 d) := fun n => n.cell c2
  have e3 : ∀ n : Abv w1, n.w.cell? ⟨w.heap.size, 3, none⟩ = some (.int .i64 h) := fun n => n.cell c3
  have e4 : ∀ n : Abv w1, n.w.cell? ⟨w.heap.size, 4, none⟩ = some (.int .i64 mi) := fun n => n.cell c4
  have e5 : ∀ n : Abv w1, n.w.cell? ⟨w.heap.size, 5, none⟩ = some (.int .i64 s) := fun n => n.cell c5
  repeat (go_big_quiet_step ((go_at_call 76; exact Abv.call _ (long_calls _ _ _))))
  refine quiet_above ?_
  intro w2 hb2
  clear e0 e1 e2 e3 e4 e5 c0 c1 c2 c3 c4 c5
  go_wp2
  go_ret
  exact ⟨rfl, bgo hb hb2⟩

set_option maxHeartbeats 4000000 in
theorem right_6 (y m d h mi s : Int) (w : World) (r1 : -40000 ≤ y) (r2 : y ≤ 40000) (r3 : 1 ≤ m) (r4 : m ≤ 12) (a1 : 1 ≤ d) (a2 : d ≤ ml y m) (a3 : 0 ≤ h) (a4 : h < 24) (a5 : 0 ≤ mi) (a6 : mi < 60) (a7 : decide (0 ≤ s) = false) :
    Calls Tryd.prog 75 #[.agg #[.int .i64 y, .int .i64 m, .int .i64 d, .int .i64 h, .int .i64 mi, .int .i64 s]] w fun e w' => e = .returned (.bool false) ∧ Below w.heap.size w w' := by
  go_enter Tryd.func75, Tryd.ntmps75
  go_wp2
  refine wp_world ?_
  intro w1 hw1
  have hb : Below w.heap.size w w1 := by rw [hw1]; exact balloc (Below.refl _ _) _
  have c0 : w1.cell? ⟨w.heap.size, 0, none⟩ = some (.int .i64 y) := by rw [hw1]; go_simp
  have c1 : w1.cell? ⟨w.heap.size, 1, none⟩ = some (.int .i64 m) := by rw [hw1]; go_simp
  have c2 : w1.cell? ⟨w.heap.size, 2, none⟩ = some (.int .i64 d) := by rw [hw1]; go_simp
  have c3 : w1.cell? ⟨w.heap.size, 3, none⟩ = some (.int .i64 h) := by rw [hw1]; go_simp
  have c4 : w1.cell? ⟨w.heap.size, 4, none⟩ = some (.int .i64 mi) := by rw [hw1]; go_simp
  have c5 : w1.cell? ⟨w.heap.size, 5, none⟩ = some (.int .i64 s) := by rw [hw1]; go_simp
  clear hw1
  refine wp_region_above (by kernel_rfl) (by kernel_rfl) ?_
  intro ne
  have e0 : ∀ n : Abv w1, n.w.cell? ⟨w.heap.size, 0, none⟩ = some (.int .i64 y) := fun n => n.cell c0
  have e1 : ∀ n : Abv w1, n.w.cell? ⟨w.heap.size, 1, none⟩ = some (.int .i64 m) := fun n => n.cell c1
  have e2 : ∀ n : Abv w1, n.w.cell? ⟨w.heap.size, 2, none⟩ = some (.int .i64 d) := fun n => n.cell c2
  have e3 : ∀ n : Abv w1, n.w.cell? ⟨w.heap.size, 3, none⟩ = some (.int .i64 h) := fun n => n.cell c3
  have e4 : ∀ n : Abv w1, n.w.cell? ⟨w.heap.size, 4, none⟩ = some (.int .i64 mi) := fun n => n.cell c4
  have e5 : ∀ n : Abv w1, n.w.cell? ⟨w.heap.size, 5, none⟩ = some (.int .i64 s) := fun n => n.cell c5
  repeat (go_big_quiet_step ((go_at_call 76; exact Abv.call _ (long_calls _ _ _))))
  refine quiet_above ?_
  intro w2 hb2
  clear e0 e1 e2 e3 e4 e5 c0 c1 c2 c3 c4 c5
  go_wp2
  go_ret
  exact ⟨rfl, bgo hb hb2⟩

set_option maxHeartbeats 4000000 in
theorem right_7 (y m d h mi s : Int) (w : World) (r1 : -40000 ≤ y) (r2 : y ≤ 40000) (r3 : 1 ≤ m) (r4 : m ≤ 12) (a1 : 1 ≤ d) (a2 : d ≤ ml y m) (a3 : 0 ≤ h) (a4 : h < 24) (a5 : 0 ≤ mi) (a6 : mi < 60) (a7 : 0 ≤ s) (a8 : decide (s < 60) = false) :
    Calls Tryd.prog 75 #[.agg #[.int .i64 y, .int .i64 m, .int .i64 d, .int .i64 h, .int .i64 mi, .int .i64 s]] w fun e w' => e = .returned (.bool false) ∧ Below w.heap.size w w' := by
  go_enter Tryd.func75, Tryd.ntmps75
  go_wp2
  refine wp_world ?_
  intro w1 hw1
  have hb : Below w.heap.size w w1 := by rw [hw1]; exact balloc (Below.refl _ _) _
  have c0 : w1.cell? ⟨w.heap.size, 0, none⟩ = some (.int .i64 y) := by rw [hw1]; go_simp
  have c1 : w1.cell? ⟨w.heap.size, 1, none⟩ = some (.int .i64 m) := by rw [hw1]; go_simp
  have c2 : w1.cell? ⟨w.heap.size, 2, none⟩ = some (.int .i64 d) := by rw [hw1]; go_simp
  have c3 : w1.cell? ⟨w.heap.size, 3, none⟩ = some (.int .i64 h) := by rw [hw1]; go_simp
  have c4 : w1.cell? ⟨w.heap.size, 4, none⟩ = some (.int .i64 mi) := by rw [hw1]; go_simp
  have c5 : w1.cell? ⟨w.heap.size, 5, none⟩ = some (.int .i64 s) := by rw [hw1]; go_simp
  clear hw1
  refine wp_region_above (by kernel_rfl) (by kernel_rfl) ?_
  intro ne
  have e0 : ∀ n : Abv w1, n.w.cell? ⟨w.heap.size, 0, none⟩ = some (.int .i64 y) := fun n => n.cell c0
  have e1 : ∀ n : Abv w1, n.w.cell? ⟨w.heap.size, 1, none⟩ = some (.int .i64 m) := fun n => n.cell c1
  have e2 : ∀ n : Abv w1, n.w.cell? ⟨w.heap.size, 2, none⟩ = some (.int .i64 d) := fun n => n.cell c2
  have e3 : ∀ n : Abv w1, n.w.cell? ⟨w.heap.size, 3, none⟩ = some (.int .i64 h) := fun n => n.cell c3
  have e4 : ∀ n : Abv w1, n.w.cell? ⟨w.heap.size, 4, none⟩ = some (.int .i64 mi) := fun n => n.cell c4
  have e5 : ∀ n : Abv w1, n.w.cell? ⟨w.heap.size, 5, none⟩ = some (.int .i64 s) := fun n => n.cell c5
  repeat (go_big_quiet_step ((go_at_call 76; exact Abv.call _ (long_calls _ _ _))))
  refine quiet_above ?_
  intro w2 hb2
  clear e0 e1 e2 e3 e4 e5 c0 c1 c2 c3 c4 c5
  go_wp2
  go_ret
  exact ⟨rfl, bgo hb hb2⟩

set_option maxHeartbeats 4000000 in
theorem right_8 (y m d h mi s : Int) (w : World) (r1 : -40000 ≤ y) (r2 : y ≤ 40000) (r3 : 1 ≤ m) (r4 : m ≤ 12) (a1 : 1 ≤ d) (a2 : d ≤ ml y m) (a3 : 0 ≤ h) (a4 : h < 24) (a5 : 0 ≤ mi) (a6 : mi < 60) (a7 : 0 ≤ s) (a8 : s < 60) :
    Calls Tryd.prog 75 #[.agg #[.int .i64 y, .int .i64 m, .int .i64 d, .int .i64 h, .int .i64 mi, .int .i64 s]] w fun e w' => e = .returned (.bool true) ∧ Below w.heap.size w w' := by
  go_enter Tryd.func75, Tryd.ntmps75
  go_wp2
  refine wp_world ?_
  intro w1 hw1
  have hb : Below w.heap.size w w1 := by rw [hw1]; exact balloc (Below.refl _ _) _
  have c0 : w1.cell? ⟨w.heap.size, 0, none⟩ = some (.int .i64 y) := by rw [hw1]; go_simp
  have c1 : w1.cell? ⟨w.heap.size, 1, none⟩ = some (.int .i64 m) := by rw [hw1]; go_simp
  have c2 : w1.cell? ⟨w.heap.size, 2, none⟩ = some (.int .i64 d) := by rw [hw1]; go_simp
  have c3 : w1.cell? ⟨w.heap.size, 3, none⟩ = some (.int .i64 h) := by rw [hw1]; go_simp
  have c4 : w1.cell? ⟨w.heap.size, 4, none⟩ = some (.int .i64 mi) := by rw [hw1]; go_simp
  have c5 : w1.cell? ⟨w.heap.size, 5, none⟩ = some (.int .i64 s) := by rw [hw1]; go_simp
  clear hw1
  refine wp_region_above (by kernel_rfl) (by kernel_rfl) ?_
  intro ne
  have e0 : ∀ n : Abv w1, n.w.cell? ⟨w.heap.size, 0, none⟩ = some (.int .i64 y) := fun n => n.cell c0
  have e1 : ∀ n : Abv w1, n.w.cell? ⟨w.heap.size, 1, none⟩ = some (.int .i64 m) := fun n => n.cell c1
  have e2 : ∀ n : Abv w1, n.w.cell? ⟨w.heap.size, 2, none⟩ = some (.int .i64 d) := fun n => n.cell c2
  have e3 : ∀ n : Abv w1, n.w.cell? ⟨w.heap.size, 3, none⟩ = some (.int .i64 h) := fun n => n.cell c3
  have e4 : ∀ n : Abv w1, n.w.cell? ⟨w.heap.size, 4, none⟩ = some (.int .i64 mi) := fun n => n.cell c4
  have e5 : ∀ n : Abv w1, n.w.cell? ⟨w.heap.size, 5, none⟩ = some (.int .i64 s) := fun n => n.cell c5
  repeat (go_big_quiet_step ((go_at_call 76; exact Abv.call _ (long_calls _ _ _))))
  refine quiet_above ?_
  intro w2 hb2
  clear e0 e1 e2 e3 e4 e5 c0 c1 c2 c3 c4 c5
  go_wp2
  go_ret
  exact ⟨rfl, bgo hb hb2⟩

set_option maxHeartbeats 4000000 in
theorem right_out (y m d h mi s : Int) (w : World) (r : y < -40000 ∨ 40000 < y ∨ m < 1 ∨ 12 < m) :
    Calls Tryd.prog 75 #[.agg #[.int .i64 y, .int .i64 m, .int .i64 d, .int .i64 h, .int .i64 mi, .int .i64 s]] w fun e w' => e = .returned (.bool false) ∧ Below w.heap.size w w' := by
  by_cases r1 : y < -40000
  · go_enter Tryd.func75, Tryd.ntmps75
    go_wp2
    go_ret
    exact ⟨rfl, below_alloc (Below.refl _ _) _⟩
  by_cases r2 : 40000 < y
  · go_enter Tryd.func75, Tryd.ntmps75
    go_wp2
    go_ret
    exact ⟨rfl, below_alloc (Below.refl _ _) _⟩
  by_cases r3 : m < 1
  · go_enter Tryd.func75, Tryd.ntmps75
    go_wp2
    go_ret
    exact ⟨rfl, below_alloc (Below.refl _ _) _⟩
  have r4 : 12 < m := by omega
  go_enter Tryd.func75, Tryd.ntmps75
  go_wp2
  go_ret
  exact ⟨rfl, below_alloc (Below.refl _ _) _⟩
theorem right_calls (y m d h mi s : Int) (w : World) :
    Calls Tryd.prog 75 #[.agg #[.int .i64 y, .int .i64 m, .int .i64 d, .int .i64 h, .int .i64 mi, .int .i64 s]] w fun e w' => e = .returned (.bool (rightB y m d h mi s)) ∧ Below w.heap.size w w' := by
  unfold rightB
  by_cases r : y < -40000 ∨ 40000 < y ∨ m < 1 ∨ 12 < m
  · rw [decide_eq_false (by omega)]; exact right_out y m d h mi s w r
  have q1 : -40000 ≤ y := by omega
  have q2 : y ≤ 40000 := by omega
  have q3 : 1 ≤ m := by omega
  have q4 : m ≤ 12 := by omega
  by_cases a1 : 1 ≤ d
  case neg => rw [decide_eq_false (by omega)]; exact right_0 y m d h mi s w q1 q2 q3 q4  (decide_eq_false a1)
  by_cases a2 : d ≤ ml y m
  case neg => rw [decide_eq_false (by omega)]; exact right_1 y m d h mi s w q1 q2 q3 q4 a1 (decide_eq_false a2)
  by_cases a3 : 0 ≤ h
  case neg => rw [decide_eq_false (by omega)]; exact right_2 y m d h mi s w q1 q2 q3 q4 a1 a2 (decide_eq_false a3)
  by_cases a4 : h < 24
  case neg => rw [decide_eq_false (by omega)]; exact right_3 y m d h mi s w q1 q2 q3 q4 a1 a2 a3 (decide_eq_false a4)
  by_cases a5 : 0 ≤ mi
  case neg => rw [decide_eq_false (by omega)]; exact right_4 y m d h mi s w q1 q2 q3 q4 a1 a2 a3 a4 (decide_eq_false a5)
  by_cases a6 : mi < 60
  case neg => rw [decide_eq_false (by omega)]; exact right_5 y m d h mi s w q1 q2 q3 q4 a1 a2 a3 a4 a5 (decide_eq_false a6)
  by_cases a7 : 0 ≤ s
  case neg => rw [decide_eq_false (by omega)]; exact right_6 y m d h mi s w q1 q2 q3 q4 a1 a2 a3 a4 a5 a6 (decide_eq_false a7)
  by_cases a8 : s < 60
  case neg => rw [decide_eq_false (by omega)]; exact right_7 y m d h mi s w q1 q2 q3 q4 a1 a2 a3 a4 a5 a6 a7 (decide_eq_false a8)
  rw [decide_eq_true (by omega)]; exact right_8 y m d h mi s w q1 q2 q3 q4 a1 a2 a3 a4 a5 a6 a7 a8
end Go.Proofs.YtoiffnoiliknnaaDoor.Tim
