/- TimRight, TimSec, TimDay, TimRef, TimRef2, TimPl, TimRD put together. -/
import Derived.Test.YtoiffnoiliknnaaDoorPlongx1
import Derived.Test.YtoiffnoiliknnaaDoorPfloorx1
import Derived.Test.YtoiffnoiliknnaaDoorPmonthx1
import Derived.Test.YtoiffnoiliknnaaDoorReg
import Derived.Lib.Hide
set_option linter.unusedVariables false
namespace Go.Proofs.YtoiffnoiliknnaaDoor.Tim
open Go.RowKit Go.BigFrame Go.Proofs.YtoiffnoiliknnaaDoor.Reg Go.Proofs.YtoiffnoiliknnaaDoor.Plong Go.Proofs.YtoiffnoiliknnaaDoor.Pfloor Go.Proofs.YtoiffnoiliknnaaDoor.Pmonth Go.Proofs.YtoiffnoiliknnaaDoorW.PrintWords Go.Proofs.YtoiffnoiliknnaaDoorW.PrintLast Go.Proofs.YtoiffnoiliknnaaDoorW.PrintMore

def leapB (y : Int) : Bool := decide (y % 4 = 0 ∧ (y % 100 ≠ 0 ∨ y % 400 = 0))
def ml (y m : Int) : Int := if m = 2 then (if leapB y then 29 else 28) else if m = 4 ∨ m = 6 ∨ m = 9 ∨ m = 11 then 30 else 31
theorem ml_bd (y m : Int) : 28 ≤ ml y m ∧ ml y m ≤ 31 := by unfold ml; split <;> split <;> omega
def rightB (y m d h mi s : Int) : Bool := decide (-40000 ≤ y ∧ y ≤ 40000 ∧ 1 ≤ m ∧ m ≤ 12 ∧ 1 ≤ d ∧ d ≤ ml y m ∧ 0 ≤ h ∧ h < 24 ∧ 0 ≤ mi ∧ mi < 60 ∧ 0 ≤ s ∧ s < 60)

theorem tmod4 (y : Int) : Int.tmod y 4 = 0 ↔ y % 4 = 0 := by rw [← Int.dvd_iff_tmod_eq_zero, ← Int.dvd_iff_emod_eq_zero]
theorem tmod100 (y : Int) : Int.tmod y 100 = 0 ↔ y % 100 = 0 := by rw [← Int.dvd_iff_tmod_eq_zero, ← Int.dvd_iff_emod_eq_zero]
theorem tmod400 (y : Int) : Int.tmod y 400 = 0 ↔ y % 400 = 0 := by rw [← Int.dvd_iff_tmod_eq_zero, ← Int.dvd_iff_emod_eq_zero]
theorem w1 : wrap64 1 = 1 := by unfold wrap64; omega
theorem w2 : wrap64 2 = 2 := by unfold wrap64; omega
theorem w3 : wrap64 3 = 3 := by unfold wrap64; omega
theorem w4 : wrap64 4 = 4 := by unfold wrap64; omega
theorem index_four (m : Int) : slices_Index_int_int.f 5 [4, 6, 9, 11] m = some (if m = 4 then 0 else if m = 6 then 1 else if m = 9 then 2 else if m = 11 then 3 else -1) := by
  unfold slices_Index_int_int.f
  by_cases h1 : m = 4
  · subst h1; simp [slices_Index_int_int.l0, rd]
  by_cases h2 : m = 6
  · subst h2; simp [slices_Index_int_int.l0, rd, w1]
  by_cases h3 : m = 9
  · subst h3; simp [slices_Index_int_int.l0, rd, w1, w2]
  by_cases h4 : m = 11
  · subst h4; simp [slices_Index_int_int.l0, rd, w1, w2, w3]
  · simp [slices_Index_int_int.l0, rd, w1, w2, w3, w4, h1, h2, h3, h4]
theorem contains_four (m : Int) : slices_Contains_int_int.f 5 [4, 6, 9, 11] m = some (decide (m = 4 ∨ m = 6 ∨ m = 9 ∨ m = 11)) := by
  unfold slices_Contains_int_int.f
  rw [index_four]
  simp only [Option.bind_some, Option.some.injEq]
  by_cases h1 : m = 4
  · simp [h1]
  by_cases h2 : m = 6
  · simp [h2]
  by_cases h3 : m = 9
  · simp [h3]
  by_cases h4 : m = 11
  · simp [h4]
  · simp [h1, h2, h3, h4]
theorem long_f (y m : Int) : tree_long.f 6 y m = some (ml y m) := by
  unfold tree_long.f ml
  have hn : m ≠ 2 → tree_long.j0 6 m false = some (if m = 4 ∨ m = 6 ∨ m = 9 ∨ m = 11 then 30 else 31) := by
    intro h2
    simp only [tree_long.j0]
    rw [if_neg (by simp), if_neg h2, contains_four]
    simp only [Option.bind_some, decide_eq_true_eq]
    split <;> rfl
  have hy : ∀ b, tree_long.j0 6 2 b = some (if b = true then 29 else 28) := by
    intro b
    simp only [tree_long.j0]
    cases b <;> simp
  by_cases h2 : m = 2
  · subst h2
    rw [if_pos rfl, if_pos rfl]
    unfold leapB
    simp only [tmod4, tmod100]
    by_cases h4 : y % 4 = 0
    · rw [if_pos h4]
      by_cases h100 : y % 100 = 0
      · rw [if_pos h100, hy]
        congr 1
        have : (Int.tmod y 400 == 0) = decide (y % 400 = 0) := by
          rw [Bool.eq_iff_iff, beq_iff_eq, decide_eq_true_eq]; exact tmod400 y
        rw [this]
        simp [h4, h100]
      · rw [if_neg h100, hy]; simp [h4, h100]
    · rw [if_neg h4, hy]; simp [h4]
  · rw [if_neg h2, if_neg h2, hn h2]
theorem long_calls (y m : Int) (w : World) : Calls Tryd.prog 76 #[.int .i64 y, .int .i64 m] w fun e w' => e = .returned (.int .i64 (ml y m)) ∧ Below w.heap.size w w' :=
  tree_long.calls 6 y m _ w (long_f y m)

set_option maxHeartbeats 4000000 in
theorem right_0 (y m d h mi s : Int) (w : World) (r1 : -40000 ≤ y) (r2 : y ≤ 40000) (r3 : 1 ≤ m) (r4 : m ≤ 12)  (a1 : decide (1 ≤ d) = false) :
    Calls Tryd.prog 75 #[.agg #[.int .i64 y, .int .i64 m, .int .i64 d, .int .i64 h, .int .i64 mi, .int .i64 s]] w fun e w' => e = .returned (.bool false) ∧ Below w.heap.size w w' := by
  go_enter Tryd.func75, Tryd.ntmps75
  go_wp2
  go_quiet (fail)
  go_wp2
  go_ret
  exact ⟨rfl, pw_below_drewN (below_alloc (Below.refl _ _) _) _⟩

set_option maxHeartbeats 4000000 in
theorem right_1 (y m d h mi s : Int) (w : World) (r1 : -40000 ≤ y) (r2 : y ≤ 40000) (r3 : 1 ≤ m) (r4 : m ≤ 12) (a1 : 1 ≤ d) (a2 : decide (d ≤ ml y m) = false) :
    Calls Tryd.prog 75 #[.agg #[.int .i64 y, .int .i64 m, .int .i64 d, .int .i64 h, .int .i64 mi, .int .i64 s]] w fun e w' => e = .returned (.bool false) ∧ Below w.heap.size w w' := by
  go_enter Tryd.func75, Tryd.ntmps75
  go_wp2
  refine wp_world ?_
  intro w1 hw1
  have hb : Below w.heap.size w w1 := by rw [hw1]; exact balloc (Below.refl _ _) _
  have c0 : w1.cell? ⟨w.heap.size, 0, none⟩ = some (.int .i64 y) := by rw [hw1]; go_simp
  have c1 : w1.cell? ⟨w.heap.size, 1, none⟩ = some (.int .i64 m) := by rw [hw1]; go_simp
  have c2 : w1.cell? ⟨w.heap.size, 2, none⟩ = some (.int .i64 d) := by rw [hw1]; go_simp
  have c3 : w1.cell? ⟨w.heap.size, 3, none⟩ = some (.int .i64 h) := by rw [hw1]; go_simp
  have c4 : w1.cell? ⟨w.heap.size, 4, none⟩ = some (.int .i64 mi) := by rw [hw1]; go_simp
  have c5 : w1.cell? ⟨w.heap.size, 5, none⟩ = some (.int .i64 s) := by rw [hw1]; go_simp
  clear hw1
  refine wp_region_above (by kernel_rfl) (by kernel_rfl) ?_
  intro ne
  have e0 : ∀ n : Abv w1, n.w.cell? ⟨w.heap.size, 0, none⟩ = some (.int .i64 y) := fun n => n.cell c0
  have e1 : ∀ n : Abv w1, n.w.cell? ⟨w.heap.size, 1, none⟩ = some (.int .i64 m) := fun n => n.cell c1
  have e2 : ∀ n : Abv w1, n.w.cell? ⟨w.heap.size, 2, none⟩ = some (.int .i64 d) := fun n => n.cell c2
  have e3 : ∀ n : Abv w1, n.w.cell? ⟨w.heap.size, 3, none⟩ = some (.int .i64 h) := fun n => n.cell c3
  have e4 : ∀ n : Abv w1, n.w.cell? ⟨w.heap.size, 4, none⟩ = some (.int .i64 mi) := fun n => n.cell c4
  have e5 : ∀ n : Abv w1, n.w.cell? ⟨w.heap.size, 5, none⟩ = some (.int .i64 s) := fun n => n.cell c5
  repeat (go_big_quiet_step ((go_at_call 76; exact Abv.call _ (long_calls _ _ _))))
  refine quiet_above ?_
  intro w2 hb2
  clear e0 e1 e2 e3 e4 e5 c0 c1 c2 c3 c4 c5
  go_wp2
  go_ret
  exact ⟨rfl, bgo hb hb2⟩

set_option maxHeartbeats 4000000 in
theorem right_2 (y m d h mi s : Int) (w : World) (r1 : -40000 ≤ y) (r2 : y ≤ 40000) (r3 : 1 ≤ m) (r4 : m ≤ 12) (a1 : 1 ≤ d) (a2 : d ≤ ml y m) (a3 : decide (0 ≤ h) = false) :
    Calls Tryd.prog 75 #[.agg #[.int .i64 y, .int .i64 m, .int .i64 d, .int .i64 h, .int .i64 mi, .int .i64 s]] w fun e w' => e = .returned (.bool false) ∧ Below w.heap.size w w' := by
  go_enter Tryd.func75, Tryd.ntmps75
  go_wp2
  refine wp_world ?_
  intro w1 hw1
  have hb : Below w.heap.size w w1 := by rw [hw1]; exact balloc (Below.refl _ _) _
  have c0 : w1.cell? ⟨w.heap.size, 0, none⟩ = some (.int .i64 y) := by rw [hw1]; go_simp
  have c1 : w1.cell? ⟨w.heap.size, 1, none⟩ = some (.int .i64 m) := by rw [hw1]; go_simp
  have c2 : w1.cell? ⟨w.heap.size, 2, none⟩ = some (.int .i64 d) := by rw [hw1]; go_simp
  have c3 : w1.cell? ⟨w.heap.size, 3, none⟩ = some (.int .i64 h) := by rw [hw1]; go_simp
  have c4 : w1.cell? ⟨w.heap.size, 4, none⟩ = some (.int .i64 mi) := by rw [hw1]; go_simp
  have c5 : w1.cell? ⟨w.heap.size, 5, none⟩ = some (.int .i64 s) := by rw [hw1]; go_simp
  clear hw1
  refine wp_region_above (by kernel_rfl) (by kernel_rfl) ?_
  intro ne
  have e0 : ∀ n : Abv w1, n.w.cell? ⟨w.heap.size, 0, none⟩ = some (.int .i64 y) := fun n => n.cell c0
  have e1 : ∀ n : Abv w1, n.w.cell? ⟨w.heap.size, 1, none⟩ = some (.int .i64 m) := fun n => n.cell c1
  have e2 : ∀ n : Abv w1, n.w.cell? ⟨w.heap.size, 2, none⟩ = some (.int .i64 d) := fun n => n.cell c2
  have e3 : ∀ n : Abv w1, n.w.cell? ⟨w.heap.size, 3, none⟩ = some (.int .i64 h) := fun n => n.cell c3
  have e4 : ∀ n : Abv w1, n.w.cell? ⟨w.heap.size, 4, none⟩ = some (.int .i64 mi) := fun n => n.cell c4
  have e5 : ∀ n : Abv w1, n.w.cell? ⟨w.heap.size, 5, none⟩ = some (.int .i64 s) := fun n => n.cell c5
  repeat (go_big_quiet_step ((go_at_call 76; exact Abv.call _ (long_calls _ _ _))))
  refine quiet_above ?_
  intro w2 hb2
  clear e0 e1 e2 e3 e4 e5 c0 c1 c2 c3 c4 c5
  go_wp2
  go_ret
  exact ⟨rfl, bgo hb hb2⟩

set_option maxHeartbeats 4000000 in
theorem right_3 (y m d h mi s : Int) (w : World) (r1 : -40000 ≤ y) (r2 : y ≤ 40000) (r3 : 1 ≤ m) (r4 : m ≤ 12) (a1 : 1 ≤ d) (a2 : d ≤ ml y m) (a3 : 0 ≤ h) (a4 : decide (h < 24) = false) :
    Calls Tryd.prog 75 #[.agg #[.int .i64 y, .int .i64 m, .int .i64 d, .int .i64 h, .int .i64 mi, .int .i64 s]] w fun e w' => e = .returned (.bool false) ∧ Below w.heap.size w w' := by
  go_enter Tryd.func75, Tryd.ntmps75
  go_wp2
  refine wp_world ?_
  intro w1 hw1
  have hb : Below w.heap.size w w1 := by rw [hw1]; exact balloc (Below.refl _ _) _
  have c0 : w1.cell? ⟨w.heap.size, 0, none⟩ = some (.int .i64 y) := by rw [hw1]; go_simp
  have c1 : w1.cell? ⟨w.heap.size, 1, none⟩ = some (.int .i64 m) := by rw [hw1]; go_simp
  have c2 : w1.cell? ⟨w.heap.size, 2, none⟩ = some (.int .i64 d) := by rw [hw1]; go_simp
  have c3 : w1.cell? ⟨w.heap.size, 3, none⟩ = some (.int .i64 h) := by rw [hw1]; go_simp
  have c4 : w1.cell? ⟨w.heap.size, 4, none⟩ = some (.int .i64 mi) := by rw [hw1]; go_simp
  have c5 : w1.cell? ⟨w.heap.size, 5, none⟩ = some (.int .i64 s) := by rw [hw1]; go_simp
  clear hw1
  refine wp_region_above (by kernel_rfl) (by kernel_rfl) ?_
  intro ne
  have e0 : ∀ n : Abv w1, n.w.cell? ⟨w.heap.size, 0, none⟩ = some (.int .i64 y) := fun n => n.cell c0
  have e1 : ∀ n : Abv w1, n.w.cell? ⟨w.heap.size, 1, none⟩ = some (.int .i64 m) := fun n => n.cell c1
  have e2 : ∀ n : Abv w1, n.w.cell? ⟨w.heap.size, 2, none⟩ = some (.int .i64 d) := fun n => n.cell c2
  have e3 : ∀ n : Abv w1, n.w.cell? ⟨w.heap.size, 3, none⟩ = some (.int .i64 h) := fun n => n.cell c3
  have e4 : ∀ n : Abv w1, n.w.cell? ⟨w.heap.size, 4, none⟩ = some (.int .i64 mi) := fun n => n.cell c4
  have e5 : ∀ n : Abv w1, n.w.cell? ⟨w.heap.size, 5, none⟩ = some (.int .i64 s) := fun n => n.cell c5
  repeat (go_big_quiet_step ((go_at_call 76; exact Abv.call _ (long_calls _ _ _))))
  refine quiet_above ?_
  intro w2 hb2
  clear e0 e1 e2 e3 e4 e5 c0 c1 c2 c3 c4 c5
  go_wp2
  go_ret
  exact ⟨rfl, bgo hb hb2⟩

set_option maxHeartbeats 4000000 in
theorem right_4 (y m d h mi s : Int) (w : World) (r1 : -40000 ≤ y) (r2 : y ≤ 40000) (r3 : 1 ≤ m) (r4 : m ≤ 12) (a1 : 1 ≤ d) (a2 : d ≤ ml y m) (a3 : 0 ≤ h) (a4 : h < 24) (a5 : decide (0 ≤ mi) = false) :
    Calls Tryd.prog 75 #[.agg #[.int .i64 y, .int .i64 m, .int .i64 d, .int .i64 h, .int .i64 mi, .int .i64 s]] w fun e w' => e = .returned (.bool false) ∧ Below w.heap.size w w' := by
  go_enter Tryd.func75, Tryd.ntmps75
  go_wp2
  refine wp_world ?_
  intro w1 hw1
  have hb : Below w.heap.size w w1 := by rw [hw1]; exact balloc (Below.refl _ _) _
  have c0 : w1.cell? ⟨w.heap.size, 0, none⟩ = some (.int .i64 y) := by rw [hw1]; go_simp
  have c1 : w1.cell? ⟨w.heap.size, 1, none⟩ = some (.int .i64 m) := by rw [hw1]; go_simp
  have c2 : w1.cell? ⟨w.heap.size, 2, none⟩ = some (.int .i64 d) := by rw [hw1]; go_simp
  have c3 : w1.cell? ⟨w.heap.size, 3, none⟩ = some (.int .i64 h) := by rw [hw1]; go_simp
  have c4 : w1.cell? ⟨w.heap.size, 4, none⟩ = some (.int .i64 mi) := by rw [hw1]; go_simp
  have c5 : w1.cell? ⟨w.heap.size, 5, none⟩ = some (.int .i64 s) := by rw [hw1]; go_simp
  clear hw1
  refine wp_region_above (by kernel_rfl) (by kernel_rfl) ?_
  intro ne
  have e0 : ∀ n : Abv w1, n.w.cell? ⟨w.heap.size, 0, none⟩ = some (.int .i64 y) := fun n => n.cell c0
  have e1 : ∀ n : Abv w1, n.w.cell? ⟨w.heap.size, 1, none⟩ = some (.int .i64 m) := fun n => n.cell c1
  have e2 : ∀ n : Abv w1, n.w.cell? ⟨w.heap.size, 2, none⟩ = some (.int .i64 d) := fun n => n.cell c2
  have e3 : ∀ n : Abv w1, n.w.cell? ⟨w.heap.size, 3, none⟩ = some (.int .i64 h) := fun n => n.cell c3
  have e4 : ∀ n : Abv w1, n.w.cell? ⟨w.heap.size, 4, none⟩ = some (.int .i64 mi) := fun n => n.cell c4
  have e5 : ∀ n : Abv w1, n.w.cell? ⟨w.heap.size, 5, none⟩ = some (.int .i64 s) := fun n => n.cell c5
  repeat (go_big_quiet_step ((go_at_call 76; exact Abv.call _ (long_calls _ _ _))))
  refine quiet_above ?_
  intro w2 hb2
  clear e0 e1 e2 e3 e4 e5 c0 c1 c2 c3 c4 c5
  go_wp2
  go_ret
  exact ⟨rfl, bgo hb hb2⟩

set_option maxHeartbeats 4000000 in
theorem right_5 (y m d h mi s : Int) (w : World) (r1 : -40000 ≤ y) (r2 : y ≤ 40000) (r3 : 1 ≤ m) (r4 : m ≤ 12) (a1 : 1 ≤ d) (a2 : d ≤ ml y m) (a3 : 0 ≤ h) (a4 : h < 24) (a5 : 0 ≤ mi) (a6 : decide (mi < 60) = false) :
    Calls Tryd.prog 75 #[.agg #[.int .i64 y, .int .i64 m, .int .i64 d, .int .i64 h, .int .i64 mi, .int .i64 s]] w fun e w' => e = .returned (.bool false) ∧ Below w.heap.size w w' := by
  go_enter Tryd.func75, Tryd.ntmps75
  go_wp2
  refine wp_world ?_
  intro w1 hw1
  have hb : Below w.heap.size w w1 := by rw [hw1]; exact balloc (Below.refl _ _) _
  have c0 : w1.cell? ⟨w.heap.size, 0, none⟩ = some (.int .i64 y) := by rw [hw1]; go_simp
  have c1 : w1.cell? ⟨w.heap.size, 1, none⟩ = some (.int .i64 m) := by rw [hw1]; go_simp
  have c2 : w1.cell? ⟨w.heap.size, 2, none⟩ = some (.int .i64 d) := by rw [hw1]; go_simp
  have c3 : w1.cell? ⟨w.heap.size, 3, none⟩ = some (.int .i64 h) := by rw [hw1]; go_simp
  have c4 : w1.cell? ⟨w.heap.size, 4, none⟩ = some (.int .i64 mi) := by rw [hw1]; go_simp
  have c5 : w1.cell? ⟨w.heap.size, 5, none⟩ = some (.int .i64 s) := by rw [hw1]; go_simp
  clear hw1
  refine wp_region_above (by kernel_rfl) (by kernel_rfl) ?_
  intro ne
  have e0 : ∀ n : Abv w1, n.w.cell? ⟨w.heap.size, 0, none⟩ = some (.int .i64 y) := fun n => n.cell c0
  have e1 : ∀ n : Abv w1, n.w.cell? ⟨w.heap.size, 1, none⟩ = some (.int .i64 m) := fun n => n.cell c1
  have e2 : ∀ n : Abv w1, n.w.cell? ⟨w.heap.size, 2, none⟩ = some (.int .i64 d) := fun n => n.cell c2
  have e3 : ∀ n : Abv w1, n.w.cell? ⟨w.heap.size, 3, none⟩ = some (.int .i64 h) := fun n => n.cell c3
  have e4 : ∀ n : Abv w1, n.w.cell? ⟨w.heap.size, 4, none⟩ = some (.int .i64 mi) := fun n => n.cell c4
  have e5 : ∀ n : Abv w1, n.w.cell? ⟨w.heap.size, 5, none⟩ = some (.int .i64 s) := fun n => n.cell c5
  repeat (go_big_quiet_step ((go_at_call 76; exact Abv.call _ (long_calls _ _ _))))
  refine quiet_above ?_
  intro w2 hb2
  clear e0 e1 e2 e3 e4 e5 c0 c1 c2 c3 c4 c5
  go_wp2
  go_ret
  exact ⟨rfl, bgo hb hb2⟩

set_option maxHeartbeats 4000000 in
theorem right_6 (y m d h mi s : Int) (w : World) (r1 : -40000 ≤ y) (r2 : y ≤ 40000) (r3 : 1 ≤ m) (r4 : m ≤ 12) (a1 : 1 ≤ d) (a2 : d ≤ ml y m) (a3 : 0 ≤ h) (a4 : h < 24) (a5 : 0 ≤ mi) (a6 : mi < 60) (a7 : decide (0 ≤ s) = false) :
    Calls Tryd.prog 75 #[.agg #[.int .i64 y, .int .i64 m, .int .i64 d, .int .i64 h, .int .i64 mi, .int .i64 s]] w fun e w' => e = .returned (.bool false) ∧ Below w.heap.size w w' := by
  go_enter Tryd.func75, Tryd.ntmps75
  go_wp2
  refine wp_world ?_
  intro w1 hw1
  have hb : Below w.heap.size w w1 := by rw [hw1]; exact balloc (Below.refl _ _) _
  have c0 : w1.cell? ⟨w.heap.size, 0, none⟩ = some (.int .i64 y) := by rw [hw1]; go_simp
  have c1 : w1.cell? ⟨w.heap.size, 1, none⟩ = some (.int .i64 m) := by rw [hw1]; go_simp
  have c2 : w1.cell? ⟨w.heap.size, 2, none⟩ = some (.int .i64 d) := by rw [hw1]; go_simp
  have c3 : w1.cell? ⟨w.heap.size, 3, none⟩ = some (.int .i64 h) := by rw [hw1]; go_simp
  have c4 : w1.cell? ⟨w.heap.size, 4, none⟩ = some (.int .i64 mi) := by rw [hw1]; go_simp
  have c5 : w1.cell? ⟨w.heap.size, 5, none⟩ = some (.int .i64 s) := by rw [hw1]; go_simp
  clear hw1
  refine wp_region_above (by kernel_rfl) (by kernel_rfl) ?_
  intro ne
  have e0 : ∀ n : Abv w1, n.w.cell? ⟨w.heap.size, 0, none⟩ = some (.int .i64 y) := fun n => n.cell c0
  have e1 : ∀ n : Abv w1, n.w.cell? ⟨w.heap.size, 1, none⟩ = some (.int .i64 m) := fun n => n.cell c1
  have e2 : ∀ n : Abv w1, n.w.cell? ⟨w.heap.size, 2, none⟩ = some (.int .i64 d) := fun n => n.cell c2
  have e3 : ∀ n : Abv w1, n.w.cell? ⟨w.heap.size, 3, none⟩ = some (.int .i64 h) := fun n => n.cell c3
  have e4 : ∀ n : Abv w1, n.w.cell? ⟨w.heap.size, 4, none⟩ = some (.int .i64 mi) := fun n => n.cell c4
  have e5 : ∀ n : Abv w1, n.w.cell? ⟨w.heap.size, 5, none⟩ = some (.int .i64 s) := fun n => n.cell c5
  repeat (go_big_quiet_step ((go_at_call 76; exact Abv.call _ (long_calls _ _ _))))
  refine quiet_above ?_
  intro w2 hb2
  clear e0 e1 e2 e3 e4 e5 c0 c1 c2 c3 c4 c5
  go_wp2
  go_ret
  exact ⟨rfl, bgo hb hb2⟩

set_option maxHeartbeats 4000000 in
theorem right_7 (y m d h mi s : Int) (w : World) (r1 : -40000 ≤ y) (r2 : y ≤ 40000) (r3 : 1 ≤ m) (r4 : m ≤ 12) (a1 : 1 ≤ d) (a2 : d ≤ ml y m) (a3 : 0 ≤ h) (a4 : h < 24) (a5 : 0 ≤ mi) (a6 : mi < 60) (a7 : 0 ≤ s) (a8 : decide (s < 60) = false) :
    Calls Tryd.prog 75 #[.agg #[.int .i64 y, .int .i64 m, .int .i64 d, .int .i64 h, .int .i64 mi, .int .i64 s]] w fun e w' => e = .returned (.bool false) ∧ Below w.heap.size w w' := by
  go_enter Tryd.func75, Tryd.ntmps75
  go_wp2
  refine wp_world ?_
  intro w1 hw1
  have hb : Below w.heap.size w w1 := by rw [hw1]; exact balloc (Below.refl _ _) _
  have c0 : w1.cell? ⟨w.heap.size, 0, none⟩ = some (.int .i64 y) := by rw [hw1]; go_simp
  have c1 : w1.cell? ⟨w.heap.size, 1, none⟩ = some (.int .i64 m) := by rw [hw1]; go_simp
  have c2 : w1.cell? ⟨w.heap.size, 2, none⟩ = some (.int .i64 d) := by rw [hw1]; go_simp
  have c3 : w1.cell? ⟨w.heap.size, 3, none⟩ = some (.int .i64 h) := by rw [hw1]; go_simp
  have c4 : w1.cell? ⟨w.heap.size, 4, none⟩ = some (.int .i64 mi) := by rw [hw1]; go_simp
  have c5 : w1.cell? ⟨w.heap.size, 5, none⟩ = some (.int .i64 s) := by rw [hw1]; go_simp
  clear hw1
  refine wp_region_above (by kernel_rfl) (by kernel_rfl) ?_
  intro ne
  have e0 : ∀ n : Abv w1, n.w.cell? ⟨w.heap.size, 0, none⟩ = some (.int .i64 y) := fun n => n.cell c0
  have e1 : ∀ n : Abv w1, n.w.cell? ⟨w.heap.size, 1, none⟩ = some (.int .i64 m) := fun n => n.cell c1
  have e2 : ∀ n : Abv w1, n.w.cell? ⟨w.heap.size, 2, none⟩ = some (.int .i64 d) := fun n => n.cell c2
  have e3 : ∀ n : Abv w1, n.w.cell? ⟨w.heap.size, 3, none⟩ = some (.int .i64 h) := fun n => n.cell c3
  have e4 : ∀ n : Abv w1, n.w.cell? ⟨w.heap.size, 4, none⟩ = some (.int .i64 mi) := fun n => n.cell c4
  have e5 : ∀ n : Abv w1, n.w.cell? ⟨w.heap.size, 5, none⟩ = some (.int .i64 s) := fun n => n.cell c5
  repeat (go_big_quiet_step ((go_at_call 76; exact Abv.call _ (long_calls _ _ _))))
  refine quiet_above ?_
  intro w2 hb2
  clear e0 e1 e2 e3 e4 e5 c0 c1 c2 c3 c4 c5
  go_wp2
  go_ret
  exact ⟨rfl, bgo hb hb2⟩

set_option maxHeartbeats 4000000 in
theorem right_8 (y m d h mi s : Int) (w : World) (r1 : -40000 ≤ y) (r2 : y ≤ 40000) (r3 : 1 ≤ m) (r4 : m ≤ 12) (a1 : 1 ≤ d) (a2 : d ≤ ml y m) (a3 : 0 ≤ h) (a4 : h < 24) (a5 : 0 ≤ mi) (a6 : mi < 60) (a7 : 0 ≤ s) (a8 : s < 60) :
    Calls Tryd.prog 75 #[.agg #[.int .i64 y, .int .i64 m, .int .i64 d, .int .i64 h, .int .i64 mi, .int .i64 s]] w fun e w' => e = .returned (.bool true) ∧ Below w.heap.size w w' := by
  go_enter Tryd.func75, Tryd.ntmps75
  go_wp2
  refine wp_world ?_
  intro w1 hw1
  have hb : Below w.heap.size w w1 := by rw [hw1]; exact balloc (Below.refl _ _) _
  have c0 : w1.cell? ⟨w.heap.size, 0, none⟩ = some (.int .i64 y) := by rw [hw1]; go_simp
  have c1 : w1.cell? ⟨w.heap.size, 1, none⟩ = some (.int .i64 m) := by rw [hw1]; go_simp
  have c2 : w1.cell? ⟨w.heap.size, 2, none⟩ = some (.int .i64 d) := by rw [hw1]; go_simp
  have c3 : w1.cell? ⟨w.heap.size, 3, none⟩ = some (.int .i64 h) := by rw [hw1]; go_simp
  have c4 : w1.cell? ⟨w.heap.size, 4, none⟩ = some (.int .i64 mi) := by rw [hw1]; go_simp
  have c5 : w1.cell? ⟨w.heap.size, 5, none⟩ = some (.int .i64 s) := by rw [hw1]; go_simp
  clear hw1
  refine wp_region_above (by kernel_rfl) (by kernel_rfl) ?_
  intro ne
  have e0 : ∀ n : Abv w1, n.w.cell? ⟨w.heap.size, 0, none⟩ = some (.int .i64 y) := fun n => n.cell c0
  have e1 : ∀ n : Abv w1, n.w.cell? ⟨w.heap.size, 1, none⟩ = some (.int .i64 m) := fun n => n.cell c1
  have e2 : ∀ n : Abv w1, n.w.cell? ⟨w.heap.size, 2, none⟩ = some (.int .i64 d) := fun n => n.cell c2
  have e3 : ∀ n : Abv w1, n.w.cell? ⟨w.heap.size, 3, none⟩ = some (.int .i64 h) := fun n => n.cell c3
  have e4 : ∀ n : Abv w1, n.w.cell? ⟨w.heap.size, 4, none⟩ = some (.int .i64 mi) := fun n => n.cell c4
  have e5 : ∀ n : Abv w1, n.w.cell? ⟨w.heap.size, 5, none⟩ = some (.int .i64 s) := fun n => n.cell c5
  repeat (go_big_quiet_step ((go_at_call 76; exact Abv.call _ (long_calls _ _ _))))
  refine quiet_above ?_
  intro w2 hb2
  clear e0 e1 e2 e3 e4 e5 c0 c1 c2 c3 c4 c5
  go_wp2
  go_ret
  exact ⟨rfl, bgo hb hb2⟩

set_option maxHeartbeats 4000000 in
theorem right_out (y m d h mi s : Int) (w : World) (r : y < -40000 ∨ 40000 < y ∨ m < 1 ∨ 12 < m) :
    Calls Tryd.prog 75 #[.agg #[.int .i64 y, .int .i64 m, .int .i64 d, .int .i64 h, .int .i64 mi, .int .i64 s]] w fun e w' => e = .returned (.bool false) ∧ Below w.heap.size w w' := by
  by_cases r1 : y < -40000
  · go_enter Tryd.func75, Tryd.ntmps75
    go_wp2
    go_ret
    exact ⟨rfl, below_alloc (Below.refl _ _) _⟩
  by_cases r2 : 40000 < y
  · go_enter Tryd.func75, Tryd.ntmps75
    go_wp2
    go_ret
    exact ⟨rfl, below_alloc (Below.refl _ _) _⟩
  by_cases r3 : m < 1
  · go_enter Tryd.func75, Tryd.ntmps75
    go_wp2
    go_ret
    exact ⟨rfl, below_alloc (Below.refl _ _) _⟩
  have r4 : 12 < m := by omega
  go_enter Tryd.func75, Tryd.ntmps75
  go_wp2
  go_ret
  exact ⟨rfl, below_alloc (Below.refl _ _) _⟩
theorem right_calls (y m d h mi s : Int) (w : World) :
    Calls Tryd.prog 75 #[.agg #[.int .i64 y, .int .i64 m, .int .i64 d, .int .i64 h, .int .i64 mi, .int .i64 s]] w fun e w' => e = .returned (.bool (rightB y m d h mi s)) ∧ Below w.heap.size w w' := by
  unfold rightB
  by_cases r : y < -40000 ∨ 40000 < y ∨ m < 1 ∨ 12 < m
  · rw [decide_eq_false (by omega)]; exact right_out y m d h mi s w r
  have q1 : -40000 ≤ y := by omega
  have q2 : y ≤ 40000 := by omega
  have q3 : 1 ≤ m := by omega
  have q4 : m ≤ 12 := by omega
  by_cases a1 : 1 ≤ d
  case neg => rw [decide_eq_false (by omega)]; exact right_0 y m d h mi s w q1 q2 q3 q4  (decide_eq_false a1)
  by_cases a2 : d ≤ ml y m
  case neg => rw [decide_eq_false (by omega)]; exact right_1 y m d h mi s w q1 q2 q3 q4 a1 (decide_eq_false a2)
  by_cases a3 : 0 ≤ h
  case neg => rw [decide_eq_false (by omega)]; exact right_2 y m d h mi s w q1 q2 q3 q4 a1 a2 (decide_eq_false a3)
  by_cases a4 : h < 24
  case neg => rw [decide_eq_false (by omega)]; exact right_3 y m d h mi s w q1 q2 q3 q4 a1 a2 a3 (decide_eq_false a4)
  by_cases a5 : 0 ≤ mi
  case neg => rw [decide_eq_false (by omega)]; exact right_4 y m d h mi s w q1 q2 q3 q4 a1 a2 a3 a4 (decide_eq_false a5)
  by_cases a6 : mi < 60
  case neg => rw [decide_eq_false (by omega)]; exact right_5 y m d h mi s w q1 q2 q3 q4 a1 a2 a3 a4 a5 (decide_eq_false a6)
  by_cases a7 : 0 ≤ s
  case neg => rw [decide_eq_false (by omega)]; exact right_6 y m d h mi s w q1 q2 q3 q4 a1 a2 a3 a4 a5 a6 (decide_eq_false a7)
  by_cases a8 : s < 60
  case neg => rw [decide_eq_false (by omega)]; exact right_7 y m d h mi s w q1 q2 q3 q4 a1 a2 a3 a4 a5 a6 a7 (decide_eq_false a8)
  rw [decide_eq_true (by omega)]; exact right_8 y m d h mi s w q1 q2 q3 q4 a1 a2 a3 a4 a5 a6 a7 a8
end Go.Proofs.YtoiffnoiliknnaaDoor.Tim
set_option linter.unusedVariables false
namespace Go.Proofs.YtoiffnoiliknnaaDoor.Tim
open Go.RowKit Go.BigFrame Go.Proofs.YtoiffnoiliknnaaDoor.Reg Go.Proofs.YtoiffnoiliknnaaDoor.Plong Go.Proofs.YtoiffnoiliknnaaDoor.Pfloor Go.Proofs.YtoiffnoiliknnaaDoor.Pmonth Go.Proofs.YtoiffnoiliknnaaDoorW.PrintWords Go.Proofs.YtoiffnoiliknnaaDoorW.PrintLast Go.Proofs.YtoiffnoiliknnaaDoorW.PrintMore

def cum (y : Int) : Nat → Int
  | 0 => 0
  | k + 1 => cum y k + ml y (k + 1)
theorem cum_bd (y : Int) : ∀ k : Nat, 0 ≤ cum y k ∧ cum y k ≤ 31 * k
  | 0 => by simp [cum]
  | k + 1 => by have := cum_bd y k; have := ml_bd y (k + 1); simp only [cum]; omega
def yd (y : Int) : Int := 365 * (y - 1) + (y - 1) / 4 - (y - 1) / 100 + (y - 1) / 400 - 719162
theorem yd_bd (y : Int) (h0 : -40000 ≤ y) (h1 : y ≤ 40000) : -20000000 ≤ yd y ∧ yd y ≤ 20000000 := by unfold yd; omega
def secs (y m d h mi s : Int) : Int := (yd y + cum y (m - 1).toNat + d - 1) * 86400 + h * 3600 + mi * 60 + s
def secsR (y m d h mi s : Int) : Int × Int := if secs y m d h mi s < -1099511627776 ∨ 1099511627776 < secs y m d h mi s then (0, 3) else (secs y m d h mi s, 0)

theorem floor_f (a b : Int) (h0 : -1000000000000000 ≤ a) (h1 : a ≤ 1000000000000000) (hb : 0 < b) (hb1 : b ≤ 1000000) : tree_floor.f a b = some (a / b, a % b) := by
  unfold tree_floor.f
  rw [if_neg (by omega)]
  have hdm := Int.mul_ediv_add_emod a b
  have hm0 := Int.emod_nonneg a (show b ≠ 0 by omega)
  have hm1 := Int.emod_lt_of_pos a hb
  by_cases hn : 0 ≤ a
  · have e1 : Int.tmod a b = a % b := Int.tmod_eq_emod_of_nonneg hn
    have e2 : Int.tdiv a b = a / b := Int.tdiv_eq_ediv_of_nonneg hn
    rw [e1, e2, if_neg (by omega)]
    have hle : a / b ≤ a := Int.ediv_le_self _ hn
    have h0' : 0 ≤ a / b := Int.ediv_nonneg hn (by omega)
    have : wrap64 (a / b) = a / b := by unfold wrap64; omega
    rw [this]
  · have hmm := Int.mul_tdiv_add_tmod a b
    have e2 : Int.tdiv a b = -((-a) / b) := by
      rw [show a = -(-a) by omega, Int.neg_tdiv, Int.tdiv_eq_ediv_of_nonneg (by omega)]; simp
    have q0 : 0 ≤ (-a) / b := Int.ediv_nonneg (by omega) (by omega)
    have q1 : (-a) / b ≤ -a := Int.ediv_le_self _ (by omega)
    have r0 := Int.mul_ediv_add_emod (-a) b
    have r1 := Int.emod_nonneg (-a) (show b ≠ 0 by omega)
    have r2 := Int.emod_lt_of_pos (-a) hb
    have et : Int.tmod a b = -((-a) % b) := by
      rw [e2, Int.mul_neg] at hmm; omega
    rw [e2, et]
    by_cases hz : (-a) % b = 0
    · rw [if_neg (by omega)]
      have hw : wrap64 (-((-a) / b)) = -((-a) / b) := by unfold wrap64; omega
      rw [hw]
      have e3 : a = b * (-((-a) / b)) := by rw [Int.mul_neg]; omega
      have e4 : a / b = -((-a) / b) := by
        conv => lhs; rw [e3]
        exact Int.mul_ediv_cancel_left _ (by omega)
      have e5 : a % b = 0 := by
        conv => lhs; rw [e3]
        exact Int.mul_emod_right _ _
      rw [e4, e5, hz]; rfl
    · rw [if_pos (by omega)]
      have hw : wrap64 (wrap64 (-((-a) / b)) - 1) = -((-a) / b) - 1 := by unfold wrap64; omega
      have hw2 : wrap64 (-((-a) % b) + b) = -((-a) % b) + b := by unfold wrap64; omega
      rw [hw, hw2]
      have e3 : a = (-((-a) % b) + b) + b * (-((-a) / b) - 1) := by rw [Int.mul_sub, Int.mul_neg]; omega
      have e4 : a / b = -((-a) / b) - 1 := by
        conv => lhs; rw [e3]
        rw [Int.add_mul_ediv_left _ _ (by omega), Int.ediv_eq_zero_of_lt (by omega) (by omega)]; omega
      have e5 : a % b = -((-a) % b) + b := by
        conv => lhs; rw [e3]
        rw [Int.add_mul_emod_self_left, Int.emod_eq_of_lt (by omega) (by omega)]
      rw [e4, e5]
theorem floor_any (a b : Int) (w : World) (h0 : -1000000000000000 ≤ a) (h1 : a ≤ 1000000000000000) (hb : 0 < b) (hb1 : b ≤ 1000000) :
    Calls Tryd.prog 74 #[.int .i64 a, .int .i64 b] w fun e w' => e = .returned (.tuple #[.int .i64 (a / b), .int .i64 (a % b)]) ∧ Drawn0 w w' :=
  tree_floor.calls a b _ _ w (floor_f a b h0 h1 hb hb1)

set_option maxHeartbeats 2000000 in
theorem seconds_no (y m d h mi s : Int) (w : World) (hr : rightB y m d h mi s = false) :
    Calls Tryd.prog 56 #[.agg #[.int .i64 y, .int .i64 m, .int .i64 d, .int .i64 h, .int .i64 mi, .int .i64 s]] w fun e w' => e = .returned (.tuple #[.int .i64 0, .int .i64 2]) ∧ Below w.heap.size w w' := by
  have hc0 : ∀ w, Calls Tryd.prog 75 #[.agg #[.int .i64 y, .int .i64 m, .int .i64 d, .int .i64 h, .int .i64 mi, .int .i64 s]] w fun e w' => e = .returned (.bool false) ∧ Below w.heap.size w w' := by
    intro w; have := right_calls y m d h mi s w; rwa [hr] at this
  have H := Lib.hid hc0; clear hc0
  go_enter Tryd.func56, Tryd.ntmps56
  go_wp2_with (go_at_call 75; refine (H.out _).mono ?_; rintro e w1 ⟨rfl, hb1⟩)
  go_ret2
  exact ⟨rfl, bgo (balloc (Below.refl _ _) _) hb1⟩

set_option maxRecDepth 100000 in
set_option maxHeartbeats 4000000 in
theorem seconds_yes (y m d h mi s : Int) (w : World) (hr : rightB y m d h mi s = true) :
    Calls Tryd.prog 56 #[.agg #[.int .i64 y, .int .i64 m, .int .i64 d, .int .i64 h, .int .i64 mi, .int .i64 s]] w fun e w' => e = .returned (.tuple #[.int .i64 (secsR y m d h mi s).1, .int .i64 (secsR y m d h mi s).2]) ∧ Below w.heap.size w w' := by
  have hc0 : ∀ w, Calls Tryd.prog 75 #[.agg #[.int .i64 y, .int .i64 m, .int .i64 d, .int .i64 h, .int .i64 mi, .int .i64 s]] w fun e w' => e = .returned (.bool true) ∧ Below w.heap.size w w' := by
    intro w; have := right_calls y m d h mi s w; rwa [hr] at this
  have H := Lib.hid hc0; clear hc0
  unfold rightB at hr
  have hR := of_decide_eq_true hr
  clear hr
  obtain ⟨r1, r2, r3, r4, r5, r6, r7, r8, r9, r10, r11, r12⟩ := hR
  have hm31 := ml_bd y m
  have HR := Lib.hid (show secsR y m d h mi s = secsR y m d h mi s from rfl)
  have hd31 : d ≤ 31 := by omega
  clear r6
  have q4 : -40000 ≤ (y - 1) / 4 := by omega
  have q4' : (y - 1) / 4 ≤ 40000 := by omega
  have q100 : -40000 ≤ (y - 1) / 100 := by omega
  have q100' : (y - 1) / 100 ≤ 40000 := by omega
  have q400 : -40000 ≤ (y - 1) / 400 := by omega
  have q400' : (y - 1) / 400 ≤ 40000 := by omega
  have HY := Lib.hid (yd_bd y r1 r2)
  have HYd : Hid (365 * (y - 1) + (y - 1) / 4 - (y - 1) / 100 + (y - 1) / 400 - 719162 = yd y) := Lib.hid rfl
  go_enter Tryd.func56, Tryd.ntmps56
  go_wp2_with (first
    | (go_at_call 75; refine (H.out _).mono ?_; rintro e w1 ⟨rfl, hb1⟩; obtain ⟨hc, hf⟩ := bcell hb1)
    | (go_at_call 74; refine (floor_any _ _ _ (by omega) (by omega) (by omega) (by omega)).mono ?_; rintro e w2 ⟨rfl, ⟨nd, rfl⟩⟩))
  have hm1 : m = (((m - 1).toNat : Nat) : Int) + 1 := by omega
  have HM := Lib.hid hm1; clear hm1
  go_loopw [11, 12, 47] (fun a _ i wr => ∃ k : Nat, (k : Int) ≤ m - 1 ∧ a = .int .i64 (yd y + cum y k) ∧ i = .int .i64 k ∧ Below w1.heap.size w1 wr) (fun _ _ i _ => (m - 1 - intOf i).toNat)
  case atStart => exact ⟨0, by omega, by rw [← HYd.out]; simp [cum], rfl, by repeat (first | exact Below.refl _ _ | apply bdrewN)⟩
  case round =>
    obtain ⟨k, hk, rfl, rfl, hbr⟩ := hrel
    obtain ⟨hcr, hfr⟩ : (∀ b o, b < w1.heap.size → wr.cell? ⟨b, o, none⟩ = w1.cell? ⟨b, o, none⟩) ∧ (∀ b o, b < w1.heap.size → wr.frozen? ⟨b, o, none⟩ = w1.frozen? ⟨b, o, none⟩) := ⟨fun b o h => hbr.cell (p := ⟨b, o, none⟩) h, fun b o h => hbr.frozen (p := ⟨b, o, none⟩) h⟩
    have hsz : w.heap.size < w1.heap.size := by have := hb1.size; simp at this; omega
    have hcb := cum_bd y k
    have hyb := HY.out
    have hml := ml_bd y (k + 1)
    by_cases hlt : (k : Int) < m - 1
    · go_wp2_with (go_at_call 76; refine (long_calls _ _ _).mono ?_; rintro e w3 ⟨rfl, hb3⟩)
      go_roundw
      case rel => exact ⟨k + 1, by omega, by simp only [cum]; congr 1; omega, by go_num, bthen hbr hbr.size hb3⟩
      case measure => simp [intOf]; omega
    · have hke : m - 1 = (k : Int) := by omega
      have hcum : Hid (secs y m d h mi s = (yd y + cum y k + d - 1) * 86400 + h * 3600 + mi * 60 + s) := Lib.hid (by unfold secs; rw [hke, Int.toNat_natCast])
      clear hke
      by_cases h1 : (yd y + cum y k + d - 1) * 86400 + h * 3600 + mi * 60 + s < -1099511627776
      · have hres : Hid (secsR y m d h mi s = (0, 3)) := Lib.hid (by unfold secsR; rw [if_pos (by rw [hcum.out]; omega)])
        go_wp2
        go_ret2
        exact ⟨by rw [hres.out]; rfl, bgo (balloc (Below.refl _ _) _) (bthen hb1 hb1.size hbr)⟩
      by_cases h2 : 1099511627776 < (yd y + cum y k + d - 1) * 86400 + h * 3600 + mi * 60 + s
      · have hres : Hid (secsR y m d h mi s = (0, 3)) := Lib.hid (by unfold secsR; rw [if_pos (by rw [hcum.out]; omega)])
        go_wp2
        go_ret2
        exact ⟨by rw [hres.out]; rfl, bgo (balloc (Below.refl _ _) _) (bthen hb1 hb1.size hbr)⟩
      have hres : Hid (secsR y m d h mi s = ((yd y + cum y k + d - 1) * 86400 + h * 3600 + mi * 60 + s, 0)) := Lib.hid (by unfold secsR; rw [if_neg (by rw [hcum.out]; omega), hcum.out])
      go_wp2
      go_ret2
      exact ⟨by rw [hres.out]; rfl, bgo (balloc (Below.refl _ _) _) (bthen hb1 hb1.size hbr)⟩
/-- What tree.Seconds tells. -/
def secondsF (y m d h mi s : Int) : Int × Int := if rightB y m d h mi s then secsR y m d h mi s else (0, 2)
theorem seconds_calls (y m d h mi s : Int) (w : World) :
    Calls Tryd.prog 56 #[.agg #[.int .i64 y, .int .i64 m, .int .i64 d, .int .i64 h, .int .i64 mi, .int .i64 s]] w fun e w' => e = .returned (.tuple #[.int .i64 (secondsF y m d h mi s).1, .int .i64 (secondsF y m d h mi s).2]) ∧ Below w.heap.size w w' := by
  unfold secondsF
  by_cases hr : rightB y m d h mi s = true
  · rw [if_pos hr]; exact seconds_yes y m d h mi s w hr
  · rw [if_neg hr]; exact seconds_no y m d h mi s w (by simpa using hr)
theorem secondsF_bd (y m d h mi s : Int) : -1099511627776 ≤ (secondsF y m d h mi s).1 ∧ (secondsF y m d h mi s).1 ≤ 1099511627776 ∧ 0 ≤ (secondsF y m d h mi s).2 ∧ (secondsF y m d h mi s).2 ≤ 3 := by
  unfold secondsF
  split
  · unfold secsR
    split
    · refine ⟨?_, ?_, ?_, ?_⟩ <;> simp
    · refine ⟨?_, ?_, ?_, ?_⟩ <;> simp <;> omega
  · refine ⟨?_, ?_, ?_, ?_⟩ <;> simp

/-! ### OfDos -/
def ofDosF (date time : Int) : Int × Int :=
  if date < 0 ∨ 65535 < date ∨ time < 0 ∨ 65535 < time then (0, 11)
  else if (secondsF (1980 + date / 512) (date / 32 % 16) (date % 32) (time / 2048) (time / 32 % 64) (time % 32 * 2)).2 = 0 then ((secondsF (1980 + date / 512) (date / 32 % 16) (date % 32) (time / 2048) (time / 32 % 64) (time % 32 * 2)).1, 0) else (0, 11)
set_option maxHeartbeats 4000000 in
theorem ofDos_out (date time : Int) (w : World) (hr : date < 0 ∨ 65535 < date ∨ time < 0 ∨ 65535 < time) :
    Calls Tryd.prog 42 #[.int .i64 date, .int .i64 time] w fun e w' => e = .returned (.tuple #[.int .i64 0, .int .i64 11]) ∧ Below w.heap.size w w' := by
  by_cases r1 : date < 0
  · go_enter Tryd.func42, Tryd.ntmps42
    go_wp2
    go_ret2
    exact ⟨rfl, Below.refl _ _⟩
  by_cases r2 : 65535 < date
  · go_enter Tryd.func42, Tryd.ntmps42
    go_wp2
    go_ret2
    exact ⟨rfl, Below.refl _ _⟩
  by_cases r3 : time < 0
  · go_enter Tryd.func42, Tryd.ntmps42
    go_wp2
    go_ret2
    exact ⟨rfl, Below.refl _ _⟩
  have r4 : 65535 < time := by omega
  go_enter Tryd.func42, Tryd.ntmps42
  go_wp2
  go_ret2
  exact ⟨rfl, Below.refl _ _⟩
theorem ofInt_i64 (a : Nat) (ha : a < 9223372036854775808) : (BitVec.ofInt 64 (a : Int)).toNat = a := by
  rw [BitVec.ofInt_natCast, BitVec.toNat_ofNat]; exact Nat.mod_eq_of_lt (by omega)
theorem i64_and_nat (a b : Nat) (ha : a < 9223372036854775808) (hb : b < 9223372036854775808) : bits .and .i64 (a : Int) (b : Int) = ((a &&& b : Nat) : Int) := by
  have hx : a &&& b < 2 ^ 63 := Nat.and_lt_two_pow _ (by omega)
  show IntKind.i64.wrap ((BitVec.ofInt 64 (a : Int) &&& BitVec.ofInt 64 (b : Int)).toNat : Int) = _
  rw [BitVec.toNat_and, ofInt_i64 a ha, ofInt_i64 b hb, IntKind.wrap_i64]
  omega
theorem and15 (x : Int) (h0 : 0 ≤ x) (h1 : x < 65536) : bits .and .i64 x 15 = x % 16 := by
  obtain ⟨n, rfl⟩ := Int.eq_ofNat_of_zero_le h0
  rw [show (15 : Int) = ((15 : Nat) : Int) from rfl, i64_and_nat n 15 (by omega) (by omega), show (15 : Nat) = 2 ^ 4 - 1 from rfl, Nat.and_two_pow_sub_one_eq_mod]
  omega
theorem and31 (x : Int) (h0 : 0 ≤ x) (h1 : x < 65536) : bits .and .i64 x 31 = x % 32 := by
  obtain ⟨n, rfl⟩ := Int.eq_ofNat_of_zero_le h0
  rw [show (31 : Int) = ((31 : Nat) : Int) from rfl, i64_and_nat n 31 (by omega) (by omega), show (31 : Nat) = 2 ^ 5 - 1 from rfl, Nat.and_two_pow_sub_one_eq_mod]
  omega
theorem and63 (x : Int) (h0 : 0 ≤ x) (h1 : x < 65536) : bits .and .i64 x 63 = x % 64 := by
  obtain ⟨n, rfl⟩ := Int.eq_ofNat_of_zero_le h0
  rw [show (63 : Int) = ((63 : Nat) : Int) from rfl, i64_and_nat n 63 (by omega) (by omega), show (63 : Nat) = 2 ^ 6 - 1 from rfl, Nat.and_two_pow_sub_one_eq_mod]
  omega
set_option maxRecDepth 100000 in
set_option maxHeartbeats 4000000 in
theorem ofDos_in (date time : Int) (w : World) (h0 : 0 ≤ date) (h1 : date ≤ 65535) (h2 : 0 ≤ time) (h3 : time ≤ 65535) :
    Calls Tryd.prog 42 #[.int .i64 date, .int .i64 time] w fun e w' => e = .returned (.tuple #[.int .i64 (ofDosF date time).1, .int .i64 (ofDosF date time).2]) ∧ Below w.heap.size w w' := by
  have hb := secondsF_bd (1980 + date / 512) (date / 32 % 16) (date % 32) (time / 2048) (time / 32 % 64) (time % 32 * 2)
  have hF : Hid (ofDosF date time = if (secondsF (1980 + date / 512) (date / 32 % 16) (date % 32) (time / 2048) (time / 32 % 64) (time % 32 * 2)).2 = 0 then ((secondsF (1980 + date / 512) (date / 32 % 16) (date % 32) (time / 2048) (time / 32 % 64) (time % 32 * 2)).1, 0) else (0, 11)) := Lib.hid (by unfold ofDosF; rw [if_neg (by omega)])
  have hcs : ∀ w, Calls Tryd.prog 56 #[.agg #[.int .i64 (1980 + date / 512), .int .i64 (date / 32 % 16), .int .i64 (date % 32), .int .i64 (time / 2048), .int .i64 (time / 32 % 64), .int .i64 (time % 32 * 2)]] w fun e w' => e = .returned (.tuple #[.int .i64 (secondsF (1980 + date / 512) (date / 32 % 16) (date % 32) (time / 2048) (time / 32 % 64) (time % 32 * 2)).1, .int .i64 (secondsF (1980 + date / 512) (date / 32 % 16) (date % 32) (time / 2048) (time / 32 % 64) (time % 32 * 2)).2]) ∧ Below w.heap.size w w' := fun w => seconds_calls _ _ _ _ _ _ w
  generalize secondsF (1980 + date / 512) (date / 32 % 16) (date % 32) (time / 2048) (time / 32 % 64) (time % 32 * 2) = S at *
  have H := Lib.hid hcs; clear hcs
  have a1 := Lib.hid (and15 (date / 32) (by omega) (by omega))
  have a2 := Lib.hid (and31 date (by omega) (by omega))
  have a3 := Lib.hid (and63 (time / 32) (by omega) (by omega))
  have a4 := Lib.hid (and31 time (by omega) (by omega))
  have a5 : Hid (wrap64 (time % 32 * 2) = time % 32 * 2) := Lib.hid (by unfold wrap64; omega)
  by_cases hz : S.2 = 0
  · have hz1 : (S.2 != 0) = false := by simpa using hz
    have HZ := Lib.hid hz; clear hz
    go_enter Tryd.func42, Tryd.ntmps42
    go_wp2_with fail
    rw [a1.out, a2.out, a3.out, a4.out, a5.out]
    refine (H.out _).mono ?_
    rintro e w1 ⟨rfl, hb1⟩
    go_wp2
    go_ret2
    exact ⟨by rw [hF.out, if_pos HZ.out]; rfl, hb1⟩
  · have hz1 : (S.2 != 0) = true := by simpa using hz
    have HZ := Lib.hid hz; clear hz
    go_enter Tryd.func42, Tryd.ntmps42
    go_wp2_with fail
    rw [a1.out, a2.out, a3.out, a4.out, a5.out]
    refine (H.out _).mono ?_
    rintro e w1 ⟨rfl, hb1⟩
    go_wp2
    go_ret2
    exact ⟨by rw [hF.out, if_neg HZ.out]; rfl, hb1⟩
theorem ofDos_calls (date time : Int) (w : World) :
    Calls Tryd.prog 42 #[.int .i64 date, .int .i64 time] w fun e w' => e = .returned (.tuple #[.int .i64 (ofDosF date time).1, .int .i64 (ofDosF date time).2]) ∧ Below w.heap.size w w' := by
  by_cases h : date < 0 ∨ 65535 < date ∨ time < 0 ∨ 65535 < time
  · have : ofDosF date time = (0, 11) := by unfold ofDosF; rw [if_pos h]
    rw [this]; exact ofDos_out date time w h
  · exact ofDos_in date time w (by omega) (by omega) (by omega) (by omega)
end Go.Proofs.YtoiffnoiliknnaaDoor.Tim
set_option linter.unusedVariables false
namespace Go.Proofs.YtoiffnoiliknnaaDoor.Tim
open Go.RowKit Go.BigFrame Go.Proofs.YtoiffnoiliknnaaDoor.Reg Go.Proofs.YtoiffnoiliknnaaDoor.Plong Go.Proofs.YtoiffnoiliknnaaDoor.Pfloor Go.Proofs.YtoiffnoiliknnaaDoor.Pmonth Go.Proofs.YtoiffnoiliknnaaDoorW.PrintWords Go.Proofs.YtoiffnoiliknnaaDoorW.PrintLast Go.Proofs.YtoiffnoiliknnaaDoorW.PrintMore

/-! ### the year of a day within 400 years (from the first of March on) -/
def yOf (d : Int) : Int := (d - d / 1460 + d / 36524 - d / 146096) / 365
def ddOf (d : Int) : Int := d - (365 * yOf d + yOf d / 4 - yOf d / 100)
def mOf (d : Int) : Int := (5 * ddOf d + 2) / 153
def tOf (d : Int) : Int := ddOf d - (153 * mOf d + 2) / 5 + 1
theorem yOf_bd (d : Int) (h0 : 0 ≤ d) (h1 : d < 146097) : 0 ≤ yOf d ∧ yOf d ≤ 399 := by unfold yOf; omega
def startOf (y : Nat) : Nat := 365 * y + y / 4 - y / 100
def mid (d : Nat) : Nat := d - d / 1460 + d / 36524 - d / 146096
theorem start_ok : (List.range 400).all (fun y => Nat.ble (365 * y) (mid (startOf y)) && Nat.ble (mid (startOf (y + 1) - 1)) (365 * y + 364) && Nat.ble (startOf (y + 1)) (startOf y + 366) && Nat.ble (startOf y + 365) (startOf (y + 1))) = true := by decide +kernel
theorem mid_mono (a b : Nat) (h : a ≤ b) : mid a ≤ mid b := by unfold mid; omega
theorem start_400 : startOf 400 = 146096 + 0 + 0 ∨ True := .inr trivial
theorem year_exists (d : Nat) (h : d < 146097) : ∃ y, y < 400 ∧ startOf y ≤ d ∧ (d < startOf (y + 1) ∨ y = 399) := by
  have key : ∀ n, n < 400 → startOf n ≤ d → ∃ y, y < 400 ∧ startOf y ≤ d ∧ (d < startOf (y + 1) ∨ y = 399) := by
    intro n
    induction hk : 399 - n generalizing n with
    | zero => intro hn hs; exact ⟨n, hn, hs, .inr (by omega)⟩
    | succ k ih =>
      intro hn hs
      by_cases hlt : d < startOf (n + 1)
      · exact ⟨n, hn, hs, .inl hlt⟩
      · exact ih (n + 1) (by omega) (by omega) (by omega)
  exact key 0 (by omega) (by unfold startOf; omega)
theorem dd_bd (d : Int) (h0 : 0 ≤ d) (h1 : d < 146097) : 0 ≤ ddOf d ∧ ddOf d ≤ 365 := by
  obtain ⟨n, rfl⟩ := Int.eq_ofNat_of_zero_le h0
  obtain ⟨y, hy, hs, he⟩ := year_exists n (by omega)
  have hok := List.all_eq_true.1 start_ok y (List.mem_range.2 hy)
  simp only [Bool.and_eq_true, Nat.ble_eq] at hok
  obtain ⟨⟨⟨k1, k2⟩, k3⟩, k4⟩ := hok
  have m1 := mid_mono _ _ hs
  have hyo : yOf (n : Int) = y := by
    have hm : yOf (n : Int) = ((mid n / 365 : Nat) : Int) := by unfold yOf mid; omega
    rw [hm]
    have hup : mid n ≤ 365 * y + 364 := by
      rcases he with he | he
      · exact Nat.le_trans (mid_mono n (startOf (y + 1) - 1) (by omega)) k2
      · subst he; unfold mid; omega
    have : mid n / 365 = y := by omega
    rw [this]
  unfold ddOf
  rw [hyo]
  have hst : (startOf y : Int) = 365 * y + (y : Int) / 4 - (y : Int) / 100 := by unfold startOf; omega
  rcases he with he | he
  · omega
  · subst he
    have : startOf 399 = 145731 := by decide
    omega
theorem m_bd (d : Int) (h0 : 0 ≤ d) (h1 : d < 146097) : 0 ≤ mOf d ∧ mOf d ≤ 11 := by
  have := dd_bd d h0 h1; unfold mOf; omega
theorem t_bd (d : Int) (h0 : 0 ≤ d) (h1 : d < 146097) : 1 ≤ tOf d ∧ tOf d ≤ 31 := by
  have := dd_bd d h0 h1; unfold tOf mOf; omega

structure Six where
  (y m d h mi s : Int)
/-- The day of an era of 400 years, of a day in it (from the first of March on), and of seconds in that. -/
def sixOf (e d s : Int) : Six :=
  if 12 < mOf d + 3 then ⟨400 * e + yOf d + 1, mOf d + 3 - 12, ddOf d - (153 * mOf d + 2) / 5 + 1, s / 3600, s / 60 % 60, s % 60⟩
  else ⟨400 * e + yOf d, mOf d + 3, ddOf d - (153 * mOf d + 2) / 5 + 1, s / 3600, s / 60 % 60, s % 60⟩
def dayF (t : Int) : Six := sixOf ((t / 86400 + 719468) / 146097) ((t / 86400 + 719468) % 146097) (t % 86400)
def Six.val (x : Six) : Value := .agg #[.int .i64 x.y, .int .i64 x.m, .int .i64 x.d, .int .i64 x.h, .int .i64 x.mi, .int .i64 x.s]

set_option maxHeartbeats 2000000 in
theorem dayOf_no (t : Int) (w : World) (h : t < -1099511627776 ∨ 1099511627776 < t) :
    Calls Tryd.prog 55 #[.int .i64 t] w fun e w' => e = .returned (.tuple #[.agg #[.int .i64 0, .int .i64 0, .int .i64 0, .int .i64 0, .int .i64 0, .int .i64 0], .int .i64 2]) ∧ Below w.heap.size w w' := by
  by_cases h1 : t < -1099511627776
  · go_enter Tryd.func55, Tryd.ntmps55
    go_wp2
    exact bodyPost_ret (v := .tuple #[.agg #[.int .i64 0, .int .i64 0, .int .i64 0, .int .i64 0, .int .i64 0, .int .i64 0], .int .i64 2]) (by simp [results, Tryd.results55, go_sem]) rfl ⟨rfl, by repeat (first | with_reducible exact Below.refl _ _ | with_reducible refine balloc ?_ _ | with_reducible refine bdrewN ?_ _ | with_reducible refine Below.setCell ?_ (by simp) _)⟩
  · have h2 : 1099511627776 < t := by omega
    go_enter Tryd.func55, Tryd.ntmps55
    go_wp2
    exact bodyPost_ret (v := .tuple #[.agg #[.int .i64 0, .int .i64 0, .int .i64 0, .int .i64 0, .int .i64 0, .int .i64 0], .int .i64 2]) (by simp [results, Tryd.results55, go_sem]) rfl ⟨rfl, by repeat (first | with_reducible exact Below.refl _ _ | with_reducible refine balloc ?_ _ | with_reducible refine bdrewN ?_ _ | with_reducible refine Below.setCell ?_ (by simp) _)⟩
set_option maxRecDepth 100000 in
set_option maxHeartbeats 4000000 in
theorem dayOf_yes (t : Int) (w : World) (h0 : -1099511627776 ≤ t) (h1 : t ≤ 1099511627776) :
    Calls Tryd.prog 55 #[.int .i64 t] w fun e w' => e = .returned (.tuple #[(dayF t).val, .int .i64 0]) ∧ Below w.heap.size w w' := by
  have hF : Hid (dayF t = sixOf ((t / 86400 + 719468) / 146097) ((t / 86400 + 719468) % 146097) (t % 86400)) := Lib.hid rfl
  have b0 : -12725831 ≤ t / 86400 := by omega
  have b1 : t / 86400 ≤ 12725831 := by omega
  have b2 : 0 ≤ t % 86400 := by omega
  have b3 : t % 86400 < 86400 := by omega
  go_enter Tryd.func55, Tryd.ntmps55
  go_wp2_with fail
  refine (floor_any _ _ _ (by omega) (by omega) (by omega) (by omega)).mono ?_
  rintro e w2 ⟨rfl, ⟨nd, rfl⟩⟩
  generalize t / 86400 = q at *
  generalize t % 86400 = s at *
  go_wp2_with fail
  refine (floor_any _ _ _ (by omega) (by omega) (by omega) (by omega)).mono ?_
  rintro e w2 ⟨rfl, ⟨nd2, rfl⟩⟩
  have e0 : -1000 ≤ (q + 719468) / 146097 := by omega
  have e1 : (q + 719468) / 146097 ≤ 1000 := by omega
  have d0 : 0 ≤ (q + 719468) % 146097 := by omega
  have d1 : (q + 719468) % 146097 < 146097 := by omega
  generalize (q + 719468) / 146097 = er at *
  generalize (q + 719468) % 146097 = d at *
  go_upto_region 6 with (fail)
  rw [show (d - d / 1460 + d / 36524 - d / 146096) / 365 = yOf d from rfl]
  obtain ⟨y0, y1⟩ := yOf_bd d d0 d1
  go_upto_region 7 with (fail)
  rw [show d - (365 * yOf d + yOf d / 4 - yOf d / 100) = ddOf d from rfl]
  obtain ⟨z0, z1⟩ := dd_bd d d0 d1
  go_upto_region 8 with (fail)
  rw [show (5 * ddOf d + 2) / 153 = mOf d from rfl]
  obtain ⟨m0, m1⟩ := m_bd d d0 d1
  by_cases hm : 12 < mOf d + 3
  · have hS : Hid (sixOf er d s = ⟨400 * er + yOf d + 1, mOf d + 3 - 12, ddOf d - (153 * mOf d + 2) / 5 + 1, s / 3600, s / 60 % 60, s % 60⟩) := Lib.hid (by unfold sixOf; rw [if_pos hm])
    go_wp2
    exact bodyPost_ret (v := .tuple #[.agg #[.int .i64 (400 * er + yOf d + 1), .int .i64 (mOf d + 3 - 12), .int .i64 (ddOf d - (153 * mOf d + 2) / 5 + 1), .int .i64 (s / 3600), .int .i64 (s / 60 % 60), .int .i64 (s % 60)], .int .i64 0]) (by simp [results, Tryd.results55, go_sem]) rfl ⟨by rw [hF.out, hS.out]; rfl, by repeat (first | with_reducible exact Below.refl _ _ | with_reducible refine balloc ?_ _ | with_reducible refine bdrewN ?_ _ | with_reducible refine Below.setCell ?_ (by simp) _)⟩
  · have hS : Hid (sixOf er d s = ⟨400 * er + yOf d, mOf d + 3, ddOf d - (153 * mOf d + 2) / 5 + 1, s / 3600, s / 60 % 60, s % 60⟩) := Lib.hid (by unfold sixOf; rw [if_neg hm])
    go_wp2
    exact bodyPost_ret (v := .tuple #[.agg #[.int .i64 (400 * er + yOf d), .int .i64 (mOf d + 3), .int .i64 (ddOf d - (153 * mOf d + 2) / 5 + 1), .int .i64 (s / 3600), .int .i64 (s / 60 % 60), .int .i64 (s % 60)], .int .i64 0]) (by simp [results, Tryd.results55, go_sem]) rfl ⟨by rw [hF.out, hS.out]; rfl, by repeat (first | with_reducible exact Below.refl _ _ | with_reducible refine balloc ?_ _ | with_reducible refine bdrewN ?_ _ | with_reducible refine Below.setCell ?_ (by simp) _)⟩
theorem six_bd (e d s : Int) (d0 : 0 ≤ d) (d1 : d < 146097) (s0 : 0 ≤ s) (s1 : s < 86400) (e0 : -1000 ≤ e) (e1 : e ≤ 1000) :
    -400000 ≤ (sixOf e d s).y ∧ (sixOf e d s).y ≤ 400400 ∧ 1 ≤ (sixOf e d s).m ∧ (sixOf e d s).m ≤ 12 ∧ 1 ≤ (sixOf e d s).d ∧ (sixOf e d s).d ≤ 31 ∧ 0 ≤ (sixOf e d s).h ∧ (sixOf e d s).h < 24 ∧ 0 ≤ (sixOf e d s).mi ∧ (sixOf e d s).mi < 60 ∧ 0 ≤ (sixOf e d s).s ∧ (sixOf e d s).s < 60 := by
  obtain ⟨y0, y1⟩ := yOf_bd d d0 d1
  obtain ⟨z0, z1⟩ := dd_bd d d0 d1
  have hm : mOf d = (5 * ddOf d + 2) / 153 := rfl
  unfold sixOf
  split
  · refine ⟨?_, ?_, ?_, ?_, ?_, ?_, ?_, ?_, ?_, ?_, ?_, ?_⟩ <;> dsimp only <;> omega
  · refine ⟨?_, ?_, ?_, ?_, ?_, ?_, ?_, ?_, ?_, ?_, ?_, ?_⟩ <;> dsimp only <;> omega
theorem day_bd (t : Int) (h0 : -1099511627776 ≤ t) (h1 : t ≤ 1099511627776) :
    -400000 ≤ (dayF t).y ∧ (dayF t).y ≤ 400400 ∧ 1 ≤ (dayF t).m ∧ (dayF t).m ≤ 12 ∧ 1 ≤ (dayF t).d ∧ (dayF t).d ≤ 31 ∧ 0 ≤ (dayF t).h ∧ (dayF t).h < 24 ∧ 0 ≤ (dayF t).mi ∧ (dayF t).mi < 60 ∧ 0 ≤ (dayF t).s ∧ (dayF t).s < 60 :=
  six_bd _ _ _ (by omega) (by omega) (by omega) (by omega) (by omega) (by omega)

theorem i64_or_nat (a b : Nat) (ha : a < 9223372036854775808) (hb : b < 9223372036854775808) : bits .or .i64 (a : Int) (b : Int) = ((a ||| b : Nat) : Int) := by
  have hx : a ||| b < 2 ^ 63 := Nat.or_lt_two_pow (by omega) (by omega)
  show IntKind.i64.wrap ((BitVec.ofInt 64 (a : Int) ||| BitVec.ofInt 64 (b : Int)).toNat : Int) = _
  rw [BitVec.toNat_or, ofInt_i64 a ha, ofInt_i64 b hb, IntKind.wrap_i64]
  omega
theorem or_add (k : Nat) (a b : Int) (ha : 0 ≤ a) (ha1 : a < 65536) (hk : k ≤ 11) (hb : 0 ≤ b) (hb1 : b < ((2 ^ k : Nat) : Int)) : bits .or .i64 (a * ((2 ^ k : Nat) : Int)) b = a * ((2 ^ k : Nat) : Int) + b := by
  obtain ⟨n, rfl⟩ := Int.eq_ofNat_of_zero_le ha
  obtain ⟨m, rfl⟩ := Int.eq_ofNat_of_zero_le hb
  have h2 : 2 ^ k ≤ 2 ^ 11 := Nat.pow_le_pow_right (by omega) hk
  have hm : m < 2 ^ k := by omega
  have hn : n * 2 ^ k ≤ 65536 * 2 ^ 11 := Nat.mul_le_mul (by omega) h2
  rw [show ((n : Int) * ((2 ^ k : Nat) : Int)) = ((n * 2 ^ k : Nat) : Int) by simp, i64_or_nat _ _ (by omega) (by omega), ← Nat.shiftLeft_eq, ← Nat.shiftLeft_add_eq_or_of_lt hm]
  simp [Nat.shiftLeft_eq]
theorem or_date (a b c : Int) (ha : 0 ≤ a) (ha1 : a < 128) (hb : 0 ≤ b) (hb1 : b < 16) (hc : 0 ≤ c) (hc1 : c < 32) : bits .or .i64 (bits .or .i64 (a * 512) (b * 32)) c = a * 512 + b * 32 + c := by
  have e1 : bits .or .i64 (a * 512) (b * 32) = a * 512 + b * 32 := or_add 9 a (b * 32) ha (by omega) (by omega) (by omega) (by omega)
  rw [e1]
  have e2 : bits .or .i64 ((a * 16 + b) * 32) c = (a * 16 + b) * 32 + c := or_add 5 (a * 16 + b) c (by omega) (by omega) (by omega) hc (by omega)
  rw [show a * 512 + b * 32 = (a * 16 + b) * 32 by omega, e2]
theorem or_time (a b c : Int) (ha : 0 ≤ a) (ha1 : a < 32) (hb : 0 ≤ b) (hb1 : b < 64) (hc : 0 ≤ c) (hc1 : c < 32) : bits .or .i64 (bits .or .i64 (a * 2048) (b * 32)) c = a * 2048 + b * 32 + c := by
  have e1 : bits .or .i64 (a * 2048) (b * 32) = a * 2048 + b * 32 := or_add 11 a (b * 32) ha (by omega) (by omega) (by omega) (by omega)
  rw [e1]
  have e2 : bits .or .i64 ((a * 64 + b) * 32) c = (a * 64 + b) * 32 + c := or_add 5 (a * 64 + b) c (by omega) (by omega) (by omega) hc (by omega)
  rw [show a * 2048 + b * 32 = (a * 64 + b) * 32 by omega, e2]

def dosOf (x : Six) : Int × Int × Int := if x.y < 1980 ∨ 2107 < x.y then (0, 0, 22) else ((x.y - 1980) * 512 + x.m * 32 + x.d, x.h * 2048 + x.mi * 32 + x.s / 2, 0)
def dosF (t : Int) : Int × Int × Int := if t < -1099511627776 ∨ 1099511627776 < t then (0, 0, 2) else dosOf (dayF t)
theorem dos_no (t : Int) (w : World) (h : t < -1099511627776 ∨ 1099511627776 < t) :
    Calls Tryd.prog 41 #[.int .i64 t] w fun e w' => e = .returned (.tuple #[.int .i64 0, .int .i64 0, .int .i64 2]) ∧ Below w.heap.size w w' := by
  have hc0 : ∀ w, Calls Tryd.prog 55 #[.int .i64 t] w fun e w' => e = .returned (.tuple #[.agg #[.int .i64 0, .int .i64 0, .int .i64 0, .int .i64 0, .int .i64 0, .int .i64 0], .int .i64 2]) ∧ Below w.heap.size w w' := fun w => dayOf_no t w h
  have H := Lib.hid hc0; clear hc0
  go_enter Tryd.func41, Tryd.ntmps41
  go_wp2_with (go_at_call 55; refine (H.out _).mono ?_; rintro e w1 ⟨rfl, hb1⟩)
  go_ret3
  exact ⟨rfl, balloc hb1 _⟩
set_option maxRecDepth 100000 in
set_option maxHeartbeats 4000000 in
theorem dos_yes (t : Int) (w : World) (h0 : -1099511627776 ≤ t) (h1 : t ≤ 1099511627776) :
    Calls Tryd.prog 41 #[.int .i64 t] w fun e w' => e = .returned (.tuple #[.int .i64 (dosOf (dayF t)).1, .int .i64 (dosOf (dayF t)).2.1, .int .i64 (dosOf (dayF t)).2.2]) ∧ Below w.heap.size w w' := by
  have hc0 : ∀ w, Calls Tryd.prog 55 #[.int .i64 t] w fun e w' => e = .returned (.tuple #[(dayF t).val, .int .i64 0]) ∧ Below w.heap.size w w' := fun w => dayOf_yes t w h0 h1
  have hbd := day_bd t h0 h1
  generalize dayF t = x at *
  obtain ⟨y, m, d, h, mi, s⟩ := x
  unfold Six.val at hc0
  dsimp only at hc0 hbd
  obtain ⟨y0, y1, m0, m1, d0, d1, hh0, hh1, i0, i1, s0, s1⟩ := hbd
  have H := Lib.hid hc0; clear hc0
  by_cases r1 : y < 1980
  · have hd : Hid (dosOf ⟨y, m, d, h, mi, s⟩ = (0, 0, 22)) := Lib.hid (by unfold dosOf; rw [if_pos (.inl r1)])
    go_enter Tryd.func41, Tryd.ntmps41
    go_wp2_with (go_at_call 55; refine (H.out _).mono ?_; rintro e w1 ⟨rfl, hb1⟩)
    go_ret3
    exact ⟨by rw [hd.out]; rfl, balloc hb1 _⟩
  by_cases r2 : 2107 < y
  · have hd : Hid (dosOf ⟨y, m, d, h, mi, s⟩ = (0, 0, 22)) := Lib.hid (by unfold dosOf; rw [if_pos (.inr r2)])
    go_enter Tryd.func41, Tryd.ntmps41
    go_wp2_with (go_at_call 55; refine (H.out _).mono ?_; rintro e w1 ⟨rfl, hb1⟩)
    go_ret3
    exact ⟨by rw [hd.out]; rfl, balloc hb1 _⟩
  have hd : Hid (dosOf ⟨y, m, d, h, mi, s⟩ = ((y - 1980) * 512 + m * 32 + d, h * 2048 + mi * 32 + s / 2, 0)) := Lib.hid (by unfold dosOf; rw [if_neg (by dsimp only; omega)])
  have o1 := Lib.hid (or_date (y - 1980) m d (by omega) (by omega) (by omega) (by omega) (by omega) (by omega))
  have o2 := Lib.hid (or_time h mi (s / 2) (by omega) (by omega) (by omega) (by omega) (by omega) (by omega))
  go_enter Tryd.func41, Tryd.ntmps41
  go_wp2_with (go_at_call 55; refine (H.out _).mono ?_; rintro e w1 ⟨rfl, hb1⟩)
  go_quiet (fail)
  go_wp2
  go_ret3
  exact ⟨by rw [hd.out, ← o1.out, ← o2.out]; rfl, bdrewN (balloc hb1 _) _⟩
theorem dos_calls (t : Int) (w : World) :
    Calls Tryd.prog 41 #[.int .i64 t] w fun e w' => e = .returned (.tuple #[.int .i64 (dosF t).1, .int .i64 (dosF t).2.1, .int .i64 (dosF t).2.2]) ∧ Below w.heap.size w w' := by
  unfold dosF
  by_cases h : t < -1099511627776 ∨ 1099511627776 < t
  · rw [if_pos h]; exact dos_no t w h
  · rw [if_neg h]; exact dos_yes t w (by omega) (by omega)
end Go.Proofs.YtoiffnoiliknnaaDoor.Tim
set_option linter.unusedVariables false
namespace Go.Proofs.YtoiffnoiliknnaaDoor.Tim
open Go.RowKit Go.BigFrame Go.Proofs.YtoiffnoiliknnaaDoor.Reg Go.Proofs.YtoiffnoiliknnaaDoor.Plong Go.Proofs.YtoiffnoiliknnaaDoor.Pfloor Go.Proofs.YtoiffnoiliknnaaDoor.Pmonth Go.Proofs.YtoiffnoiliknnaaDoorW.PrintWords Go.Proofs.YtoiffnoiliknnaaDoorW.PrintLast Go.Proofs.YtoiffnoiliknnaaDoorW.PrintMore

theorem leap_f (y : Int) : hamperref18_leap.f y = some (leapB y) := by
  unfold hamperref18_leap.f leapB
  simp only [tmod4, tmod100]
  have : (Int.tmod y 400 == 0) = decide (y % 400 = 0) := by
    rw [Bool.eq_iff_iff, beq_iff_eq, decide_eq_true_eq]; exact tmod400 y
  rw [this]
  by_cases h4 : y % 4 = 0
  · rw [if_pos h4]
    by_cases h100 : y % 100 = 0
    · rw [if_pos h100]; simp [h4, h100]
    · rw [if_neg h100]; simp [h4, h100]
  · rw [if_neg h4]; simp [h4]
def dl (y : Int) : Int := if leapB y then 366 else 365
theorem dl_bd (y : Int) : 365 ≤ dl y ∧ dl y ≤ 366 := by unfold dl; split <;> omega
theorem days_f (y : Int) : hamperref18_days.f y = some (dl y) := by
  unfold hamperref18_days.f dl
  rw [leap_f]
  simp only [Option.bind_some]
  split <;> rfl
theorem month_f (y m : Int) : hamperref18_month.f y m = some (ml y m) := by
  unfold hamperref18_month.f ml
  by_cases h2 : m = 2
  · rw [if_pos h2, if_pos h2, days_f]
    simp only [Option.bind_some, Option.some.injEq]
    unfold dl
    have a : wrap64 (366 - 337) = 29 := by unfold wrap64; omega
    have b : wrap64 (365 - 337) = 28 := by unfold wrap64; omega
    split <;> assumption
  · rw [if_neg h2, if_neg h2]
    by_cases h4 : m = 4
    · rw [if_pos h4, if_pos (.inl h4)]
    rw [if_neg h4]
    by_cases h6 : m = 6
    · rw [if_pos h6, if_pos (by omega)]
    rw [if_neg h6]
    by_cases h9 : m = 9
    · rw [if_pos h9, if_pos (by omega)]
    rw [if_neg h9]
    by_cases h11 : m = 11
    · rw [if_pos h11, if_pos (by omega)]
    rw [if_neg h11, if_neg (by omega)]
theorem month_any (y m : Int) (w : World) : Calls Tryd.prog 58 #[.int .i64 y, .int .i64 m] w fun e w' => e = .returned (.int .i64 (ml y m)) ∧ Drawn0 w w' :=
  hamperref18_month.calls y m _ w (month_f y m)
theorem days_any (y : Int) (w : World) : Calls Tryd.prog 57 #[.int .i64 y] w fun e w' => e = .returned (.int .i64 (dl y)) ∧ Drawn0 w w' :=
  hamperref18_days.calls y _ w (days_f y)
theorem quiet_drawn {P : Program} {f : FuncId} {args : Array Value} {w : World} {n : Nat} {v : Value}
    (h : Calls P f args (w.drewN n) fun e w' => e = .returned v ∧ Drawn0 (w.drewN n) w') : Calls P f args (w.drewN n) fun e w'' => e = .returned v ∧ ∃ m, w'' = w.drewN m :=
  h.mono fun _ _ ⟨he, ⟨m, hm⟩⟩ => ⟨he, n + m, by rw [hm, World.drewN_drewN]⟩

/-! ### the days, year by year -/
theorem yd_next (y : Int) : yd (y + 1) = yd y + dl y := by
  unfold yd dl leapB
  have e : y + 1 - 1 = y := by omega
  rw [e]
  by_cases h4 : y % 4 = 0
  · by_cases h100 : y % 100 = 0
    · by_cases h400 : y % 400 = 0
      · rw [if_pos (by simp [h4, h400])]; omega
      · rw [if_neg (by simp [h4, h100, h400])]; omega
    · rw [if_pos (by simp [h4, h100])]; omega
  · rw [if_neg (by simp [h4])]; omega
theorem yd_400 (y : Int) : yd (y + 400) = yd y + 146097 := by unfold yd; omega
theorem yd_1970 : yd 1970 = 0 := by unfold yd; omega
theorem ml_400 (y m : Int) : ml (y + 400) m = ml y m := by
  have : leapB (y + 400) = leapB y := by
    unfold leapB
    rw [show (y + 400) % 4 = y % 4 by omega, show (y + 400) % 100 = y % 100 by omega, show (y + 400) % 400 = y % 400 by omega]
  unfold ml; rw [this]
def cumF (f : Int → Int) : Nat → Int
  | 0 => 0
  | k + 1 => cumF f k + f (k + 1)

set_option maxRecDepth 100000 in
set_option maxHeartbeats 4000000 in
theorem refsec_0 (y m d h mi s : Int) (w : World)  (a1 : y < -40000) :
    Calls Tryd.prog 44 #[.agg #[.int .i64 y, .int .i64 m, .int .i64 d, .int .i64 h, .int .i64 mi, .int .i64 s]] w fun e w' => e = .returned (.tuple #[.int .i64 0, .int .i64 2]) ∧ Below w.heap.size w w' := by
  go_enter Tryd.func44, Tryd.ntmps44
  go_wp2
  go_quiet ((go_at_call 58; exact quiet_drawn (month_any _ _ _)))
  go_wp2
  go_ret2
  exact ⟨rfl, bdrewN (balloc (Below.refl _ _) _) _⟩

set_option maxRecDepth 100000 in
set_option maxHeartbeats 4000000 in
theorem refsec_1 (y m d h mi s : Int) (w : World) (a1 : decide (y < -40000) = false) (a2 : 40000 < y) :
    Calls Tryd.prog 44 #[.agg #[.int .i64 y, .int .i64 m, .int .i64 d, .int .i64 h, .int .i64 mi, .int .i64 s]] w fun e w' => e = .returned (.tuple #[.int .i64 0, .int .i64 2]) ∧ Below w.heap.size w w' := by
  go_enter Tryd.func44, Tryd.ntmps44
  go_wp2
  go_quiet ((go_at_call 58; exact quiet_drawn (month_any _ _ _)))
  go_wp2
  go_ret2
  exact ⟨rfl, bdrewN (balloc (Below.refl _ _) _) _⟩

set_option maxRecDepth 100000 in
set_option maxHeartbeats 4000000 in
theorem refsec_2 (y m d h mi s : Int) (w : World) (a1 : decide (y < -40000) = false) (a2 : decide (40000 < y) = false) (a3 : m < 1) :
    Calls Tryd.prog 44 #[.agg #[.int .i64 y, .int .i64 m, .int .i64 d, .int .i64 h, .int .i64 mi, .int .i64 s]] w fun e w' => e = .returned (.tuple #[.int .i64 0, .int .i64 2]) ∧ Below w.heap.size w w' := by
  go_enter Tryd.func44, Tryd.ntmps44
  go_wp2
  go_quiet ((go_at_call 58; exact quiet_drawn (month_any _ _ _)))
  go_wp2
  go_ret2
  exact ⟨rfl, bdrewN (balloc (Below.refl _ _) _) _⟩

set_option maxRecDepth 100000 in
set_option maxHeartbeats 4000000 in
theorem refsec_3 (y m d h mi s : Int) (w : World) (a1 : decide (y < -40000) = false) (a2 : decide (40000 < y) = false) (a3 : decide (m < 1) = false) (a4 : 12 < m) :
    Calls Tryd.prog 44 #[.agg #[.int .i64 y, .int .i64 m, .int .i64 d, .int .i64 h, .int .i64 mi, .int .i64 s]] w fun e w' => e = .returned (.tuple #[.int .i64 0, .int .i64 2]) ∧ Below w.heap.size w w' := by
  go_enter Tryd.func44, Tryd.ntmps44
  go_wp2
  go_quiet ((go_at_call 58; exact quiet_drawn (month_any _ _ _)))
  go_wp2
  go_ret2
  exact ⟨rfl, bdrewN (balloc (Below.refl _ _) _) _⟩

set_option maxRecDepth 100000 in
set_option maxHeartbeats 4000000 in
theorem refsec_4 (y m d h mi s : Int) (w : World) (a1 : decide (y < -40000) = false) (a2 : decide (40000 < y) = false) (a3 : decide (m < 1) = false) (a4 : decide (12 < m) = false) (a5 : d < 1) :
    Calls Tryd.prog 44 #[.agg #[.int .i64 y, .int .i64 m, .int .i64 d, .int .i64 h, .int .i64 mi, .int .i64 s]] w fun e w' => e = .returned (.tuple #[.int .i64 0, .int .i64 2]) ∧ Below w.heap.size w w' := by
  go_enter Tryd.func44, Tryd.ntmps44
  go_wp2
  go_quiet ((go_at_call 58; exact quiet_drawn (month_any _ _ _)))
  go_wp2
  go_ret2
  exact ⟨rfl, bdrewN (balloc (Below.refl _ _) _) _⟩

set_option maxRecDepth 100000 in
set_option maxHeartbeats 4000000 in
theorem refsec_5 (y m d h mi s : Int) (w : World) (a1 : decide (y < -40000) = false) (a2 : decide (40000 < y) = false) (a3 : decide (m < 1) = false) (a4 : decide (12 < m) = false) (a5 : decide (d < 1) = false) (a6 : ml y m < d) :
    Calls Tryd.prog 44 #[.agg #[.int .i64 y, .int .i64 m, .int .i64 d, .int .i64 h, .int .i64 mi, .int .i64 s]] w fun e w' => e = .returned (.tuple #[.int .i64 0, .int .i64 2]) ∧ Below w.heap.size w w' := by
  go_enter Tryd.func44, Tryd.ntmps44
  go_wp2
  go_quiet ((go_at_call 58; exact quiet_drawn (month_any _ _ _)))
  go_wp2
  go_ret2
  exact ⟨rfl, bdrewN (balloc (Below.refl _ _) _) _⟩

set_option maxRecDepth 100000 in
set_option maxHeartbeats 4000000 in
theorem refsec_6 (y m d h mi s : Int) (w : World) (a1 : decide (y < -40000) = false) (a2 : decide (40000 < y) = false) (a3 : decide (m < 1) = false) (a4 : decide (12 < m) = false) (a5 : decide (d < 1) = false) (a6 : decide (ml y m < d) = false) (a7 : h < 0) :
    Calls Tryd.prog 44 #[.agg #[.int .i64 y, .int .i64 m, .int .i64 d, .int .i64 h, .int .i64 mi, .int .i64 s]] w fun e w' => e = .returned (.tuple #[.int .i64 0, .int .i64 2]) ∧ Below w.heap.size w w' := by
  go_enter Tryd.func44, Tryd.ntmps44
  go_wp2
  go_quiet ((go_at_call 58; exact quiet_drawn (month_any _ _ _)))
  go_wp2
  go_ret2
  exact ⟨rfl, bdrewN (balloc (Below.refl _ _) _) _⟩

set_option maxRecDepth 100000 in
set_option maxHeartbeats 4000000 in
theorem refsec_7 (y m d h mi s : Int) (w : World) (a1 : decide (y < -40000) = false) (a2 : decide (40000 < y) = false) (a3 : decide (m < 1) = false) (a4 : decide (12 < m) = false) (a5 : decide (d < 1) = false) (a6 : decide (ml y m < d) = false) (a7 : decide (h < 0) = false) (a8 : 23 < h) :
    Calls Tryd.prog 44 #[.agg #[.int .i64 y, .int .i64 m, .int .i64 d, .int .i64 h, .int .i64 mi, .int .i64 s]] w fun e w' => e = .returned (.tuple #[.int .i64 0, .int .i64 2]) ∧ Below w.heap.size w w' := by
  go_enter Tryd.func44, Tryd.ntmps44
  go_wp2
  go_quiet ((go_at_call 58; exact quiet_drawn (month_any _ _ _)))
  go_wp2
  go_ret2
  exact ⟨rfl, bdrewN (balloc (Below.refl _ _) _) _⟩

set_option maxRecDepth 100000 in
set_option maxHeartbeats 4000000 in
theorem refsec_8 (y m d h mi s : Int) (w : World) (a1 : decide (y < -40000) = false) (a2 : decide (40000 < y) = false) (a3 : decide (m < 1) = false) (a4 : decide (12 < m) = false) (a5 : decide (d < 1) = false) (a6 : decide (ml y m < d) = false) (a7 : decide (h < 0) = false) (a8 : decide (23 < h) = false) (a9 : mi < 0) :
    Calls Tryd.prog 44 #[.agg #[.int .i64 y, .int .i64 m, .int .i64 d, .int .i64 h, .int .i64 mi, .int .i64 s]] w fun e w' => e = .returned (.tuple #[.int .i64 0, .int .i64 2]) ∧ Below w.heap.size w w' := by
  go_enter Tryd.func44, Tryd.ntmps44
  go_wp2
  go_quiet ((go_at_call 58; exact quiet_drawn (month_any _ _ _)))
  go_wp2
  go_ret2
  exact ⟨rfl, bdrewN (balloc (Below.refl _ _) _) _⟩

set_option maxRecDepth 100000 in
set_option maxHeartbeats 4000000 in
theorem refsec_9 (y m d h mi s : Int) (w : World) (a1 : decide (y < -40000) = false) (a2 : decide (40000 < y) = false) (a3 : decide (m < 1) = false) (a4 : decide (12 < m) = false) (a5 : decide (d < 1) = false) (a6 : decide (ml y m < d) = false) (a7 : decide (h < 0) = false) (a8 : decide (23 < h) = false) (a9 : decide (mi < 0) = false) (a10 : 59 < mi) :
    Calls Tryd.prog 44 #[.agg #[.int .i64 y, .int .i64 m, .int .i64 d, .int .i64 h, .int .i64 mi, .int .i64 s]] w fun e w' => e = .returned (.tuple #[.int .i64 0, .int .i64 2]) ∧ Below w.heap.size w w' := by
  go_enter Tryd.func44, Tryd.ntmps44
  go_wp2
  go_quiet ((go_at_call 58; exact quiet_drawn (month_any _ _ _)))
  go_wp2
  go_ret2
  exact ⟨rfl, bdrewN (balloc (Below.refl _ _) _) _⟩

set_option maxRecDepth 100000 in
set_option maxHeartbeats 4000000 in
theorem refsec_10 (y m d h mi s : Int) (w : World) (a1 : decide (y < -40000) = false) (a2 : decide (40000 < y) = false) (a3 : decide (m < 1) = false) (a4 : decide (12 < m) = false) (a5 : decide (d < 1) = false) (a6 : decide (ml y m < d) = false) (a7 : decide (h < 0) = false) (a8 : decide (23 < h) = false) (a9 : decide (mi < 0) = false) (a10 : decide (59 < mi) = false) (a11 : s < 0) :
    Calls Tryd.prog 44 #[.agg #[.int .i64 y, .int .i64 m, .int .i64 d, .int .i64 h, .int .i64 mi, .int .i64 s]] w fun e w' => e = .returned (.tuple #[.int .i64 0, .int .i64 2]) ∧ Below w.heap.size w w' := by
  go_enter Tryd.func44, Tryd.ntmps44
  go_wp2
  go_quiet ((go_at_call 58; exact quiet_drawn (month_any _ _ _)))
  go_wp2
  go_ret2
  exact ⟨rfl, bdrewN (balloc (Below.refl _ _) _) _⟩

set_option maxRecDepth 100000 in
set_option maxHeartbeats 4000000 in
theorem refsec_11 (y m d h mi s : Int) (w : World) (a1 : decide (y < -40000) = false) (a2 : decide (40000 < y) = false) (a3 : decide (m < 1) = false) (a4 : decide (12 < m) = false) (a5 : decide (d < 1) = false) (a6 : decide (ml y m < d) = false) (a7 : decide (h < 0) = false) (a8 : decide (23 < h) = false) (a9 : decide (mi < 0) = false) (a10 : decide (59 < mi) = false) (a11 : decide (s < 0) = false) (a12 : 59 < s) :
    Calls Tryd.prog 44 #[.agg #[.int .i64 y, .int .i64 m, .int .i64 d, .int .i64 h, .int .i64 mi, .int .i64 s]] w fun e w' => e = .returned (.tuple #[.int .i64 0, .int .i64 2]) ∧ Below w.heap.size w w' := by
  go_enter Tryd.func44, Tryd.ntmps44
  go_wp2
  go_quiet ((go_at_call 58; exact quiet_drawn (month_any _ _ _)))
  go_wp2
  go_ret2
  exact ⟨rfl, bdrewN (balloc (Below.refl _ _) _) _⟩

theorem refsec_no (y m d h mi s : Int) (w : World) (hr : rightB y m d h mi s = false) :
    Calls Tryd.prog 44 #[.agg #[.int .i64 y, .int .i64 m, .int .i64 d, .int .i64 h, .int .i64 mi, .int .i64 s]] w fun e w' => e = .returned (.tuple #[.int .i64 0, .int .i64 2]) ∧ Below w.heap.size w w' := by
  by_cases a1 : y < -40000
  case pos => exact refsec_0 y m d h mi s w  a1
  by_cases a2 : 40000 < y
  case pos => exact refsec_1 y m d h mi s w (decide_eq_false a1) a2
  by_cases a3 : m < 1
  case pos => exact refsec_2 y m d h mi s w (decide_eq_false a1) (decide_eq_false a2) a3
  by_cases a4 : 12 < m
  case pos => exact refsec_3 y m d h mi s w (decide_eq_false a1) (decide_eq_false a2) (decide_eq_false a3) a4
  by_cases a5 : d < 1
  case pos => exact refsec_4 y m d h mi s w (decide_eq_false a1) (decide_eq_false a2) (decide_eq_false a3) (decide_eq_false a4) a5
  by_cases a6 : ml y m < d
  case pos => exact refsec_5 y m d h mi s w (decide_eq_false a1) (decide_eq_false a2) (decide_eq_false a3) (decide_eq_false a4) (decide_eq_false a5) a6
  by_cases a7 : h < 0
  case pos => exact refsec_6 y m d h mi s w (decide_eq_false a1) (decide_eq_false a2) (decide_eq_false a3) (decide_eq_false a4) (decide_eq_false a5) (decide_eq_false a6) a7
  by_cases a8 : 23 < h
  case pos => exact refsec_7 y m d h mi s w (decide_eq_false a1) (decide_eq_false a2) (decide_eq_false a3) (decide_eq_false a4) (decide_eq_false a5) (decide_eq_false a6) (decide_eq_false a7) a8
  by_cases a9 : mi < 0
  case pos => exact refsec_8 y m d h mi s w (decide_eq_false a1) (decide_eq_false a2) (decide_eq_false a3) (decide_eq_false a4) (decide_eq_false a5) (decide_eq_false a6) (decide_eq_false a7) (decide_eq_false a8) a9
  by_cases a10 : 59 < mi
  case pos => exact refsec_9 y m d h mi s w (decide_eq_false a1) (decide_eq_false a2) (decide_eq_false a3) (decide_eq_false a4) (decide_eq_false a5) (decide_eq_false a6) (decide_eq_false a7) (decide_eq_false a8) (decide_eq_false a9) a10
  by_cases a11 : s < 0
  case pos => exact refsec_10 y m d h mi s w (decide_eq_false a1) (decide_eq_false a2) (decide_eq_false a3) (decide_eq_false a4) (decide_eq_false a5) (decide_eq_false a6) (decide_eq_false a7) (decide_eq_false a8) (decide_eq_false a9) (decide_eq_false a10) a11
  by_cases a12 : 59 < s
  case pos => exact refsec_11 y m d h mi s w (decide_eq_false a1) (decide_eq_false a2) (decide_eq_false a3) (decide_eq_false a4) (decide_eq_false a5) (decide_eq_false a6) (decide_eq_false a7) (decide_eq_false a8) (decide_eq_false a9) (decide_eq_false a10) (decide_eq_false a11) a12
  exfalso
  unfold rightB at hr
  have := of_decide_eq_false hr
  omega
end Go.Proofs.YtoiffnoiliknnaaDoor.Tim
set_option linter.unusedVariables false
namespace Go.Proofs.YtoiffnoiliknnaaDoor.Tim
open Go.RowKit Go.BigFrame Go.Proofs.YtoiffnoiliknnaaDoor.Reg Go.Proofs.YtoiffnoiliknnaaDoor.Plong Go.Proofs.YtoiffnoiliknnaaDoor.Pfloor Go.Proofs.YtoiffnoiliknnaaDoor.Pmonth Go.Proofs.YtoiffnoiliknnaaDoorW.PrintWords Go.Proofs.YtoiffnoiliknnaaDoorW.PrintLast Go.Proofs.YtoiffnoiliknnaaDoorW.PrintMore

theorem cum_400 (y : Int) : ∀ k, cum (y + 400) k = cum y k
  | 0 => rfl
  | k + 1 => by simp only [cum]; rw [cum_400 y k, ml_400]
theorem cum_same {y z : Int} (h : ∀ m, ml z m = ml y m) : ∀ k, cum z k = cum y k
  | 0 => rfl
  | k + 1 => by simp only [cum]; rw [cum_same h k, h]

set_option maxRecDepth 100000 in
set_option maxHeartbeats 8000000 in
theorem refsec_yes (y m d h mi s : Int) (w : World) (hr : rightB y m d h mi s = true) :
    Calls Tryd.prog 44 #[.agg #[.int .i64 y, .int .i64 m, .int .i64 d, .int .i64 h, .int .i64 mi, .int .i64 s]] w fun e w' => e = .returned (.tuple #[.int .i64 (secsR y m d h mi s).1, .int .i64 (secsR y m d h mi s).2]) ∧ Below w.heap.size w w' := by
  unfold rightB at hr
  have hR := of_decide_eq_true hr
  clear hr
  obtain ⟨r1, r2, r3, r4, r5, r6, r7, r8, r9, r10, r11, r12⟩ := hR
  have hm31 := ml_bd y m
  have hd31 : d ≤ 31 := by omega
  have HY := Lib.hid (yd_bd y r1 r2)
  have HM := Lib.hid (show m = (((m - 1).toNat : Nat) : Int) + 1 by omega)
  have a1 : decide (y < -40000) = false := decide_eq_false (by omega)
  have a2 : decide (40000 < y) = false := decide_eq_false (by omega)
  have a3 : decide (m < 1) = false := decide_eq_false (by omega)
  have a4 : decide (12 < m) = false := decide_eq_false (by omega)
  have a5 : decide (d < 1) = false := decide_eq_false (by omega)
  have a6 : decide (ml y m < d) = false := decide_eq_false (by omega)
  have a7 : decide (h < 0) = false := decide_eq_false (by omega)
  have a8 : decide (23 < h) = false := decide_eq_false (by omega)
  have a9 : decide (mi < 0) = false := decide_eq_false (by omega)
  have a10 : decide (59 < mi) = false := decide_eq_false (by omega)
  have a11 : decide (s < 0) = false := decide_eq_false (by omega)
  have a12 : decide (59 < s) = false := decide_eq_false (by omega)
  go_enter Tryd.func44, Tryd.ntmps44
  go_wp2
  go_quiet ((go_at_call 58; exact quiet_drawn (month_any _ _ _)))
  clear a1 a2 a3 a4 a5 a6 a7 a8 a9 a10 a11 a12 r6
  go_wp2
  go_loop [4, 5] (fun a b => ∃ z D : Int, a = .int .i64 z ∧ b = .int .i64 D ∧ Hid (D + yd z = yd y) ∧ -40000 ≤ z ∧ z ≤ 40000 ∧ -20000000 ≤ D ∧ D ≤ 20000000 ∧ Hid (∀ q, ml z q = ml y q)) (fun a _ => (2400 - intOf a).toNat)
  case atStart => exact ⟨y, 0, rfl, rfl, Lib.hid (by omega), by omega, by omega, by omega, by omega, Lib.hid (fun _ => rfl)⟩
  case round =>
    obtain ⟨z, D, rfl, rfl, hD, z0, z1, D0, D1, hml⟩ := hrel
    by_cases hlt : z < 1970
    · have hy2 : Hid (-20000000 ≤ D - 146097) := Lib.hid (by have := hD.out; have := yd_bd y r1 r2; unfold yd at this; have e := yd_400 z; have e2 := HY.out; have : yd z ≤ 0 := by { unfold yd; omega }; unfold yd at *; omega)
      go_wp2
      go_round
      case rel => exact ⟨z + 400, D - 146097, rfl, rfl, Lib.hid (by rw [yd_400]; have := hD.out; omega), by omega, by omega, hy2.out, by omega, Lib.hid (fun q => by rw [ml_400]; exact hml.out q)⟩
      case measure => simp [intOf]; omega
    · have z1970 : 1970 ≤ z := by omega
      clear hlt
      go_wp2
      go_loop [4, 5] (fun a b => ∃ z D : Int, a = .int .i64 z ∧ b = .int .i64 D ∧ Hid (D + yd z = yd y) ∧ 1970 ≤ z ∧ z ≤ 40000 ∧ -20000000 ≤ D ∧ D ≤ 20000000 ∧ Hid (∀ q, ml z q = ml y q)) (fun a _ => (intOf a).toNat)
      case atStart => exact ⟨z, D, rfl, rfl, hD, z1970, z1, D0, D1, hml⟩
      case round =>
        clear hD hml D0 D1 z1970 z0 z1
        obtain ⟨z2, D2, rfl, rfl, hD, z0, z1, D0, D1, hml⟩ := hrel
        by_cases hlt : 2370 ≤ z2
        · have hy2 : Hid (D2 + 146097 ≤ 20000000) := Lib.hid (by have h1 := hD.out; have h2 := HY.out; have : yd z2 ≥ 146097 := by { unfold yd; omega }; omega)
          go_wp2
          go_round
          case rel => exact ⟨z2 - 400, D2 + 146097, rfl, rfl, Lib.hid (by have := yd_400 (z2 - 400); rw [show z2 - 400 + 400 = z2 by omega] at this; have := hD.out; omega), by omega, by omega, by omega, hy2.out, Lib.hid (fun q => by have := ml_400 (z2 - 400) q; rw [show z2 - 400 + 400 = z2 by omega] at this; rw [← this]; exact hml.out q)⟩
          case measure => simp [intOf]; omega
        · have z2370 : z2 < 2370 := by omega
          clear hlt
          go_wp2
          refine wp_world ?_
          intro w0 hw0
          have c0 : w0.cell? ⟨w.heap.size, 0, none⟩ = some (.int .i64 y) := by rw [hw0]; go_simp
          have c1 : w0.cell? ⟨w.heap.size, 1, none⟩ = some (.int .i64 m) := by rw [hw0]; go_simp
          have c2 : w0.cell? ⟨w.heap.size, 2, none⟩ = some (.int .i64 d) := by rw [hw0]; go_simp
          have c3 : w0.cell? ⟨w.heap.size, 3, none⟩ = some (.int .i64 h) := by rw [hw0]; go_simp
          have c4 : w0.cell? ⟨w.heap.size, 4, none⟩ = some (.int .i64 mi) := by rw [hw0]; go_simp
          have c5 : w0.cell? ⟨w.heap.size, 5, none⟩ = some (.int .i64 s) := by rw [hw0]; go_simp
          have hbw : Below w.heap.size w w0 := by rw [hw0]; exact bdrewN (balloc (Below.refl _ _) _) _
          clear hw0
          go_loopw [5, 6] (fun b c wr => ∃ x E : Int, b = .int .i64 E ∧ c = .int .i64 x ∧ Hid (E = D2 + yd x) ∧ 1970 ≤ x ∧ x ≤ z2 ∧ -50000000 ≤ E ∧ E ≤ 50000000 ∧ Drawn0 w0 wr) (fun _ c _ => (z2 - intOf c).toNat)
          case atStart => exact ⟨1970, D2, rfl, rfl, Lib.hid (by rw [yd_1970]; omega), by omega, by omega, by omega, by omega, Drawn0.refl _⟩
          case round =>
            obtain ⟨x, E, rfl, rfl, hE, x0, x1, E0, E1, ⟨n, rfl⟩⟩ := hrel
            have hdl := dl_bd x
            by_cases hlt : x < z2
            · have hE2 : Hid (E + dl x = D2 + yd (x + 1)) := Lib.hid (by rw [yd_next, hE.out]; omega)
              have hEb : Hid (-50000000 ≤ E + dl x ∧ E + dl x ≤ 50000000) := Lib.hid (by have h1 := hE2.out; have := yd_bd (x + 1) (by omega) (by omega); omega)
              go_wp2_with (go_at_call 57; refine (days_any _ _).mono ?_; rintro e w3 ⟨rfl, ⟨nd, rfl⟩⟩)
              go_roundw
              case rel => exact ⟨x + 1, E + dl x, rfl, rfl, hE2, by omega, by omega, hEb.out.1, hEb.out.2, ⟨⟨_, rfl⟩⟩⟩
              case measure => simp [intOf]; omega
            · have hxe : Hid (E = yd y) := Lib.hid (by have h1 := hE.out; have h2 := hD.out; have hz : x = z2 := (by omega); rw [hz] at h1; omega)
              have hE0 : Hid (x = z2) := Lib.hid (by omega)
              clear hE
              go_wp2
              go_loopw [5, 7] (fun b c wr => ∃ k : Nat, (k : Int) ≤ m - 1 ∧ b = .int .i64 (E + cum z2 k) ∧ c = .int .i64 (k + 1) ∧ Drawn0 w0 wr) (fun _ c _ => (m - intOf c).toNat)
              case atStart => exact ⟨0, by omega, by simp [cum], rfl, ⟨⟨_, rfl⟩⟩⟩
              case round =>
                obtain ⟨k, hk, rfl, rfl, ⟨n2, rfl⟩⟩ := hrel
                have hcb := cum_bd z2 k
                have hml2 := ml_bd z2 (k + 1)
                by_cases hlk : (k : Int) < m - 1
                · have hlk' : (k : Int) + 1 < m := by omega
                  go_wp2_with (go_at_call 58; refine (month_any _ _ _).mono ?_; rintro e w3 ⟨rfl, ⟨nd, rfl⟩⟩)
                  go_roundw
                  case rel => exact ⟨k + 1, by omega, by simp only [cum]; congr 1; omega, by go_num, ⟨⟨_, rfl⟩⟩⟩
                  case measure => simp [intOf]; omega
                · have hke : m - 1 = (k : Int) := by omega
                  have hcum : Hid (secs y m d h mi s = (E + cum z2 k + d - 1) * 86400 + h * 3600 + mi * 60 + s) := Lib.hid (by unfold secs; rw [hke, Int.toNat_natCast, hxe.out, cum_same hml.out])
                  have hnl : ¬ (k : Int) + 1 < m := by omega
                  clear hke
                  by_cases h1 : (E + cum z2 k + d - 1) * 86400 + h * 3600 + mi * 60 + s < -1099511627776
                  · have hres : Hid (secsR y m d h mi s = (0, 3)) := Lib.hid (by unfold secsR; rw [if_pos (by rw [hcum.out]; omega)])
                    go_wp2
                    go_ret2
                    exact ⟨by rw [hres.out]; rfl, bdrewN hbw _⟩
                  by_cases h2 : 1099511627776 < (E + cum z2 k + d - 1) * 86400 + h * 3600 + mi * 60 + s
                  · have hres : Hid (secsR y m d h mi s = (0, 3)) := Lib.hid (by unfold secsR; rw [if_pos (by rw [hcum.out]; omega)])
                    go_wp2
                    go_ret2
                    exact ⟨by rw [hres.out]; rfl, bdrewN hbw _⟩
                  have hres : Hid (secsR y m d h mi s = ((E + cum z2 k + d - 1) * 86400 + h * 3600 + mi * 60 + s, 0)) := Lib.hid (by unfold secsR; rw [if_neg (by rw [hcum.out]; omega), hcum.out])
                  go_wp2
                  go_ret2
                  exact ⟨by rw [hres.out]; rfl, bdrewN hbw _⟩
theorem refsec_calls (y m d h mi s : Int) (w : World) :
    Calls Tryd.prog 44 #[.agg #[.int .i64 y, .int .i64 m, .int .i64 d, .int .i64 h, .int .i64 mi, .int .i64 s]] w fun e w' => e = .returned (.tuple #[.int .i64 (secondsF y m d h mi s).1, .int .i64 (secondsF y m d h mi s).2]) ∧ Below w.heap.size w w' := by
  unfold secondsF
  by_cases hr : rightB y m d h mi s = true
  · rw [if_pos hr]; exact refsec_yes y m d h mi s w hr
  · rw [if_neg hr]; exact refsec_no y m d h mi s w (by simpa using hr)

/-! ### OfDos -/
set_option maxHeartbeats 4000000 in
theorem refOfDos_out (date time : Int) (w : World) (hr : date < 0 ∨ 65535 < date ∨ time < 0 ∨ 65535 < time) :
    Calls Tryd.prog 22 #[.int .i64 date, .int .i64 time] w fun e w' => e = .returned (.tuple #[.int .i64 0, .int .i64 11]) ∧ Below w.heap.size w w' := by
  by_cases r1 : date < 0
  · go_enter Tryd.func22, Tryd.ntmps22
    go_wp2
    go_ret2
    exact ⟨rfl, Below.refl _ _⟩
  by_cases r2 : 65535 < date
  · go_enter Tryd.func22, Tryd.ntmps22
    go_wp2
    go_ret2
    exact ⟨rfl, Below.refl _ _⟩
  by_cases r3 : time < 0
  · go_enter Tryd.func22, Tryd.ntmps22
    go_wp2
    go_ret2
    exact ⟨rfl, Below.refl _ _⟩
  have r4 : 65535 < time := by omega
  go_enter Tryd.func22, Tryd.ntmps22
  go_wp2
  go_ret2
  exact ⟨rfl, Below.refl _ _⟩
set_option maxRecDepth 100000 in
set_option maxHeartbeats 4000000 in
theorem refOfDos_in (date time : Int) (w : World) (h0 : 0 ≤ date) (h1 : date ≤ 65535) (h2 : 0 ≤ time) (h3 : time ≤ 65535) :
    Calls Tryd.prog 22 #[.int .i64 date, .int .i64 time] w fun e w' => e = .returned (.tuple #[.int .i64 (ofDosF date time).1, .int .i64 (ofDosF date time).2]) ∧ Below w.heap.size w w' := by
  have hb := secondsF_bd (1980 + date / 512) (date / 32 % 16) (date % 32) (time / 2048) (time / 32 % 64) (time % 32 * 2)
  have hF : Hid (ofDosF date time = if (secondsF (1980 + date / 512) (date / 32 % 16) (date % 32) (time / 2048) (time / 32 % 64) (time % 32 * 2)).2 = 0 then ((secondsF (1980 + date / 512) (date / 32 % 16) (date % 32) (time / 2048) (time / 32 % 64) (time % 32 * 2)).1, 0) else (0, 11)) := Lib.hid (by unfold ofDosF; rw [if_neg (by omega)])
  have hcs : ∀ w, Calls Tryd.prog 44 #[.agg #[.int .i64 (1980 + date / 512), .int .i64 (date / 32 % 16), .int .i64 (date % 32), .int .i64 (time / 2048), .int .i64 (time / 32 % 64), .int .i64 (time % 32 * 2)]] w fun e w' => e = .returned (.tuple #[.int .i64 (secondsF (1980 + date / 512) (date / 32 % 16) (date % 32) (time / 2048) (time / 32 % 64) (time % 32 * 2)).1, .int .i64 (secondsF (1980 + date / 512) (date / 32 % 16) (date % 32) (time / 2048) (time / 32 % 64) (time % 32 * 2)).2]) ∧ Below w.heap.size w w' := fun w => refsec_calls _ _ _ _ _ _ w
  generalize secondsF (1980 + date / 512) (date / 32 % 16) (date % 32) (time / 2048) (time / 32 % 64) (time % 32 * 2) = S at *
  have H := Lib.hid hcs; clear hcs
  by_cases hz : S.2 = 0
  · have hz1 : (S.2 != 0) = false := by simpa using hz
    have HZ := Lib.hid hz; clear hz
    go_enter Tryd.func22, Tryd.ntmps22
    go_wp2_with fail
    refine (H.out _).mono ?_
    rintro e w1 ⟨rfl, hb1⟩
    go_wp2
    go_ret2
    exact ⟨by rw [hF.out, if_pos HZ.out]; rfl, hb1⟩
  · have hz1 : (S.2 != 0) = true := by simpa using hz
    have HZ := Lib.hid hz; clear hz
    go_enter Tryd.func22, Tryd.ntmps22
    go_wp2_with fail
    refine (H.out _).mono ?_
    rintro e w1 ⟨rfl, hb1⟩
    go_wp2
    go_ret2
    exact ⟨by rw [hF.out, if_neg HZ.out]; rfl, hb1⟩
theorem refOfDos_calls (date time : Int) (w : World) :
    Calls Tryd.prog 22 #[.int .i64 date, .int .i64 time] w fun e w' => e = .returned (.tuple #[.int .i64 (ofDosF date time).1, .int .i64 (ofDosF date time).2]) ∧ Below w.heap.size w w' := by
  by_cases h : date < 0 ∨ 65535 < date ∨ time < 0 ∨ 65535 < time
  · have : ofDosF date time = (0, 11) := by unfold ofDosF; rw [if_pos h]
    rw [this]; exact refOfDos_out date time w h
  · exact refOfDos_in date time w (by omega) (by omega) (by omega) (by omega)
end Go.Proofs.YtoiffnoiliknnaaDoor.Tim
set_option linter.unusedVariables false
namespace Go.Proofs.YtoiffnoiliknnaaDoor.Tim
open Go.RowKit Go.BigFrame Go.Proofs.YtoiffnoiliknnaaDoor.Reg Go.Proofs.YtoiffnoiliknnaaDoor.Plong Go.Proofs.YtoiffnoiliknnaaDoor.Pfloor Go.Proofs.YtoiffnoiliknnaaDoor.Pmonth Go.Proofs.YtoiffnoiliknnaaDoorW.PrintWords Go.Proofs.YtoiffnoiliknnaaDoorW.PrintLast Go.Proofs.YtoiffnoiliknnaaDoorW.PrintMore

/-! ### numbers -/
theorem dd_365 (d : Int) (h0 : 0 ≤ d) (h1 : d < 146097) (h : ddOf d = 365) : ((yOf d + 1) % 4 = 0 ∧ (yOf d + 1) % 100 ≠ 0) ∨ yOf d = 399 := by
  obtain ⟨n, rfl⟩ := Int.eq_ofNat_of_zero_le h0
  obtain ⟨y, hy, hs, he⟩ := year_exists n (by omega)
  have hok := List.all_eq_true.1 start_ok y (List.mem_range.2 hy)
  simp only [Bool.and_eq_true, Nat.ble_eq] at hok
  obtain ⟨⟨⟨k1, k2⟩, k3⟩, k4⟩ := hok
  have m1 := mid_mono _ _ hs
  have hyo : yOf (n : Int) = y := by
    have hm : yOf (n : Int) = ((mid n / 365 : Nat) : Int) := by unfold yOf mid; omega
    rw [hm]
    have hup : mid n ≤ 365 * y + 364 := by
      rcases he with he | he
      · exact Nat.le_trans (mid_mono n (startOf (y + 1) - 1) (by omega)) k2
      · subst he; unfold mid; omega
    have : mid n / 365 = y := by omega
    rw [this]
  unfold ddOf at h
  rw [hyo] at h ⊢
  rcases he with he | he
  · unfold startOf at he hs
    clear hyo m1 k1 k2 k3 k4
    have hn : n = 365 + (365 * y + y / 4 - y / 100) := by omega
    have hz : (y + 1) % 4 = 0 ∧ (y + 1) % 100 ≠ 0 := by clear h h0 h1; omega
    left
    omega
  · right; omega
def lp (y : Int) : Int := if leapB y then 1 else 0
theorem lp_of (y : Int) : (lp y = 1 ∧ y % 4 = 0 ∧ (y % 100 ≠ 0 ∨ y % 400 = 0)) ∨ (lp y = 0 ∧ ¬ (y % 4 = 0 ∧ (y % 100 ≠ 0 ∨ y % 400 = 0))) := by
  unfold lp leapB
  by_cases h : y % 4 = 0 ∧ (y % 100 ≠ 0 ∨ y % 400 = 0)
  · left; exact ⟨by rw [if_pos (decide_eq_true h)], h⟩
  · right; exact ⟨by rw [if_neg (by simpa using h)], h⟩
theorem ml_feb (y : Int) : ml y 2 = 28 + lp y := by unfold ml lp; rw [if_pos rfl]; split <;> rfl
theorem ml_at (y m : Int) (h : m = 1 ∨ m = 3 ∨ m = 5 ∨ m = 7 ∨ m = 8 ∨ m = 10 ∨ m = 12) : ml y m = 31 := by unfold ml; rw [if_neg (by omega), if_neg (by omega)]
theorem ml_30 (y m : Int) (h : m = 4 ∨ m = 6 ∨ m = 9 ∨ m = 11) : ml y m = 30 := by unfold ml; rw [if_neg (by omega), if_pos h]
theorem cums (y : Int) : cum y 0 = 0 ∧ cum y 1 = 31 ∧ cum y 2 = 59 + lp y ∧ cum y 3 = 90 + lp y ∧ cum y 4 = 120 + lp y ∧ cum y 5 = 151 + lp y ∧ cum y 6 = 181 + lp y ∧ cum y 7 = 212 + lp y ∧ cum y 8 = 243 + lp y ∧ cum y 9 = 273 + lp y ∧ cum y 10 = 304 + lp y ∧ cum y 11 = 334 + lp y := by
  have h1 : ml y (((0 : Nat) : Int) + 1) = 31 := ml_at y _ (by omega)
  have h2 : ml y (((1 : Nat) : Int) + 1) = 28 + lp y := ml_feb y
  have h3 : ml y (((2 : Nat) : Int) + 1) = 31 := ml_at y _ (by omega)
  have h4 : ml y (((3 : Nat) : Int) + 1) = 30 := ml_30 y _ (by omega)
  have h5 : ml y (((4 : Nat) : Int) + 1) = 31 := ml_at y _ (by omega)
  have h6 : ml y (((5 : Nat) : Int) + 1) = 30 := ml_30 y _ (by omega)
  have h7 : ml y (((6 : Nat) : Int) + 1) = 31 := ml_at y _ (by omega)
  have h8 : ml y (((7 : Nat) : Int) + 1) = 31 := ml_at y _ (by omega)
  have h9 : ml y (((8 : Nat) : Int) + 1) = 30 := ml_30 y _ (by omega)
  have h10 : ml y (((9 : Nat) : Int) + 1) = 31 := ml_at y _ (by omega)
  have h11 : ml y (((10 : Nat) : Int) + 1) = 30 := ml_30 y _ (by omega)
  simp only [cum, h1, h2, h3, h4, h5, h6, h7, h8, h9, h10, h11]
  and_intros <;> first | rfl | trivial | omega
theorem lp_bd (y : Int) : 0 ≤ lp y ∧ lp y ≤ 1 := by unfold lp; split <;> omega
theorem yd_era (e Y : Int) (y0 : 0 ≤ Y) (y1 : Y ≤ 399) : yd (400 * e + Y) + 59 + lp (400 * e + Y) = 146097 * e + (365 * Y + Y / 4 - Y / 100) - 719468 := by
  have a1 : (400 * e + Y - 1) / 4 = 100 * e + (Y - 1) / 4 := by omega
  have a2 : (400 * e + Y - 1) / 100 = 4 * e + (Y - 1) / 100 := by omega
  have a3 : (400 * e + Y - 1) / 400 = e + (Y - 1) / 400 := by omega
  have b1 : (400 * e + Y) % 4 = Y % 4 := by omega
  have b2 : (400 * e + Y) % 100 = Y % 100 := by omega
  have b3 : (400 * e + Y) % 400 = Y := by omega
  unfold yd
  rw [a1, a2, a3]
  rcases lp_of (400 * e + Y) with ⟨hl, l1, l2⟩ | ⟨hl, l1⟩
  · rw [hl]
    rw [b1] at l1
    rw [b2, b3] at l2
    clear a1 a2 a3 b1 b2 b3 hl
    rcases l2 with l2 | l2 <;> omega
  · rw [hl]
    rw [b1, b2, b3] at l1
    clear a1 a2 a3 b1 b2 b3 hl
    by_cases q : Y % 4 = 0
    · have q2 : Y % 100 = 0 := by omega
      have q3 : Y ≠ 0 := by omega
      omega
    · omega
theorem yd_era1 (e Y : Int) (y0 : 0 ≤ Y) (y1 : Y ≤ 399) : yd (400 * e + Y + 1) = 146097 * e + (365 * Y + Y / 4 - Y / 100) - 719468 + 306 := by
  have h := yd_era e Y y0 y1
  rw [yd_next]
  have : dl (400 * e + Y) = 365 + lp (400 * e + Y) := by unfold dl lp; split <;> rfl
  omega
theorem lp_next (e Y : Int) (h : ((Y + 1) % 4 = 0 ∧ (Y + 1) % 100 ≠ 0) ∨ Y = 399) : lp (400 * e + Y + 1) = 1 := by
  rcases lp_of (400 * e + Y + 1) with ⟨hl, l1, l2⟩ | ⟨hl, l1⟩
  · exact hl
  · exfalso
    apply l1
    rcases h with ⟨h1, h2⟩ | h
    · exact ⟨by omega, .inl (by omega)⟩
    · subst h; exact ⟨by omega, .inr (by omega)⟩
/-- What a day of an era is: right, and of the seconds that it was made of. -/
theorem six_right (e d s : Int) (d0 : 0 ≤ d) (d1 : d < 146097) (s0 : 0 ≤ s) (s1 : s < 86400) (e0 : -90 ≤ e) (e1 : e ≤ 95) :
    (sixOf e d s).d ≤ ml (sixOf e d s).y (sixOf e d s).m ∧ yd (sixOf e d s).y + cum (sixOf e d s).y ((sixOf e d s).m - 1).toNat + (sixOf e d s).d - 1 = 146097 * e + d - 719468 := by
  obtain ⟨y0, y1⟩ := yOf_bd d d0 d1
  obtain ⟨z0, z1⟩ := dd_bd d d0 d1
  have h365 := dd_365 d d0 d1
  have hm : mOf d = (5 * ddOf d + 2) / 153 := rfl
  have hdd : d = ddOf d + (365 * yOf d + yOf d / 4 - yOf d / 100) := by unfold ddOf; omega
  unfold sixOf
  generalize ddOf d = D at *
  generalize yOf d = Y at *
  generalize mOf d = M at *
  have hM : M = 0 ∨ M = 1 ∨ M = 2 ∨ M = 3 ∨ M = 4 ∨ M = 5 ∨ M = 6 ∨ M = 7 ∨ M = 8 ∨ M = 9 ∨ M = 10 ∨ M = 11 := by omega
  rcases hM with rfl | rfl | rfl | rfl | rfl | rfl | rfl | rfl | rfl | rfl | rfl | rfl
  · rw [if_neg (by omega)]
    dsimp only
    have hml : ml (400 * e + Y) ((0 : Int) + 3) = 31 := ml_at _ _ (by omega)
    have hcm : cum (400 * e + Y) (((0 : Int) + 3 - 1).toNat) = 59 + lp (400 * e + Y) := by
      obtain ⟨q0, q1, q2, q3, q4, q5, q6, q7, q8, q9, q10, q11⟩ := cums (400 * e + Y)
      exact q2
    rw [hml, hcm]
    have hE := yd_era e Y y0 y1
    constructor <;> omega
  · rw [if_neg (by omega)]
    dsimp only
    have hml : ml (400 * e + Y) ((1 : Int) + 3) = 30 := ml_30 _ _ (by omega)
    have hcm : cum (400 * e + Y) (((1 : Int) + 3 - 1).toNat) = 90 + lp (400 * e + Y) := by
      obtain ⟨q0, q1, q2, q3, q4, q5, q6, q7, q8, q9, q10, q11⟩ := cums (400 * e + Y)
      exact q3
    rw [hml, hcm]
    have hE := yd_era e Y y0 y1
    constructor <;> omega
  · rw [if_neg (by omega)]
    dsimp only
    have hml : ml (400 * e + Y) ((2 : Int) + 3) = 31 := ml_at _ _ (by omega)
    have hcm : cum (400 * e + Y) (((2 : Int) + 3 - 1).toNat) = 120 + lp (400 * e + Y) := by
      obtain ⟨q0, q1, q2, q3, q4, q5, q6, q7, q8, q9, q10, q11⟩ := cums (400 * e + Y)
      exact q4
    rw [hml, hcm]
    have hE := yd_era e Y y0 y1
    constructor <;> omega
  · rw [if_neg (by omega)]
    dsimp only
    have hml : ml (400 * e + Y) ((3 : Int) + 3) = 30 := ml_30 _ _ (by omega)
    have hcm : cum (400 * e + Y) (((3 : Int) + 3 - 1).toNat) = 151 + lp (400 * e + Y) := by
      obtain ⟨q0, q1, q2, q3, q4, q5, q6, q7, q8, q9, q10, q11⟩ := cums (400 * e + Y)
      exact q5
    rw [hml, hcm]
    have hE := yd_era e Y y0 y1
    constructor <;> omega
  · rw [if_neg (by omega)]
    dsimp only
    have hml : ml (400 * e + Y) ((4 : Int) + 3) = 31 := ml_at _ _ (by omega)
    have hcm : cum (400 * e + Y) (((4 : Int) + 3 - 1).toNat) = 181 + lp (400 * e + Y) := by
      obtain ⟨q0, q1, q2, q3, q4, q5, q6, q7, q8, q9, q10, q11⟩ := cums (400 * e + Y)
      exact q6
    rw [hml, hcm]
    have hE := yd_era e Y y0 y1
    constructor <;> omega
  · rw [if_neg (by omega)]
    dsimp only
    have hml : ml (400 * e + Y) ((5 : Int) + 3) = 31 := ml_at _ _ (by omega)
    have hcm : cum (400 * e + Y) (((5 : Int) + 3 - 1).toNat) = 212 + lp (400 * e + Y) := by
      obtain ⟨q0, q1, q2, q3, q4, q5, q6, q7, q8, q9, q10, q11⟩ := cums (400 * e + Y)
      exact q7
    rw [hml, hcm]
    have hE := yd_era e Y y0 y1
    constructor <;> omega
  · rw [if_neg (by omega)]
    dsimp only
    have hml : ml (400 * e + Y) ((6 : Int) + 3) = 30 := ml_30 _ _ (by omega)
    have hcm : cum (400 * e + Y) (((6 : Int) + 3 - 1).toNat) = 243 + lp (400 * e + Y) := by
      obtain ⟨q0, q1, q2, q3, q4, q5, q6, q7, q8, q9, q10, q11⟩ := cums (400 * e + Y)
      exact q8
    rw [hml, hcm]
    have hE := yd_era e Y y0 y1
    constructor <;> omega
  · rw [if_neg (by omega)]
    dsimp only
    have hml : ml (400 * e + Y) ((7 : Int) + 3) = 31 := ml_at _ _ (by omega)
    have hcm : cum (400 * e + Y) (((7 : Int) + 3 - 1).toNat) = 273 + lp (400 * e + Y) := by
      obtain ⟨q0, q1, q2, q3, q4, q5, q6, q7, q8, q9, q10, q11⟩ := cums (400 * e + Y)
      exact q9
    rw [hml, hcm]
    have hE := yd_era e Y y0 y1
    constructor <;> omega
  · rw [if_neg (by omega)]
    dsimp only
    have hml : ml (400 * e + Y) ((8 : Int) + 3) = 30 := ml_30 _ _ (by omega)
    have hcm : cum (400 * e + Y) (((8 : Int) + 3 - 1).toNat) = 304 + lp (400 * e + Y) := by
      obtain ⟨q0, q1, q2, q3, q4, q5, q6, q7, q8, q9, q10, q11⟩ := cums (400 * e + Y)
      exact q10
    rw [hml, hcm]
    have hE := yd_era e Y y0 y1
    constructor <;> omega
  · rw [if_neg (by omega)]
    dsimp only
    have hml : ml (400 * e + Y) ((9 : Int) + 3) = 31 := ml_at _ _ (by omega)
    have hcm : cum (400 * e + Y) (((9 : Int) + 3 - 1).toNat) = 334 + lp (400 * e + Y) := by
      obtain ⟨q0, q1, q2, q3, q4, q5, q6, q7, q8, q9, q10, q11⟩ := cums (400 * e + Y)
      exact q11
    rw [hml, hcm]
    have hE := yd_era e Y y0 y1
    constructor <;> omega
  · rw [if_pos (by omega)]
    dsimp only
    have hml : ml (400 * e + Y + 1) ((10 : Int) + 3 - 12) = 31 := ml_at _ _ (by omega)
    have hcm : cum (400 * e + Y + 1) (((10 : Int) + 3 - 12 - 1).toNat) = 0 := rfl
    rw [hml, hcm]
    have hE := yd_era1 e Y y0 y1
    constructor <;> omega
  · rw [if_pos (by omega)]
    dsimp only
    have hml : ml (400 * e + Y + 1) ((11 : Int) + 3 - 12) = 28 + lp (400 * e + Y + 1) := ml_feb _
    have hcm : cum (400 * e + Y + 1) (((11 : Int) + 3 - 12 - 1).toNat) = 31 := (cums (400 * e + Y + 1)).2.1
    rw [hml, hcm]
    have hE := yd_era1 e Y y0 y1
    have hlb := lp_bd (400 * e + Y + 1)
    have hl2 := fun h => lp_next e Y (h365 h)
    constructor
    · by_cases hD : D = 365
      · have := hl2 hD; omega
      · omega
    · omega

theorem era_bd (t : Int) (h0 : -1099511627776 ≤ t) (h1 : t ≤ 1099511627776) : -90 ≤ (t / 86400 + 719468) / 146097 ∧ (t / 86400 + 719468) / 146097 ≤ 95 := by omega
theorem day_secs (t : Int) (h0 : -1099511627776 ≤ t) (h1 : t ≤ 1099511627776) :
    rightB (dayF t).y (dayF t).m (dayF t).d (dayF t).h (dayF t).mi (dayF t).s = true ∧ secs (dayF t).y (dayF t).m (dayF t).d (dayF t).h (dayF t).mi (dayF t).s = t := by
  obtain ⟨e0, e1⟩ := era_bd t h0 h1
  obtain ⟨k1, k2⟩ := six_right ((t / 86400 + 719468) / 146097) ((t / 86400 + 719468) % 146097) (t % 86400) (by omega) (by omega) (by omega) (by omega) e0 e1
  have hb := day_bd t h0 h1
  have hy : -40000 ≤ (dayF t).y ∧ (dayF t).y ≤ 40000 := by
    obtain ⟨y0, y1⟩ := yOf_bd ((t / 86400 + 719468) % 146097) (by omega) (by omega)
    unfold dayF sixOf
    split <;> dsimp only <;> omega
  have hh : (dayF t).h * 3600 + (dayF t).mi * 60 + (dayF t).s = t % 86400 := by
    unfold dayF sixOf
    split <;> dsimp only <;> omega
  unfold secs rightB
  unfold dayF at *
  refine ⟨decide_eq_true ?_, ?_⟩
  · omega
  · omega
theorem seconds_day (t : Int) (h0 : -1099511627776 ≤ t) (h1 : t ≤ 1099511627776) : secondsF (dayF t).y (dayF t).m (dayF t).d (dayF t).h (dayF t).mi (dayF t).s = (t, 0) := by
  obtain ⟨a, b⟩ := day_secs t h0 h1
  unfold secondsF
  rw [if_pos a]
  unfold secsR
  rw [b, if_neg (by omega)]
theorem ofDos_dos (t : Int) (h0 : -1099511627776 ≤ t) (h1 : t ≤ 1099511627776) (hy : 1980 ≤ (dayF t).y) (hy1 : (dayF t).y ≤ 2107) :
    ofDosF (dosOf (dayF t)).1 (dosOf (dayF t)).2.1 = (t - (dayF t).s % 2, 0) := by
  obtain ⟨a, b⟩ := day_secs t h0 h1
  have hb := day_bd t h0 h1
  have hlow : 86400 ≤ t := by
    rcases Int.lt_or_le t 86400 with h | h
    · exfalso
      obtain ⟨y0, y1⟩ := yOf_bd ((t / 86400 + 719468) % 146097) (by omega) (by omega)
      have hd : dd_bd ((t / 86400 + 719468) % 146097) (by omega) (by omega) = dd_bd ((t / 86400 + 719468) % 146097) (by omega) (by omega) := rfl
      have hyd : yd (dayF t).y ≤ t / 86400 := by
        unfold secs at b
        have hc := cum_bd (dayF t).y ((dayF t).m - 1).toNat
        omega
      have : yd (dayF t).y ≥ 3652 := by unfold yd; omega
      omega
    · exact h
  generalize dayF t = x at *
  obtain ⟨y, m, d, h, mi, s⟩ := x
  dsimp only at *
  unfold dosOf
  rw [if_neg (by dsimp only; omega)]
  dsimp only
  unfold ofDosF
  rw [if_neg (by omega)]
  have q1 : 1980 + ((y - 1980) * 512 + m * 32 + d) / 512 = y := by omega
  have q2 : ((y - 1980) * 512 + m * 32 + d) / 32 % 16 = m := by omega
  have q3 : ((y - 1980) * 512 + m * 32 + d) % 32 = d := by omega
  have q4 : (h * 2048 + mi * 32 + s / 2) / 2048 = h := by omega
  have q5 : (h * 2048 + mi * 32 + s / 2) / 32 % 64 = mi := by omega
  have q6 : (h * 2048 + mi * 32 + s / 2) % 32 * 2 = s - s % 2 := by omega
  rw [q1, q2, q3, q4, q5, q6]
  have hr : rightB y m d h mi (s - s % 2) = true := by
    unfold rightB at *
    have := of_decide_eq_true a
    exact decide_eq_true (by omega)
  have hs : secs y m d h mi (s - s % 2) = t - s % 2 := by unfold secs at *; omega
  have hF : secondsF y m d h mi (s - s % 2) = (t - s % 2, 0) := by
    unfold secondsF
    rw [if_pos hr]
    unfold secsR
    rw [hs, if_neg (by omega)]
  rw [hF, if_pos rfl]

end Go.Proofs.YtoiffnoiliknnaaDoor.Tim
set_option linter.unusedVariables false
set_option linter.unusedSimpArgs false
namespace Go.Proofs.YtoiffnoiliknnaaDoor.Tim
open Go.RowKit Go.BigFrame Go.Proofs.YtoiffnoiliknnaaDoor.Reg Go.Proofs.YtoiffnoiliknnaaDoor.Plong Go.Proofs.YtoiffnoiliknnaaDoor.Pfloor Go.Proofs.YtoiffnoiliknnaaDoor.Pmonth Go.Proofs.YtoiffnoiliknnaaDoorW.PrintWords Go.Proofs.YtoiffnoiliknnaaDoorW.PrintLast Go.Proofs.YtoiffnoiliknnaaDoorW.PrintMore

/-! ### plain -/
theorem yd_step (y : Int) : yd y + 365 ≤ yd (y + 1) := by have := yd_next y; have := dl_bd y; omega
theorem yd_mono (a b : Int) (h : a ≤ b) : yd a ≤ yd b := by
  obtain ⟨n, rfl⟩ : ∃ n : Nat, b = a + n := ⟨(b - a).toNat, by omega⟩
  clear h
  induction n with
  | zero => simp
  | succ n ih => have := yd_step (a + n); rw [show a + ((n + 1 : Nat) : Int) = a + n + 1 by omega]; omega
theorem cum_mono (y : Int) (a b : Nat) (h : a ≤ b) : cum y a ≤ cum y b := by
  obtain ⟨n, rfl⟩ : ∃ n : Nat, b = a + n := ⟨b - a, by omega⟩
  clear h
  induction n with
  | zero => simp
  | succ n ih => have := ml_bd y (((a + n : Nat) : Int) + 1); show _ ≤ cum y (a + n) + ml y (((a + n : Nat) : Int) + 1); omega
theorem cum_12 (y : Int) : cum y 12 = dl y := by
  have h := (cums y).2.2.2.2.2.2.2.2.2.2.2
  show cum y 11 + ml y (((11 : Nat) : Int) + 1) = _
  rw [h, ml_at y _ (by omega)]
  unfold dl lp
  split <;> rfl
/-- A day: its year, its month, its day; its hour, minute, second. -/
theorem day_parts (t : Int) (h0 : -1099511627776 ≤ t) (h1 : t ≤ 1099511627776) :
    ∃ k : Nat, (dayF t).m = (k : Int) + 1 ∧ k ≤ 11 ∧ yd (dayF t).y + cum (dayF t).y k + (dayF t).d - 1 = t / 86400 ∧ 1 ≤ (dayF t).d ∧ (dayF t).d ≤ ml (dayF t).y ((k : Int) + 1) ∧ yd (dayF t).y ≤ t / 86400 ∧ t / 86400 < yd ((dayF t).y + 1) ∧ (dayF t).h = t % 86400 / 3600 ∧ (dayF t).mi = t % 86400 / 60 % 60 ∧ (dayF t).s = t % 86400 % 60 ∧ -40000 ≤ (dayF t).y ∧ (dayF t).y ≤ 40000 := by
  obtain ⟨a, b⟩ := day_secs t h0 h1
  have hh : (dayF t).h = t % 86400 / 3600 ∧ (dayF t).mi = t % 86400 / 60 % 60 ∧ (dayF t).s = t % 86400 % 60 := by
    unfold dayF sixOf
    split <;> exact ⟨rfl, rfl, rfl⟩
  generalize dayF t = x at *
  obtain ⟨y, m, d, h, mi, s⟩ := x
  dsimp only at *
  unfold rightB at a
  have a := of_decide_eq_true a
  obtain ⟨a1, a2, a3, a4, a5, a6, a7, a8, a9, a10, a11, a12⟩ := a
  obtain ⟨k, rfl⟩ : ∃ k : Nat, m = (k : Int) + 1 := ⟨(m - 1).toNat, by omega⟩
  unfold secs at b
  rw [show ((k : Int) + 1 - 1).toNat = k by omega] at b
  have c0 := (cum_bd y k).1
  have c1 := cum_mono y (k + 1) 12 (by omega)
  rw [cum_12] at c1
  have c2 : cum y (k + 1) = cum y k + ml y ((k : Int) + 1) := rfl
  have c3 := yd_next y
  refine ⟨k, rfl, by omega, by omega, a5, a6, by omega, by omega, hh.1, hh.2.1, hh.2.2, a1, a2⟩

/-! ### DayOf -/
set_option maxHeartbeats 2000000 in
theorem refDay_no (t : Int) (w : World) (h : t < -1099511627776 ∨ 1099511627776 < t) :
    Calls Tryd.prog 43 #[.int .i64 t] w fun e w' => e = .returned (.tuple #[.agg #[.int .i64 0, .int .i64 0, .int .i64 0, .int .i64 0, .int .i64 0, .int .i64 0], .int .i64 2]) ∧ Below w.heap.size w w' := by
  by_cases h1 : t < -1099511627776
  · go_enter Tryd.func43, Tryd.ntmps43
    go_wp2
    exact bodyPost_ret (v := .tuple #[.agg #[.int .i64 0, .int .i64 0, .int .i64 0, .int .i64 0, .int .i64 0, .int .i64 0], .int .i64 2]) (by simp [results, Tryd.results43, go_sem]) rfl ⟨rfl, by repeat (first | with_reducible exact Below.refl _ _ | with_reducible refine balloc ?_ _ | with_reducible refine bdrewN ?_ _ | with_reducible refine Below.setCell ?_ (by simp) _)⟩
  · have h2 : 1099511627776 < t := by omega
    go_enter Tryd.func43, Tryd.ntmps43
    go_wp2
    exact bodyPost_ret (v := .tuple #[.agg #[.int .i64 0, .int .i64 0, .int .i64 0, .int .i64 0, .int .i64 0, .int .i64 0], .int .i64 2]) (by simp [results, Tryd.results43, go_sem]) rfl ⟨rfl, by repeat (first | with_reducible exact Below.refl _ _ | with_reducible refine balloc ?_ _ | with_reducible refine bdrewN ?_ _ | with_reducible refine Below.setCell ?_ (by simp) _)⟩
set_option maxRecDepth 100000 in
set_option maxHeartbeats 8000000 in
theorem refDay_yes (t : Int) (w : World) (h0 : -1099511627776 ≤ t) (h1 : t ≤ 1099511627776) :
    Calls Tryd.prog 43 #[.int .i64 t] w fun e w' => e = .returned (.tuple #[(dayF t).val, .int .i64 0]) ∧ Below w.heap.size w w' := by
  obtain ⟨km, p1, p2, p3, p4, p5, p6, p7, p8, p9, p10, p11, p12⟩ := day_parts t h0 h1
  have hX : Hid ((dayF t).val = .agg #[.int .i64 (dayF t).y, .int .i64 ((km : Int) + 1), .int .i64 (dayF t).d, .int .i64 (t % 86400 / 3600), .int .i64 (t % 86400 / 60 % 60), .int .i64 (t % 86400 % 60)]) := Lib.hid (by unfold Six.val; rw [p1, p8, p9, p10])
  generalize dayF t = X at *
  generalize hY : X.y = Y at *
  generalize hDD : X.d = DD at *
  clear p1 p8 p9 p10 hY hDD
  obtain ⟨D, hD⟩ : ∃ D, D = t / 86400 := ⟨_, rfl⟩
  obtain ⟨S, hS⟩ : ∃ S, S = t % 86400 := ⟨_, rfl⟩
  have b0 : -12725831 ≤ D := by omega
  have b1 : D ≤ 12725831 := by omega
  have s0 : 0 ≤ S := by omega
  have s1 : S < 86400 := by omega
  rw [← hD] at p3 p6 p7
  rw [← hS] at hX
  have P3 := Lib.hid p3
  have P6 := Lib.hid p6
  have P7 := Lib.hid p7
  clear p3 p6 p7
  have hcase : (0 ≤ t ∧ t / 86400 = D ∧ t % 86400 = S) ∨ (t < 0 ∧ t.tdiv 86400 = D ∧ t.tmod 86400 = S) ∨ (∃ E R, t < 0 ∧ t.tdiv 86400 = E ∧ t.tmod 86400 = R ∧ R < 0 ∧ -86400 ≤ R ∧ R + 86400 = S ∧ E - 1 = D ∧ -20000000 ≤ E ∧ E ≤ 20000000) := by
    by_cases ht : 0 ≤ t
    · exact .inl ⟨ht, hD.symm, hS.symm⟩
    · have q1 : t.tmod 86400 = t - 86400 * t.tdiv 86400 := by have := Int.tmod_def t 86400; omega
      have q2 : t.tdiv 86400 = -((-t) / 86400) := by
        rw [show t = -(-t) by omega, Int.neg_tdiv, Int.tdiv_eq_ediv_of_nonneg (by omega)]; simp
      by_cases hr : t % 86400 = 0
      · exact .inr (.inl ⟨by omega, by omega, by omega⟩)
      · exact .inr (.inr ⟨_, _, by omega, rfl, rfl, by omega, by omega, by omega, by omega, by omega, by omega⟩)
  clear hD hS
  have HT := Lib.hid (show t = t from rfl)
  rcases hcase with ⟨g1, g2, g3⟩ | ⟨g1, g2, g3⟩ | ⟨E, R, g1, g2, g3, g4, g4', g5, g6, g7, g8⟩
  all_goals
    go_enter Tryd.func43, Tryd.ntmps43
    go_wp2
    first | clear g1 g2 g3 g4 g4' g5 g6 g7 g8 | clear g1 g2 g3
    go_loop [4, 6] (fun a b => ∃ d z : Int, a = .int .i64 d ∧ b = .int .i64 z ∧ Hid (d + yd z = D) ∧ -200000000 ≤ d ∧ d ≤ 200000000 ∧ -1000000 ≤ z ∧ z ≤ 1000000) (fun a _ => (-(intOf a)).toNat)
    case atStart => exact ⟨D, 1970, rfl, rfl, Lib.hid (by rw [yd_1970]; omega), by omega, by omega, by omega, by omega⟩
    case round =>
      obtain ⟨d, z, rfl, rfl, hd, d0, d1, z0, z1⟩ := hrel
      by_cases hlt : d < 0
      · have hz : Hid (-1000000 ≤ z - 400) := Lib.hid (by have := hd.out; unfold yd at this; omega)
        go_wp2
        go_round
        case rel => exact ⟨d + 146097, z - 400, rfl, rfl, Lib.hid (by have := hd.out; have := yd_400 (z - 400); rw [show z - 400 + 400 = z by omega] at this; omega), by omega, by omega, hz.out, by omega⟩
        case measure => simp [intOf]; omega
      · have dp : 0 ≤ d := by omega
        clear hlt
        go_wp2
        go_loop [4, 6] (fun a b => ∃ d z : Int, a = .int .i64 d ∧ b = .int .i64 z ∧ Hid (d + yd z = D) ∧ 0 ≤ d ∧ d ≤ 200000000 ∧ -1000000 ≤ z ∧ z ≤ 1000000) (fun a _ => (intOf a).toNat)
        case atStart => exact ⟨d, z, rfl, rfl, hd, dp, d1, z0, z1⟩
        case round =>
          clear hd d0 d1 dp z0 z1
          obtain ⟨d2, z2, rfl, rfl, hd, d0, d1, z0, z1⟩ := hrel
          by_cases hlt : 146097 ≤ d2
          · have hz : Hid (z2 + 400 ≤ 1000000) := Lib.hid (by have := hd.out; unfold yd at this; omega)
            go_wp2
            go_round
            case rel => exact ⟨d2 - 146097, z2 + 400, rfl, rfl, Lib.hid (by have := hd.out; have := yd_400 z2; omega), by omega, by omega, by omega, hz.out⟩
            case measure => simp [intOf]; omega
          · have hge : d2 < 146097 := by omega
            clear hlt
            have hzy : Hid (z2 ≤ Y) := Lib.hid (by
              rcases Int.lt_or_le Y z2 with h | h
              · have := yd_mono (Y + 1) z2 (by omega); have := hd.out; have := P7.out; omega
              · exact h)
            go_wp2
            go_loopw [4, 6] (fun a b wr => ∃ d z : Int, a = .int .i64 d ∧ b = .int .i64 z ∧ Hid (d + yd z = D) ∧ 0 ≤ d ∧ d ≤ 200000000 ∧ -1000000 ≤ z ∧ z ≤ 1000000 ∧ Hid (z ≤ Y) ∧ ∃ nn, wr = ((w.alloc (.cells #[.int .i64 0, .int .i64 0, .int .i64 0, .int .i64 0, .int .i64 0, .int .i64 0] 65)).drewN nn)) (fun _ b _ => (Y - intOf b).toNat)
            case atStart => exact ⟨d2, z2, rfl, rfl, hd, d0, d1, z0, z1, hzy, 0, rfl⟩
            case round =>
              clear hd d0 d1 hge z0 z1 hzy
              obtain ⟨d3, z3, rfl, rfl, hd, d0, d1, z0, z1, hzy, nn, rfl⟩ := hrel
              have hdl := dl_bd z3
              have hnx := Lib.hid (yd_next z3)
              by_cases hlt : dl z3 ≤ d3
              · have hz : Hid (z3 + 1 ≤ Y) := Lib.hid (by
                  rcases Int.lt_or_le z3 Y with h | h
                  · omega
                  · have := yd_mono (Y + 1) (z3 + 1) (by omega); have := hd.out; have := P7.out; have := hnx.out; omega)
                have hz1 : Hid (z3 + 1 ≤ 1000000) := Lib.hid (by have := hz.out; omega)
                go_wp2_with (go_at_call 57; refine (days_any _ _).mono ?_; rintro e w3 ⟨rfl, ⟨nd, rfl⟩⟩)
                go_roundw
                case rel => exact ⟨d3 - dl z3, z3 + 1, rfl, rfl, Lib.hid (by have := hd.out; have := hnx.out; omega), by omega, by omega, by omega, hz1.out, hz, _, rfl⟩
                case measure => simp [intOf]; have := hz.out; omega
              · have hge : d3 < dl z3 := by omega
                clear hlt
                have hzE : Hid (z3 = Y) := Lib.hid (by
                  rcases Int.lt_or_le z3 Y with h | h
                  · have := yd_mono (z3 + 1) Y (by omega); have := hd.out; have := P6.out; have := hnx.out; omega
                  · have := hzy.out; omega)
                go_wp2_with (go_at_call 57; refine (days_any _ _).mono ?_; rintro e w3 ⟨rfl, ⟨nd, rfl⟩⟩)
                go_loopw [4, 7] (fun a b wr => ∃ (d : Int) (k : Nat), a = .int .i64 d ∧ b = .int .i64 ((k : Int) + 1) ∧ k ≤ km ∧ Hid (d + yd Y + cum Y k = D) ∧ 0 ≤ d ∧ d ≤ 200000000 ∧ ∃ nn, wr = ((w.alloc (.cells #[.int .i64 0, .int .i64 0, .int .i64 0, .int .i64 0, .int .i64 0, .int .i64 0] 65)).drewN nn)) (fun _ b _ => (km + 2 - intOf b).toNat)
                case atStart => exact ⟨d3, 0, rfl, rfl, by omega, Lib.hid (by have := hd.out; rw [hzE.out] at this; simp [cum]; omega), by omega, by omega, _, rfl⟩
                case round =>
                  obtain ⟨d4, k, rfl, rfl, hk, hd4, e0, e1, nn2, rfl⟩ := hrel
                  have hml := ml_bd Y ((k : Int) + 1)
                  rw [← hzE.out] at hml
                  have hcs := Lib.hid (show cum Y (k + 1) = cum Y k + ml z3 ((k : Int) + 1) by rw [hzE.out]; rfl)
                  by_cases hlt : ml z3 ((k : Int) + 1) ≤ d4
                  · have hkm : Hid (k + 1 ≤ km) := Lib.hid (by
                      rcases Nat.lt_or_ge k km with h | h
                      · omega
                      · obtain rfl : k = km := by omega
                        have := P3.out; have := hd4.out; rw [hzE.out] at hlt; omega)
                    go_wp2_with (go_at_call 58; refine (month_any _ _ _).mono ?_; rintro e w3 ⟨rfl, ⟨nd, rfl⟩⟩)
                    go_roundw
                    case rel => exact ⟨d4 - ml z3 ((k : Int) + 1), k + 1, rfl, by go_num, hkm.out, Lib.hid (by have := hd4.out; have := hcs.out; omega), by omega, by omega, _, rfl⟩
                    case measure => simp [intOf]; have := hkm.out; omega
                  · have hlt' : d4 < ml z3 ((k : Int) + 1) := by omega
                    have hkm : Hid (k = km) := Lib.hid (by
                      rcases Nat.lt_or_ge k km with h | h
                      · have := cum_mono Y (k + 1) km (by omega); have := P3.out; have := hd4.out; have := hcs.out; omega
                      · omega)
                    clear hlt
                    go_wp2_with (go_at_call 58; refine (month_any _ _ _).mono ?_; rintro e w3 ⟨rfl, ⟨nd, rfl⟩⟩)
                    refine bodyPost_ret (v := .tuple #[.agg #[.int .i64 z3, .int .i64 ((k : Int) + 1), .int .i64 (d4 + 1), .int .i64 (S / 3600), .int .i64 (S / 60 % 60), .int .i64 (S % 60)], .int .i64 0]) (by simp [results, Tryd.results43, go_sem]) rfl ⟨?_, ?_⟩
                    · rw [hX.out, hzE.out, hkm.out]
                      have h1 := P3.out
                      have h2 := hd4.out
                      rw [hkm.out] at h2
                      rw [show DD = d4 + 1 by omega]
                    · repeat (first | with_reducible exact Below.refl _ _ | with_reducible refine balloc ?_ _ | with_reducible refine bdrewN ?_ _ | with_reducible refine Below.setCell ?_ (by simp) _)
/-! ### Dos -/
theorem refDos_no (t : Int) (w : World) (h : t < -1099511627776 ∨ 1099511627776 < t) :
    Calls Tryd.prog 21 #[.int .i64 t] w fun e w' => e = .returned (.tuple #[.int .i64 0, .int .i64 0, .int .i64 2]) ∧ Below w.heap.size w w' := by
  have hc0 : ∀ w, Calls Tryd.prog 43 #[.int .i64 t] w fun e w' => e = .returned (.tuple #[.agg #[.int .i64 0, .int .i64 0, .int .i64 0, .int .i64 0, .int .i64 0, .int .i64 0], .int .i64 2]) ∧ Below w.heap.size w w' := fun w => refDay_no t w h
  have H := Lib.hid hc0; clear hc0
  go_enter Tryd.func21, Tryd.ntmps21
  go_wp2_with (go_at_call 43; refine (H.out _).mono ?_; rintro e w1 ⟨rfl, hb1⟩)
  go_ret3
  exact ⟨rfl, balloc hb1 _⟩
set_option maxRecDepth 100000 in
set_option maxHeartbeats 4000000 in
theorem refDos_yes (t : Int) (w : World) (h0 : -1099511627776 ≤ t) (h1 : t ≤ 1099511627776) :
    Calls Tryd.prog 21 #[.int .i64 t] w fun e w' => e = .returned (.tuple #[.int .i64 (dosOf (dayF t)).1, .int .i64 (dosOf (dayF t)).2.1, .int .i64 (dosOf (dayF t)).2.2]) ∧ Below w.heap.size w w' := by
  have hc0 : ∀ w, Calls Tryd.prog 43 #[.int .i64 t] w fun e w' => e = .returned (.tuple #[(dayF t).val, .int .i64 0]) ∧ Below w.heap.size w w' := fun w => refDay_yes t w h0 h1
  have hbd := day_bd t h0 h1
  generalize dayF t = x at *
  obtain ⟨y, m, d, h, mi, s⟩ := x
  unfold Six.val at hc0
  dsimp only at hc0 hbd
  obtain ⟨y0, y1, m0, m1, d0, d1, hh0, hh1, i0, i1, s0, s1⟩ := hbd
  have H := Lib.hid hc0; clear hc0
  by_cases r1 : y < 1980
  · have hd : Hid (dosOf ⟨y, m, d, h, mi, s⟩ = (0, 0, 22)) := Lib.hid (by unfold dosOf; rw [if_pos (.inl r1)])
    go_enter Tryd.func21, Tryd.ntmps21
    go_wp2_with (go_at_call 43; refine (H.out _).mono ?_; rintro e w1 ⟨rfl, hb1⟩)
    go_ret3
    exact ⟨by rw [hd.out]; rfl, balloc hb1 _⟩
  by_cases r2 : 2107 < y
  · have hd : Hid (dosOf ⟨y, m, d, h, mi, s⟩ = (0, 0, 22)) := Lib.hid (by unfold dosOf; rw [if_pos (.inr r2)])
    go_enter Tryd.func21, Tryd.ntmps21
    go_wp2_with (go_at_call 43; refine (H.out _).mono ?_; rintro e w1 ⟨rfl, hb1⟩)
    go_ret3
    exact ⟨by rw [hd.out]; rfl, balloc hb1 _⟩
  have hd : Hid (dosOf ⟨y, m, d, h, mi, s⟩ = ((y - 1980) * 512 + m * 32 + d, h * 2048 + mi * 32 + s / 2, 0)) := Lib.hid (by unfold dosOf; rw [if_neg (by dsimp only; omega)])
  go_enter Tryd.func21, Tryd.ntmps21
  go_wp2_with (go_at_call 43; refine (H.out _).mono ?_; rintro e w1 ⟨rfl, hb1⟩)
  go_quiet (fail)
  go_wp2
  go_ret3
  exact ⟨by rw [hd.out]; rfl, bdrewN (balloc hb1 _) _⟩
theorem refDos_calls (t : Int) (w : World) :
    Calls Tryd.prog 21 #[.int .i64 t] w fun e w' => e = .returned (.tuple #[.int .i64 (dosF t).1, .int .i64 (dosF t).2.1, .int .i64 (dosF t).2.2]) ∧ Below w.heap.size w w' := by
  unfold dosF
  by_cases h : t < -1099511627776 ∨ 1099511627776 < t
  · rw [if_pos h]; exact refDos_no t w h
  · rw [if_neg h]; exact refDos_yes t w (by omega) (by omega)
end Go.Proofs.YtoiffnoiliknnaaDoor.Tim
