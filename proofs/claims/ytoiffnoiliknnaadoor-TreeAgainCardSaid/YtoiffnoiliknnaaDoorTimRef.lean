/- The walks of hamperref18.Seconds and OfDos. -/
import Derived.Test.YtoiffnoiliknnaaDoorTimSec
set_option linter.unusedVariables false
namespace Go.Proofs.YtoiffnoiliknnaaDoor.Tim
open Go.RowKit Go.BigFrame Go.Proofs.YtoiffnoiliknnaaDoor.Reg Go.Proofs.YtoiffnoiliknnaaDoor.Plong Go.Proofs.YtoiffnoiliknnaaDoor.Pfloor Go.Proofs.YtoiffnoiliknnaaDoor.Pmonth Go.Proofs.YtoiffnoiliknnaaDoorW.PrintWords Go.Proofs.YtoiffnoiliknnaaDoorW.PrintLast Go.Proofs.YtoiffnoiliknnaaDoorW.PrintMore

theorem leap_f (y : Int) : hamperref18_leap.f y = some (leapB y) := by
  unfold hamperref18_leap.f leapB
  simp only [tmod4, tmod100]
  have : (Int.tmod y 400 == 0) = decide (y % 400 = 0) := by
    rw [Bool.eq_iff_iff, beq_iff_eq, decide_eq_true_eq]; exact tmod400 y
  rw [this]
  by_cases h4 : y % 4 = 0
  · rw [if_pos h4]
    by_cases h100 : y % 100 = 0
    · rw [if_pos h100]; simp [h4, h100]
    · rw [if_neg h100]; simp [h4, h100]
  · rw [if_neg h4]; simp [h4]
def dl (y : Int) : Int := if leapB y then 366 else 365
theorem dl_bd (y : Int) : 365 ≤ dl y ∧ dl y ≤ 366 := by unfold dl; split <;> omega
theorem days_f (y : Int) : hamperref18_days.f y = some (dl y) := by
  unfold hamperref18_days.f dl
  rw [leap_f]
  simp only [Option.bind_some]
  split <;> rfl
theorem month_f (y m : Int) : hamperref18_month.f y m = some (ml y m) := by
  unfold hamperref18_month.f ml
  by_cases h2 : m = 2
  · rw [if_pos h2, if_pos h2, days_f]
    simp only [Option.bind_some, Option.some.injEq]
    unfold dl
    have a : wrap64 (366 - 337) = 29 := by unfold wrap64; omega
    have b : wrap64 (365 - 337) = 28 := by unfold wrap64; omega
    split <;> assumption
  · rw [if_neg h2, if_neg h2]
    by_cases h4 : m = 4
    · rw [if_pos h4, if_pos (.inl h4)]
    rw [if_neg h4]
    by_cases h6 : m = 6
    · rw [if_pos h6, if_pos (by omega)]
    rw [if_neg h6]
    by_cases h9 : m = 9
    · rw [if_pos h9, if_pos (by omega)]
    rw [if_neg h9]
    by_cases h11 : m = 11
    · rw [if_pos h11, if_pos (by omega)]
    rw [if_neg h11, if_neg (by omega)]
theorem month_any (y m : Int) (w : World) : Calls Tryd.prog 58 #[.int .i64 y, .int .i64 m] w fun e w' => e = .returned (.int .i64 (ml y m)) ∧ Drawn0 w w' :=
  hamperref18_month.calls y m _ w (month_f y m)
theorem days_any (y : Int) (w : World) : Calls Tryd.prog 57 #[.int .i64 y] w fun e w' => e = .returned (.int .i64 (dl y)) ∧ Drawn0 w w' :=
  hamperref18_days.calls y _ w (days_f y)
theorem quiet_drawn {P : Program} {f : FuncId} {args : Array Value} {w : World} {n : Nat} {v : Value}
    (h : Calls P f args (w.drewN n) fun e w' => e = .returned v ∧ Drawn0 (w.drewN n) w') : Calls P f args (w.drewN n) fun e w'' => e = .returned v ∧ ∃ m, w'' = w.drewN m :=
  h.mono fun _ _ ⟨he, ⟨m, hm⟩⟩ => ⟨he, n + m, by rw [hm, World.drewN_drewN]⟩

/-! ### the days, year by year -/
theorem yd_next (y : Int) : yd (y + 1) = yd y + dl y := by
  unfold yd dl leapB
  have e : y + 1 - 1 = y := by omega
  rw [e]
  by_cases h4 : y % 4 = 0
  · by_cases h100 : y % 100 = 0
    · by_cases h400 : y % 400 = 0
      · rw [if_pos (by simp [h4, h400])]; omega
      · rw [if_neg (by simp [h4, h100, h400])]; omega
    · rw [if_pos (by simp [h4, h100])]; omega
  · rw [if_neg (by simp [h4])]; omega
theorem yd_400 (y : Int) : yd (y + 400) = yd y + 146097 := by unfold yd; omega
theorem yd_1970 : yd 1970 = 0 := by unfold yd; omega
theorem ml_400 (y m : Int) : ml (y + 400) m = ml y m := by
  have : leapB (y + 400) = leapB y := by
    unfold leapB
    rw [show (y + 400) % 4 = y % 4 by omega, show (y + 400) % 100 = y % 100 by omega, show (y + 400) % 400 = y % 400 by omega]
  unfold ml; rw [this]
def cumF (f : Int → Int) : Nat → Int
  | 0 => 0
  | k + 1 => cumF f k + f (k + 1)

set_option maxRecDepth 100000 in
set_option maxHeartbeats 4000000 in
theorem refsec_0 (y m d h mi s : Int) (w : World)  (a1 : y < -40000) :
    Calls Tryd.prog 44 #[.agg #[.int .i64 y, .int .i64 m, .int .i64 d, .int .i64 h, .int .i64 mi, .int .i64 s]] w fun e w' => e = .returned (.tuple #[.int .i64 0, .int .i64 2]) ∧ Below w.heap.size w w' := by
  go_enter Tryd.func44, Tryd.ntmps44
  go_wp2
  go_quiet ((go_at_call 58; exact quiet_drawn (month_any _ _ _)))
  go_wp2
  go_ret2
  exact ⟨rfl, bdrewN (balloc (Below.refl _ _) _) _⟩

set_option maxRecDepth 100000 in
set_option maxHeartbeats 4000000 in
theorem refsec_1 (y m d h mi s : Int) (w : World) (a1 : decide (y < -40000) = false) (a2 : 40000 < y) :
    Calls Tryd.prog 44 #[.agg #[.int .i64 y, .int .i64 m, .int .i64 d, .int .i64 h, .int .i64 mi, .int .i64 s]] w fun e w' => e = .returned (.tuple #[.int .i64 0, .int .i64 2]) ∧ Below w.heap.size w w' := by
  go_enter Tryd.func44, Tryd.ntmps44
  go_wp2
  go_quiet ((go_at_call 58; exact quiet_drawn (month_any _ _ _)))
  go_wp2
  go_ret2
  exact ⟨rfl, bdrewN (balloc (Below.refl _ _) _) _⟩

set_option maxRecDepth 100000 in
set_option maxHeartbeats 4000000 in
theorem refsec_2 (y m d h mi s : Int) (w : World) (a1 : decide (y < -40000) = false) (a2 : decide (40000 < y) = false) (a3 : m < 1) :
    Calls Tryd.prog 44 #[.agg #[.int .i64 y, .int .i64 m, .int .i64 d, .int .i64 h, .int .i64 mi, .int .i64 s]] w fun e w' => e = .returned (.tuple #[.int .i64 0, .int .i64 2]) ∧ Below w.heap.size w w' := by
  go_enter Tryd.func44, Tryd.ntmps44
  go_wp2
  go_quiet ((go_at_call 58; exact quiet_drawn (month_any _ _ _)))
  go_wp2
  go_ret2
  exact ⟨rfl, bdrewN (balloc (Below.refl _ _) _) _⟩

set_option maxRecDepth 100000 in
set_option maxHeartbeats 4000000 in
theorem refsec_3 (y m d h mi s : Int) (w : World) (a1 : decide (y < -40000) = false) (a2 : decide (40000 < y) = false) (a3 : decide (m < 1) = false) (a4 : 12 < m) :
    Calls Tryd.prog 44 #[.agg #[.int .i64 y, .int .i64 m, .int .i64 d, .int .i64 h, .int .i64 mi, .int .i64 s]] w fun e w' => e = .returned (.tuple #[.int .i64 0, .int .i64 2]) ∧ Below w.heap.size w w' := by
  go_enter Tryd.func44, Tryd.ntmps44
  go_wp2
  go_quiet ((go_at_call 58; exact quiet_drawn (month_any _ _ _)))
  go_wp2
  go_ret2
  exact ⟨rfl, bdrewN (balloc (Below.refl _ _) _) _⟩

set_option maxRecDepth 100000 in
set_option maxHeartbeats 4000000 in
theorem refsec_4 (y m d h mi s : Int) (w : World) (a1 : decide (y < -40000) = false) (a2 : decide (40000 < y) = false) (a3 : decide (m < 1) = false) (a4 : decide (12 < m) = false) (a5 : d < 1) :
    Calls Tryd.prog 44 #[.agg #[.int .i64 y, .int .i64 m, .int .i64 d, .int .i64 h, .int .i64 mi, .int .i64 s]] w fun e w' => e = .returned (.tuple #[.int .i64 0, .int .i64 2]) ∧ Below w.heap.size w w' := by
  go_enter Tryd.func44, Tryd.ntmps44
  go_wp2
  go_quiet ((go_at_call 58; exact quiet_drawn (month_any _ _ _)))
  go_wp2
  go_ret2
  exact ⟨rfl, bdrewN (balloc (Below.refl _ _) _) _⟩

set_option maxRecDepth 100000 in
set_option maxHeartbeats 4000000 in
theorem refsec_5 (y m d h mi s : Int) (w : World) (a1 : decide (y < -40000) = false) (a2 : decide (40000 < y) = false) (a3 : decide (m < 1) = false) (a4 : decide (12 < m) = false) (a5 : decide (d < 1) = false) (a6 : ml y m < d) :
    Calls Tryd.prog 44 #[.agg #[.int .i64 y, .int .i64 m, .int .i64 d, .int .i64 h, .int .i64 mi, .int .i64 s]] w fun e w' => e = .returned (.tuple #[.int .i64 0, .int .i64 2]) ∧ Below w.heap.size w w' := by
  go_enter Tryd.func44, Tryd.ntmps44
  go_wp2
  go_quiet ((go_at_call 58; exact quiet_drawn (month_any _ _ _)))
  go_wp2
  go_ret2
  exact ⟨rfl, bdrewN (balloc (Below.refl _ _) _) _⟩

set_option maxRecDepth 100000 in
set_option maxHeartbeats 4000000 in
theorem refsec_6 (y m d h mi s : Int) (w : World) (a1 : decide (y < -40000) = false) (a2 : decide (40000 < y) = false) (a3 : decide (m < 1) = false) (a4 : decide (12 < m) = false) (a5 : decide (d < 1) = false) (a6 : decide (ml y m < d) = false) (a7 : h < 0) :
    Calls Tryd.prog 44 #[.agg #[.int .i64 y, .int .i64 m, .int .i64 d, .int .i64 h, .int .i64 mi, .int .i64 s]] w fun e w' => e = .returned (.tuple #[.int .i64 0, .int .i64 2]) ∧ Below w.heap.size w w' := by
  go_enter Tryd.func44, Tryd.ntmps44
  go_wp2
  go_quiet ((go_at_call 58; exact quiet_drawn (month_any _ _ _)))
  go_wp2
  go_ret2
  exact ⟨rfl, bdrewN (balloc (Below.refl _ _) _) _⟩

set_option maxRecDepth 100000 in
set_option maxHeartbeats 4000000 in
theorem refsec_7 (y m d h mi s : Int) (w : World) (a1 : decide (y < -40000) = false) (a2 : decide (40000 < y) = false) (a3 : decide (m < 1) = false) (a4 : decide (12 < m) = false) (a5 : decide (d < 1) = false) (a6 : decide (ml y m < d) = false) (a7 : decide (h < 0) = false) (a8 : 23 < h) :
    Calls Tryd.prog 44 #[.agg #[.int .i64 y, .int .i64 m, .int .i64 d, .int .i64 h, .int .i64 mi, .int .i64 s]] w fun e w' => e = .returned (.tuple #[.int .i64 0, .int .i64 2]) ∧ Below w.heap.size w w' := by
  go_enter Tryd.func44, Tryd.ntmps44
  go_wp2
  go_quiet ((go_at_call 58; exact quiet_drawn (month_any _ _ _)))
  go_wp2
  go_ret2
  exact ⟨rfl, bdrewN (balloc (Below.refl _ _) _) _⟩

set_option maxRecDepth 100000 in
set_option maxHeartbeats 4000000 in
theorem refsec_8 (y m d h mi s : Int) (w : World) (a1 : decide (y < -40000) = false) (a2 : decide (40000 < y) = false) (a3 : decide (m < 1) = false) (a4 : decide (12 < m) = false) (a5 : decide (d < 1) = false) (a6 : decide (ml y m < d) = false) (a7 : decide (h < 0) = false) (a8 : decide (23 < h) = false) (a9 : mi < 0) :
    Calls Tryd.prog 44 #[.agg #[.int .i64 y, .int .i64 m, .int .i64 d, .int .i64 h, .int .i64 mi, .int .i64 s]] w fun e w' => e = .returned (.tuple #[.int .i64 0, .int .i64 2]) ∧ Below w.heap.size w w' := by
  go_enter Tryd.func44, Tryd.ntmps44
  go_wp2
  go_quiet ((go_at_call 58; exact quiet_drawn (month_any _ _ _)))
  go_wp2
  go_ret2
  exact ⟨rfl, bdrewN (balloc (Below.refl _ _) _) _⟩

set_option maxRecDepth 100000 in
set_option maxHeartbeats 4000000 in
theorem refsec_9 (y m d h mi s : Int) (w : World) (a1 : decide (y < -40000) = false) (a2 : decide (40000 < y) = false) (a3 : decide (m < 1) = false) (a4 : decide (12 < m) = false) (a5 : decide (d < 1) = false) (a6 : decide (ml y m < d) = false) (a7 : decide (h < 0) = false) (a8 : decide (23 < h) = false) (a9 : decide (mi < 0) = false) (a10 : 59 < mi) :
    Calls Tryd.prog 44 #[.agg #[.int .i64 y, .int .i64 m, .int .i64 d, .int .i64 h, .int .i64 mi, .int .i64 s]] w fun e w' => e = .returned (.tuple #[.int .i64 0, .int .i64 2]) ∧ Below w.heap.size w w' := by
  go_enter Tryd.func44, Tryd.ntmps44
  go_wp2
  go_quiet ((go_at_call 58; exact quiet_drawn (month_any _ _ _)))
  go_wp2
  go_ret2
  exact ⟨rfl, bdrewN (balloc (Below.refl _ _) _) _⟩

set_option maxRecDepth 100000 in
set_option maxHeartbeats 4000000 in
theorem refsec_10 (y m d h mi s : Int) (w : World) (a1 : decide (y < -40000) = false) (a2 : decide (40000 < y) = false) (a3 : decide (m < 1) = false) (a4 : decide (12 < m) = false) (a5 : decide (d < 1) = false) (a6 : decide (ml y m < d) = false) (a7 : decide (h < 0) = false) (a8 : decide (23 < h) = false) (a9 : decide (mi < 0) = false) (a10 : decide (59 < mi) = false) (a11 : s < 0) :
    Calls Tryd.prog 44 #[.agg #[.int .i64 y, .int .i64 m, .int .i64 d, .int .i64 h, .int .i64 mi, .int .i64 s]] w fun e w' => e = .returned (.tuple #[.int .i64 0, .int .i64 2]) ∧ Below w.heap.size w w' := by
  go_enter Tryd.func44, Tryd.ntmps44
  go_wp2
  go_quiet ((go_at_call 58; exact quiet_drawn (month_any _ _ _)))
  go_wp2
  go_ret2
  exact ⟨rfl, bdrewN (balloc (Below.refl _ _) _) _⟩

set_option maxRecDepth 100000 in
set_option maxHeartbeats 4000000 in
theorem refsec_11 (y m d h mi s : Int) (w : World) (a1 : decide (y < -40000) = false) (a2 : decide (40000 < y) = false) (a3 : decide (m < 1) = false) (a4 : decide (12 < m) = false) (a5 : decide (d < 1) = false) (a6 : decide (ml y m < d) = false) (a7 : decide (h < 0) = false) (a8 : decide (23 < h) = false) (a9 : decide (mi < 0) = false) (a10 : decide (59 < mi) = false) (a11 : decide (s < 0) = false) (a12 : 59 < s) :
    Calls Tryd.prog 44 #[.agg #[.int .i64 y, .int .i64 m, .int .i64 d, .int .i64 h, .int .i64 mi, .int .i64 s]] w fun e w' => e = .returned (.tuple #[.int .i64 0, .int .i64 2]) ∧ Below w.heap.size w w' := by
  go_enter Tryd.func44, Tryd.ntmps44
  go_wp2
  go_quiet ((go_at_call 58; exact quiet_drawn (month_any _ _ _)))
  go_wp2
  go_ret2
  exact ⟨rfl, bdrewN (balloc (Below.refl _ _) _) _⟩

theorem refsec_no (y m d h mi s : Int) (w : World) (hr : rightB y m d h mi s = false) :
    Calls Tryd.prog 44 #[.agg #[.int .i64 y, .int .i64 m, .int .i64 d, .int .i64 h, .int .i64 mi, .int .i64 s]] w fun e w' => e = .returned (.tuple #[.int .i64 0, .int .i64 2]) ∧ Below w.heap.size w w' := by
  by_cases a1 : y < -40000
  case pos => exact refsec_0 y m d h mi s w  a1
  by_cases a2 : 40000 < y
  case pos => exact refsec_1 y m d h mi s w (decide_eq_false a1) a2
  by_cases a3 : m < 1
  case pos => exact refsec_2 y m d h mi s w (decide_eq_false a1) (decide_eq_false a2) a3
  by_cases a4 : 12 < m
  case pos => exact refsec_3 y m d h mi s w (decide_eq_false a1) (decide_eq_false a2) (decide_eq_false a3) a4
  by_cases a5 : d < 1
  case pos => exact refsec_4 y m d h mi s w (decide_eq_false a1) (decide_eq_false a2) (decide_eq_false a3) (decide_eq_false a4) a5
  by_cases a6 : ml y m < d
  case pos => exact refsec_5 y m d h mi s w (decide_eq_false a1) (decide_eq_false a2) (decide_eq_false a3) (decide_eq_false a4) (decide_eq_false a5) a6
  by_cases a7 : h < 0
  case pos => exact refsec_6 y m d h mi s w (decide_eq_false a1) (decide_eq_false a2) (decide_eq_false a3) (decide_eq_false a4) (decide_eq_false a5) (decide_eq_false a6) a7
  by_cases a8 : 23 < h
  case pos => exact refsec_7 y m d h mi s w (decide_eq_false a1) (decide_eq_false a2) (decide_eq_false a3) (decide_eq_false a4) (decide_eq_false a5) (decide_eq_false a6) (decide_eq_false a7) a8
  by_cases a9 : mi < 0
  case pos => exact refsec_8 y m d h mi s w (decide_eq_false a1) (decide_eq_false a2) (decide_eq_false a3) (decide_eq_false a4) (decide_eq_false a5) (decide_eq_false a6) (decide_eq_false a7) (decide_eq_false a8) a9
  by_cases a10 : 59 < mi
  case pos => exact refsec_9 y m d h mi s w (decide_eq_false a1) (decide_eq_false a2) (decide_eq_false a3) (decide_eq_false a4) (decide_eq_false a5) (decide_eq_false a6) (decide_eq_false a7) (decide_eq_false a8) (decide_eq_false a9) a10
  by_cases a11 : s < 0
  case pos => exact refsec_10 y m d h mi s w (decide_eq_false a1) (decide_eq_false a2) (decide_eq_false a3) (decide_eq_false a4) (decide_eq_false a5) (decide_eq_false a6) (decide_eq_false a7) (decide_eq_false a8) (decide_eq_false a9) (decide_eq_false a10) a11
  by_cases a12 : 59 < s
  case pos => exact refsec_11 y m d h mi s w (decide_eq_false a1) (decide_eq_false a2) (decide_eq_false a3) (decide_eq_false a4) (decide_eq_false a5) (decide_eq_false a6) (decide_eq_false a7) (decide_eq_false a8) (decide_eq_false a9) (decide_eq_false a10) (decide_eq_false a11) a12
  exfalso
  unfold rightB at hr
  have := of_decide_eq_false hr
  omega
end Go.Proofs.YtoiffnoiliknnaaDoor.Tim
