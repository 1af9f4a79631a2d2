/- The law hamperlaw18.TreeTimes: its numbers and its walk. -/
import Derived.Test.YtoiffnoiliknnaaDoorTimDay
import Derived.Test.YtoiffnoiliknnaaDoorTimRef2
set_option linter.unusedVariables false
namespace Go.Proofs.YtoiffnoiliknnaaDoor.Tim
open Go.RowKit Go.BigFrame Go.Proofs.YtoiffnoiliknnaaDoor.Reg Go.Proofs.YtoiffnoiliknnaaDoor.Plong Go.Proofs.YtoiffnoiliknnaaDoor.Pfloor Go.Proofs.YtoiffnoiliknnaaDoor.Pmonth Go.Proofs.YtoiffnoiliknnaaDoorW.PrintWords Go.Proofs.YtoiffnoiliknnaaDoorW.PrintLast Go.Proofs.YtoiffnoiliknnaaDoorW.PrintMore

/-! ### numbers -/
theorem dd_365 (d : Int) (h0 : 0 ≤ d) (h1 : d < 146097) (h : ddOf d = 365) : ((yOf d + 1) % 4 = 0 ∧ (yOf d + 1) % 100 ≠ 0) ∨ yOf d = 399 := by
  obtain ⟨n, rfl⟩ := Int.eq_ofNat_of_zero_le h0
  obtain ⟨y, hy, hs, he⟩ := year_exists n (by omega)
  have hok := List.all_eq_true.1 start_ok y (List.mem_range.2 hy)
  simp only [Bool.and_eq_true, Nat.ble_eq] at hok
  obtain ⟨⟨⟨k1, k2⟩, k3⟩, k4⟩ := hok
  have m1 := mid_mono _ _ hs
  have hyo : yOf (n : Int) = y := by
    have hm : yOf (n : Int) = ((mid n / 365 : Nat) : Int) := by unfold yOf mid; omega
    rw [hm]
    have hup : mid n ≤ 365 * y + 364 := by
      rcases he with he | he
      · exact Nat.le_trans (mid_mono n (startOf (y + 1) - 1) (by omega)) k2
      · subst he; unfold mid; omega
    have : mid n / 365 = y := by omega
    rw [this]
  unfold ddOf at h
  rw [hyo] at h ⊢
  rcases he with he | he
  · unfold startOf at he hs
    clear hyo m1 k1 k2 k3 k4
    have hn : n = 365 + (365 * y + y / 4 - y / 100) := by omega
    have hz : (y + 1) % 4 = 0 ∧ (y + 1) % 100 ≠ 0 := by clear h h0 h1; omega
    left
    omega
  · right; omega
def lp (y : Int) : Int := if leapB y then 1 else 0
theorem lp_of (y : Int) : (lp y = 1 ∧ y % 4 = 0 ∧ (y % 100 ≠ 0 ∨ y % 400 = 0)) ∨ (lp y = 0 ∧ ¬ (y % 4 = 0 ∧ (y % 100 ≠ 0 ∨ y % 400 = 0))) := by
  unfold lp leapB
  by_cases h : y % 4 = 0 ∧ (y % 100 ≠ 0 ∨ y % 400 = 0)
  · left; exact ⟨by rw [if_pos (decide_eq_true h)], h⟩
  · right; exact ⟨by rw [if_neg (by simpa using h)], h⟩
theorem ml_feb (y : Int) : ml y 2 = 28 + lp y := by unfold ml lp; rw [if_pos rfl]; split <;> rfl
theorem ml_at (y m : Int) (h : m = 1 ∨ m = 3 ∨ m = 5 ∨ m = 7 ∨ m = 8 ∨ m = 10 ∨ m = 12) : ml y m = 31 := by unfold ml; rw [if_neg (by omega), if_neg (by omega)]
theorem ml_30 (y m : Int) (h : m = 4 ∨ m = 6 ∨ m = 9 ∨ m = 11) : ml y m = 30 := by unfold ml; rw [if_neg (by omega), if_pos h]
theorem cums (y : Int) : cum y 0 = 0 ∧ cum y 1 = 31 ∧ cum y 2 = 59 + lp y ∧ cum y 3 = 90 + lp y ∧ cum y 4 = 120 + lp y ∧ cum y 5 = 151 + lp y ∧ cum y 6 = 181 + lp y ∧ cum y 7 = 212 + lp y ∧ cum y 8 = 243 + lp y ∧ cum y 9 = 273 + lp y ∧ cum y 10 = 304 + lp y ∧ cum y 11 = 334 + lp y := by
  have h1 : ml y (((0 : Nat) : Int) + 1) = 31 := ml_at y _ (by omega)
  have h2 : ml y (((1 : Nat) : Int) + 1) = 28 + lp y := ml_feb y
  have h3 : ml y (((2 : Nat) : Int) + 1) = 31 := ml_at y _ (by omega)
  have h4 : ml y (((3 : Nat) : Int) + 1) = 30 := ml_30 y _ (by omega)
  have h5 : ml y (((4 : Nat) : Int) + 1) = 31 := ml_at y _ (by omega)
  have h6 : ml y (((5 : Nat) : Int) + 1) = 30 := ml_30 y _ (by omega)
  have h7 : ml y (((6 : Nat) : Int) + 1) = 31 := ml_at y _ (by omega)
  have h8 : ml y (((7 : Nat) : Int) + 1) = 31 := ml_at y _ (by omega)
  have h9 : ml y (((8 : Nat) : Int) + 1) = 30 := ml_30 y _ (by omega)
  have h10 : ml y (((9 : Nat) : Int) + 1) = 31 := ml_at y _ (by omega)
  have h11 : ml y (((10 : Nat) : Int) + 1) = 30 := ml_30 y _ (by omega)
  simp only [cum, h1, h2, h3, h4, h5, h6, h7, h8, h9, h10, h11]
  and_intros <;> first | rfl | trivial | omega
theorem lp_bd (y : Int) : 0 ≤ lp y ∧ lp y ≤ 1 := by unfold lp; split <;> omega
theorem yd_era (e Y : Int) (y0 : 0 ≤ Y) (y1 : Y ≤ 399) : yd (400 * e + Y) + 59 + lp (400 * e + Y) = 146097 * e + (365 * Y + Y / 4 - Y / 100) - 719468 := by
  have a1 : (400 * e + Y - 1) / 4 = 100 * e + (Y - 1) / 4 := by omega
  have a2 : (400 * e + Y - 1) / 100 = 4 * e + (Y - 1) / 100 := by omega
  have a3 : (400 * e + Y - 1) / 400 = e + (Y - 1) / 400 := by omega
  have b1 : (400 * e + Y) % 4 = Y % 4 := by omega
  have b2 : (400 * e + Y) % 100 = Y % 100 := by omega
  have b3 : (400 * e + Y) % 400 = Y := by omega
  unfold yd
  rw [a1, a2, a3]
  rcases lp_of (400 * e + Y) with ⟨hl, l1, l2⟩ | ⟨hl, l1⟩
  · rw [hl]
    rw [b1] at l1
    rw [b2, b3] at l2
    clear a1 a2 a3 b1 b2 b3 hl
    rcases l2 with l2 | l2 <;> omega
  · rw [hl]
    rw [b1, b2, b3] at l1
    clear a1 a2 a3 b1 b2 b3 hl
    by_cases q : Y % 4 = 0
    · have q2 : Y % 100 = 0 := by omega
      have q3 : Y ≠ 0 := by omega
      omega
    · omega
theorem yd_era1 (e Y : Int) (y0 : 0 ≤ Y) (y1 : Y ≤ 399) : yd (400 * e + Y + 1) = 146097 * e + (365 * Y + Y / 4 - Y / 100) - 719468 + 306 := by
  have h := yd_era e Y y0 y1
  rw [yd_next]
  have : dl (400 * e + Y) = 365 + lp (400 * e + Y) := by unfold dl lp; split <;> rfl
  omega
theorem lp_next (e Y : Int) (h : ((Y + 1) % 4 = 0 ∧ (Y + 1) % 100 ≠ 0) ∨ Y = 399) : lp (400 * e + Y + 1) = 1 := by
  rcases lp_of (400 * e + Y + 1) with ⟨hl, l1, l2⟩ | ⟨hl, l1⟩
  · exact hl
  · exfalso
    apply l1
    rcases h with ⟨h1, h2⟩ | h
    · exact ⟨by omega, .inl (by omega)⟩
    · subst h; exact ⟨by omega, .inr (by omega)⟩
/-- What a day of an era is: right, and of the seconds that it was made of. -/
theorem six_right (e d s : Int) (d0 : 0 ≤ d) (d1 : d < 146097) (s0 : 0 ≤ s) (s1 : s < 86400) (e0 : -90 ≤ e) (e1 : e ≤ 95) :
    (sixOf e d s).d ≤ ml (sixOf e d s).y (sixOf e d s).m ∧ yd (sixOf e d s).y + cum (sixOf e d s).y ((sixOf e d s).m - 1).toNat + (sixOf e d s).d - 1 = 146097 * e + d - 719468 := by
  obtain ⟨y0, y1⟩ := yOf_bd d d0 d1
  obtain ⟨z0, z1⟩ := dd_bd d d0 d1
  have h365 := dd_365 d d0 d1
  have hm : mOf d = (5 * ddOf d + 2) / 153 := rfl
  have hdd : d = ddOf d + (365 * yOf d + yOf d / 4 - yOf d / 100) := by unfold ddOf; omega
  unfold sixOf
  generalize ddOf d = D at *
  generalize yOf d = Y at *
  generalize mOf d = M at *
  have hM : M = 0 ∨ M = 1 ∨ M = 2 ∨ M = 3 ∨ M = 4 ∨ M = 5 ∨ M = 6 ∨ M = 7 ∨ M = 8 ∨ M = 9 ∨ M = 10 ∨ M = 11 := by omega
  rcases hM with rfl | rfl | rfl | rfl | rfl | rfl | rfl | rfl | rfl | rfl | rfl | rfl
  · rw [if_neg (by omega)]
    dsimp only
    have hml : ml (400 * e + Y) ((0 : Int) + 3) = 31 := ml_at _ _ (by omega)
    have hcm : cum (400 * e + Y) (((0 : Int) + 3 - 1).toNat) = 59 + lp (400 * e + Y) := by
      obtain ⟨q0, q1, q2, q3, q4, q5, q6, q7, q8, q9, q10, q11⟩ := cums (400 * e + Y)
      exact q2
    rw [hml, hcm]
    have hE := yd_era e Y y0 y1
    constructor <;> omega
  · rw [if_neg (by omega)]
    dsimp only
    have hml : ml (400 * e + Y) ((1 : Int) + 3) = 30 := ml_30 _ _ (by omega)
    have hcm : cum (400 * e + Y) (((1 : Int) + 3 - 1).toNat) = 90 + lp (400 * e + Y) := by
      obtain ⟨q0, q1, q2, q3, q4, q5, q6, q7, q8, q9, q10, q11⟩ := cums (400 * e + Y)
      exact q3
    rw [hml, hcm]
    have hE := yd_era e Y y0 y1
    constructor <;> omega
  · rw [if_neg (by omega)]
    dsimp only
    have hml : ml (400 * e + Y) ((2 : Int) + 3) = 31 := ml_at _ _ (by omega)
    have hcm : cum (400 * e + Y) (((2 : Int) + 3 - 1).toNat) = 120 + lp (400 * e + Y) := by
      obtain ⟨q0, q1, q2, q3, q4, q5, q6, q7, q8, q9, q10, q11⟩ := cums (400 * e + Y)
      exact q4
    rw [hml, hcm]
    have hE := yd_era e Y y0 y1
    constructor <;> omega
  · rw [if_neg (by omega)]
    dsimp only
    have hml : ml (400 * e + Y) ((3 : Int) + 3) = 30 := ml_30 _ _ (by omega)
    have hcm : cum (400 * e + Y) (((3 : Int) + 3 - 1).toNat) = 151 + lp (400 * e + Y) := by
      obtain ⟨q0, q1, q2, q3, q4, q5, q6, q7, q8, q9, q10, q11⟩ := cums (400 * e + Y)
      exact q5
    rw [hml, hcm]
    have hE := yd_era e Y y0 y1
    constructor <;> omega
  · rw [if_neg (by omega)]
    dsimp only
    have hml : ml (400 * e + Y) ((4 : Int) + 3) = 31 := ml_at _ _ (by omega)
    have hcm : cum (400 * e + Y) (((4 : Int) + 3 - 1).toNat) = 181 + lp (400 * e + Y) := by
      obtain ⟨q0, q1, q2, q3, q4, q5, q6, q7, q8, q9, q10, q11⟩ := cums (400 * e + Y)
      exact q6
    rw [hml, hcm]
    have hE := yd_era e Y y0 y1
    constructor <;> omega
  · rw [if_neg (by omega)]
    dsimp only
    have hml : ml (400 * e + Y) ((5 : Int) + 3) = 31 := ml_at _ _ (by omega)
    have hcm : cum (400 * e + Y) (((5 : Int) + 3 - 1).toNat) = 212 + lp (400 * e + Y) := by
      obtain ⟨q0, q1, q2, q3, q4, q5, q6, q7, q8, q9, q10, q11⟩ := cums (400 * e + Y)
      exact q7
    rw [hml, hcm]
    have hE := yd_era e Y y0 y1
    constructor <;> omega
  · rw [if_neg (by omega)]
    dsimp only
    have hml : ml (400 * e + Y) ((6 : Int) + 3) = 30 := ml_30 _ _ (by omega)
    have hcm : cum (400 * e + Y) (((6 : Int) + 3 - 1).toNat) = 243 + lp (400 * e + Y) := by
      obtain ⟨q0, q1, q2, q3, q4, q5, q6, q7, q8, q9, q10, q11⟩ := cums (400 * e + Y)
      exact q8
    rw [hml, hcm]
    have hE := yd_era e Y y0 y1
    constructor <;> omega
  · rw [if_neg (by omega)]
    dsimp only
    have hml : ml (400 * e + Y) ((7 : Int) + 3) = 31 := ml_at _ _ (by omega)
    have hcm : cum (400 * e + Y) (((7 : Int) + 3 - 1).toNat) = 273 + lp (400 * e + Y) := by
      obtain ⟨q0, q1, q2, q3, q4, q5, q6, q7, q8, q9, q10, q11⟩ := cums (400 * e + Y)
      exact q9
    rw [hml, hcm]
    have hE := yd_era e Y y0 y1
    constructor <;> omega
  · rw [if_neg (by omega)]
    dsimp only
    have hml : ml (400 * e + Y) ((8 : Int) + 3) = 30 := ml_30 _ _ (by omega)
    have hcm : cum (400 * e + Y) (((8 : Int) + 3 - 1).toNat) = 304 + lp (400 * e + Y) := by
      obtain ⟨q0, q1, q2, q3, q4, q5, q6, q7, q8, q9, q10, q11⟩ := cums (400 * e + Y)
      exact q10
    rw [hml, hcm]
    have hE := yd_era e Y y0 y1
    constructor <;> omega
  · rw [if_neg (by omega)]
    dsimp only
    have hml : ml (400 * e + Y) ((9 : Int) + 3) = 31 := ml_at _ _ (by omega)
    have hcm : cum (400 * e + Y) (((9 : Int) + 3 - 1).toNat) = 334 + lp (400 * e + Y) := by
      obtain ⟨q0, q1, q2, q3, q4, q5, q6, q7, q8, q9, q10, q11⟩ := cums (400 * e + Y)
      exact q11
    rw [hml, hcm]
    have hE := yd_era e Y y0 y1
    constructor <;> omega
  · rw [if_pos (by omega)]
    dsimp only
    have hml : ml (400 * e + Y + 1) ((10 : Int) + 3 - 12) = 31 := ml_at _ _ (by omega)
    have hcm : cum (400 * e + Y + 1) (((10 : Int) + 3 - 12 - 1).toNat) = 0 := rfl
    rw [hml, hcm]
    have hE := yd_era1 e Y y0 y1
    constructor <;> omega
  · rw [if_pos (by omega)]
    dsimp only
    have hml : ml (400 * e + Y + 1) ((11 : Int) + 3 - 12) = 28 + lp (400 * e + Y + 1) := ml_feb _
    have hcm : cum (400 * e + Y + 1) (((11 : Int) + 3 - 12 - 1).toNat) = 31 := (cums (400 * e + Y + 1)).2.1
    rw [hml, hcm]
    have hE := yd_era1 e Y y0 y1
    have hlb := lp_bd (400 * e + Y + 1)
    have hl2 := fun h => lp_next e Y (h365 h)
    constructor
    · by_cases hD : D = 365
      · have := hl2 hD; omega
      · omega
    · omega

theorem era_bd (t : Int) (h0 : -1099511627776 ≤ t) (h1 : t ≤ 1099511627776) : -90 ≤ (t / 86400 + 719468) / 146097 ∧ (t / 86400 + 719468) / 146097 ≤ 95 := by omega
theorem day_secs (t : Int) (h0 : -1099511627776 ≤ t) (h1 : t ≤ 1099511627776) :
    rightB (dayF t).y (dayF t).m (dayF t).d (dayF t).h (dayF t).mi (dayF t).s = true ∧ secs (dayF t).y (dayF t).m (dayF t).d (dayF t).h (dayF t).mi (dayF t).s = t := by
  obtain ⟨e0, e1⟩ := era_bd t h0 h1
  obtain ⟨k1, k2⟩ := six_right ((t / 86400 + 719468) / 146097) ((t / 86400 + 719468) % 146097) (t % 86400) (by omega) (by omega) (by omega) (by omega) e0 e1
  have hb := day_bd t h0 h1
  have hy : -40000 ≤ (dayF t).y ∧ (dayF t).y ≤ 40000 := by
    obtain ⟨y0, y1⟩ := yOf_bd ((t / 86400 + 719468) % 146097) (by omega) (by omega)
    unfold dayF sixOf
    split <;> dsimp only <;> omega
  have hh : (dayF t).h * 3600 + (dayF t).mi * 60 + (dayF t).s = t % 86400 := by
    unfold dayF sixOf
    split <;> dsimp only <;> omega
  unfold secs rightB
  unfold dayF at *
  refine ⟨decide_eq_true ?_, ?_⟩
  · omega
  · omega
theorem seconds_day (t : Int) (h0 : -1099511627776 ≤ t) (h1 : t ≤ 1099511627776) : secondsF (dayF t).y (dayF t).m (dayF t).d (dayF t).h (dayF t).mi (dayF t).s = (t, 0) := by
  obtain ⟨a, b⟩ := day_secs t h0 h1
  unfold secondsF
  rw [if_pos a]
  unfold secsR
  rw [b, if_neg (by omega)]
theorem ofDos_dos (t : Int) (h0 : -1099511627776 ≤ t) (h1 : t ≤ 1099511627776) (hy : 1980 ≤ (dayF t).y) (hy1 : (dayF t).y ≤ 2107) :
    ofDosF (dosOf (dayF t)).1 (dosOf (dayF t)).2.1 = (t - (dayF t).s % 2, 0) := by
  obtain ⟨a, b⟩ := day_secs t h0 h1
  have hb := day_bd t h0 h1
  have hlow : 86400 ≤ t := by
    rcases Int.lt_or_le t 86400 with h | h
    · exfalso
      obtain ⟨y0, y1⟩ := yOf_bd ((t / 86400 + 719468) % 146097) (by omega) (by omega)
      have hd : dd_bd ((t / 86400 + 719468) % 146097) (by omega) (by omega) = dd_bd ((t / 86400 + 719468) % 146097) (by omega) (by omega) := rfl
      have hyd : yd (dayF t).y ≤ t / 86400 := by
        unfold secs at b
        have hc := cum_bd (dayF t).y ((dayF t).m - 1).toNat
        omega
      have : yd (dayF t).y ≥ 3652 := by unfold yd; omega
      omega
    · exact h
  generalize dayF t = x at *
  obtain ⟨y, m, d, h, mi, s⟩ := x
  dsimp only at *
  unfold dosOf
  rw [if_neg (by dsimp only; omega)]
  dsimp only
  unfold ofDosF
  rw [if_neg (by omega)]
  have q1 : 1980 + ((y - 1980) * 512 + m * 32 + d) / 512 = y := by omega
  have q2 : ((y - 1980) * 512 + m * 32 + d) / 32 % 16 = m := by omega
  have q3 : ((y - 1980) * 512 + m * 32 + d) % 32 = d := by omega
  have q4 : (h * 2048 + mi * 32 + s / 2) / 2048 = h := by omega
  have q5 : (h * 2048 + mi * 32 + s / 2) / 32 % 64 = mi := by omega
  have q6 : (h * 2048 + mi * 32 + s / 2) % 32 * 2 = s - s % 2 := by omega
  rw [q1, q2, q3, q4, q5, q6]
  have hr : rightB y m d h mi (s - s % 2) = true := by
    unfold rightB at *
    have := of_decide_eq_true a
    exact decide_eq_true (by omega)
  have hs : secs y m d h mi (s - s % 2) = t - s % 2 := by unfold secs at *; omega
  have hF : secondsF y m d h mi (s - s % 2) = (t - s % 2, 0) := by
    unfold secondsF
    rw [if_pos hr]
    unfold secsR
    rw [hs, if_neg (by omega)]
  rw [hF, if_pos rfl]

end Go.Proofs.YtoiffnoiliknnaaDoor.Tim
