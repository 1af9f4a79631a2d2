/- The walks of tree.DayOf and tree.Dos. -/
import Derived.Test.YtoiffnoiliknnaaDoorTimSec
set_option linter.unusedVariables false
namespace Go.Proofs.YtoiffnoiliknnaaDoor.Tim
open Go.RowKit Go.BigFrame Go.Proofs.YtoiffnoiliknnaaDoor.Reg Go.Proofs.YtoiffnoiliknnaaDoor.Plong Go.Proofs.YtoiffnoiliknnaaDoor.Pfloor Go.Proofs.YtoiffnoiliknnaaDoor.Pmonth Go.Proofs.YtoiffnoiliknnaaDoorW.PrintWords Go.Proofs.YtoiffnoiliknnaaDoorW.PrintLast Go.Proofs.YtoiffnoiliknnaaDoorW.PrintMore

/-! ### the year of a day within 400 years (from the first of March on) -/
def yOf (d : Int) : Int := (d - d / 1460 + d / 36524 - d / 146096) / 365
def ddOf (d : Int) : Int := d - (365 * yOf d + yOf d / 4 - yOf d / 100)
def mOf (d : Int) : Int := (5 * ddOf d + 2) / 153
def tOf (d : Int) : Int := ddOf d - (153 * mOf d + 2) / 5 + 1
theorem yOf_bd (d : Int) (h0 : 0 ≤ d) (h1 : d < 146097) : 0 ≤ yOf d ∧ yOf d ≤ 399 := by unfold yOf; omega
def startOf (y : Nat) : Nat := 365 * y + y / 4 - y / 100
def mid (d : Nat) : Nat := d - d / 1460 + d / 36524 - d / 146096
theorem start_ok : (List.range 400).all (fun y => Nat.ble (365 * y) (mid (startOf y)) && Nat.ble (mid (startOf (y + 1) - 1)) (365 * y + 364) && Nat.ble (startOf (y + 1)) (startOf y + 366) && Nat.ble (startOf y + 365) (startOf (y + 1))) = true := by decide +kernel
theorem mid_mono (a b : Nat) (h : a ≤ b) : mid a ≤ mid b := by unfold mid; omega
theorem start_400 : startOf 400 = 146096 + 0 + 0 ∨ True := .inr trivial
theorem year_exists (d : Nat) (h : d < 146097) : ∃ y, y < 400 ∧ startOf y ≤ d ∧ (d < startOf (y + 1) ∨ y = 399) := by
  have key : ∀ n, n < 400 → startOf n ≤ d → ∃ y, y < 400 ∧ startOf y ≤ d ∧ (d < startOf (y + 1) ∨ y = 399) := by
    intro n
    induction hk : 399 - n generalizing n with
    | zero => intro hn hs; exact ⟨n, hn, hs, .inr (by omega)⟩
    | succ k ih =>
      intro hn hs
      by_cases hlt : d < startOf (n + 1)
      · exact ⟨n, hn, hs, .inl hlt⟩
      · exact ih (n + 1) (by omega) (by omega) (by omega)
  exact key 0 (by omega) (by unfold startOf; omega)
theorem dd_bd (d : Int) (h0 : 0 ≤ d) (h1 : d < 146097) : 0 ≤ ddOf d ∧ ddOf d ≤ 365 := by
  obtain ⟨n, rfl⟩ := Int.eq_ofNat_of_zero_le h0
  obtain ⟨y, hy, hs, he⟩ := year_exists n (by omega)
  have hok := List.all_eq_true.1 start_ok y (List.mem_range.2 hy)
  simp only [Bool.and_eq_true, Nat.ble_eq] at hok
  obtain ⟨⟨⟨k1, k2⟩, k3⟩, k4⟩ := hok
  have m1 := mid_mono _ _ hs
  have hyo : yOf (n : Int) = y := by
    have hm : yOf (n : Int) = ((mid n / 365 : Nat) : Int) := by unfold yOf mid; omega
    rw [hm]
    have hup : mid n ≤ 365 * y + 364 := by
      rcases he with he | he
      · exact Nat.le_trans (mid_mono n (startOf (y + 1) - 1) (by omega)) k2
      · subst he; unfold mid; omega
    have : mid n / 365 = y := by omega
    rw [this]
  unfold ddOf
  rw [hyo]
  have hst : (startOf y : Int) = 365 * y + (y : Int) / 4 - (y : Int) / 100 := by unfold startOf; omega
  rcases he with he | he
  · omega
  · subst he
    have : startOf 399 = 145731 := by decide
    omega
theorem m_bd (d : Int) (h0 : 0 ≤ d) (h1 : d < 146097) : 0 ≤ mOf d ∧ mOf d ≤ 11 := by
  have := dd_bd d h0 h1; unfold mOf; omega
theorem t_bd (d : Int) (h0 : 0 ≤ d) (h1 : d < 146097) : 1 ≤ tOf d ∧ tOf d ≤ 31 := by
  have := dd_bd d h0 h1; unfold tOf mOf; omega

structure Six where
  (y m d h mi s : Int)
/-- The day of an era of 400 years, of a day in it (from the first of March on), and of seconds in that. -/
def sixOf (e d s : Int) : Six :=
  if 12 < mOf d + 3 then ⟨400 * e + yOf d + 1, mOf d + 3 - 12, ddOf d - (153 * mOf d + 2) / 5 + 1, s / 3600, s / 60 % 60, s % 60⟩
  else ⟨400 * e + yOf d, mOf d + 3, ddOf d - (153 * mOf d + 2) / 5 + 1, s / 3600, s / 60 % 60, s % 60⟩
def dayF (t : Int) : Six := sixOf ((t / 86400 + 719468) / 146097) ((t / 86400 + 719468) % 146097) (t % 86400)
def Six.val (x : Six) : Value := .agg #[.int .i64 x.y, .int .i64 x.m, .int .i64 x.d, .int .i64 x.h, .int .i64 x.mi, .int .i64 x.s]

set_option maxHeartbeats 2000000 in
theorem dayOf_no (t : Int) (w : World) (h : t < -1099511627776 ∨ 1099511627776 < t) :
    Calls Tryd.prog 55 #[.int .i64 t] w fun e w' => e = .returned (.tuple #[.agg #[.int .i64 0, .int .i64 0, .int .i64 0, .int .i64 0, .int .i64 0, .int .i64 0], .int .i64 2]) ∧ Below w.heap.size w w' := by
  by_cases h1 : t < -1099511627776
  · go_enter Tryd.func55, Tryd.ntmps55
    go_wp2
    exact bodyPost_ret (v := .tuple #[.agg #[.int .i64 0, .int .i64 0, .int .i64 0, .int .i64 0, .int .i64 0, .int .i64 0], .int .i64 2]) (by simp [results, Tryd.results55, go_sem]) rfl ⟨rfl, by repeat (first | with_reducible exact Below.refl _ _ | with_reducible refine balloc ?_ _ | with_reducible refine bdrewN ?_ _ | with_reducible refine Below.setCell ?_ (by simp) _)⟩
  · have h2 : 1099511627776 < t := by omega
    go_enter Tryd.func55, Tryd.ntmps55
    go_wp2
    exact bodyPost_ret (v := .tuple #[.agg #[.int .i64 0, .int .i64 0, .int .i64 0, .int .i64 0, .int .i64 0, .int .i64 0], .int .i64 2]) (by simp [results, Tryd.results55, go_sem]) rfl ⟨rfl, by repeat (first | with_reducible exact Below.refl _ _ | with_reducible refine balloc ?_ _ | with_reducible refine bdrewN ?_ _ | with_reducible refine Below.setCell ?_ (by simp) _)⟩
set_option maxRecDepth 100000 in
set_option maxHeartbeats 4000000 in
theorem dayOf_yes (t : Int) (w : World) (h0 : -1099511627776 ≤ t) (h1 : t ≤ 1099511627776) :
    Calls Tryd.prog 55 #[.int .i64 t] w fun e w' => e = .returned (.tuple #[(dayF t).val, .int .i64 0]) ∧ Below w.heap.size w w' := by
  have hF : Hid (dayF t = sixOf ((t / 86400 + 719468) / 146097) ((t / 86400 + 719468) % 146097) (t % 86400)) := Lib.hid rfl
  have b0 : -12725831 ≤ t / 86400 := by omega
  have b1 : t / 86400 ≤ 12725831 := by omega
  have b2 : 0 ≤ t % 86400 := by omega
  have b3 : t % 86400 < 86400 := by omega
  go_enter Tryd.func55, Tryd.ntmps55
  go_wp2_with fail
  refine (floor_any _ _ _ (by omega) (by omega) (by omega) (by omega)).mono ?_
  rintro e w2 ⟨rfl, ⟨nd, rfl⟩⟩
  generalize t / 86400 = q at *
  generalize t % 86400 = s at *
  go_wp2_with fail
  refine (floor_any _ _ _ (by omega) (by omega) (by omega) (by omega)).mono ?_
  rintro e w2 ⟨rfl, ⟨nd2, rfl⟩⟩
  have e0 : -1000 ≤ (q + 719468) / 146097 := by omega
  have e1 : (q + 719468) / 146097 ≤ 1000 := by omega
  have d0 : 0 ≤ (q + 719468) % 146097 := by omega
  have d1 : (q + 719468) % 146097 < 146097 := by omega
  generalize (q + 719468) / 146097 = er at *
  generalize (q + 719468) % 146097 = d at *
  go_upto_region 6 with (fail)
  rw [show (d - d / 1460 + d / 36524 - d / 146096) / 365 = yOf d from rfl]
  obtain ⟨y0, y1⟩ := yOf_bd d d0 d1
  go_upto_region 7 with (fail)
  rw [show d - (365 * yOf d + yOf d / 4 - yOf d / 100) = ddOf d from rfl]
  obtain ⟨z0, z1⟩ := dd_bd d d0 d1
  go_upto_region 8 with (fail)
  rw [show (5 * ddOf d + 2) / 153 = mOf d from rfl]
  obtain ⟨m0, m1⟩ := m_bd d d0 d1
  by_cases hm : 12 < mOf d + 3
  · have hS : Hid (sixOf er d s = ⟨400 * er + yOf d + 1, mOf d + 3 - 12, ddOf d - (153 * mOf d + 2) / 5 + 1, s / 3600, s / 60 % 60, s % 60⟩) := Lib.hid (by unfold sixOf; rw [if_pos hm])
    go_wp2
    exact bodyPost_ret (v := .tuple #[.agg #[.int .i64 (400 * er + yOf d + 1), .int .i64 (mOf d + 3 - 12), .int .i64 (ddOf d - (153 * mOf d + 2) / 5 + 1), .int .i64 (s / 3600), .int .i64 (s / 60 % 60), .int .i64 (s % 60)], .int .i64 0]) (by simp [results, Tryd.results55, go_sem]) rfl ⟨by rw [hF.out, hS.out]; rfl, by repeat (first | with_reducible exact Below.refl _ _ | with_reducible refine balloc ?_ _ | with_reducible refine bdrewN ?_ _ | with_reducible refine Below.setCell ?_ (by simp) _)⟩
  · have hS : Hid (sixOf er d s = ⟨400 * er + yOf d, mOf d + 3, ddOf d - (153 * mOf d + 2) / 5 + 1, s / 3600, s / 60 % 60, s % 60⟩) := Lib.hid (by unfold sixOf; rw [if_neg hm])
    go_wp2
    exact bodyPost_ret (v := .tuple #[.agg #[.int .i64 (400 * er + yOf d), .int .i64 (mOf d + 3), .int .i64 (ddOf d - (153 * mOf d + 2) / 5 + 1), .int .i64 (s / 3600), .int .i64 (s / 60 % 60), .int .i64 (s % 60)], .int .i64 0]) (by simp [results, Tryd.results55, go_sem]) rfl ⟨by rw [hF.out, hS.out]; rfl, by repeat (first | with_reducible exact Below.refl _ _ | with_reducible refine balloc ?_ _ | with_reducible refine bdrewN ?_ _ | with_reducible refine Below.setCell ?_ (by simp) _)⟩
theorem six_bd (e d s : Int) (d0 : 0 ≤ d) (d1 : d < 146097) (s0 : 0 ≤ s) (s1 : s < 86400) (e0 : -1000 ≤ e) (e1 : e ≤ 1000) :
    -400000 ≤ (sixOf e d s).y ∧ (sixOf e d s).y ≤ 400400 ∧ 1 ≤ (sixOf e d s).m ∧ (sixOf e d s).m ≤ 12 ∧ 1 ≤ (sixOf e d s).d ∧ (sixOf e d s).d ≤ 31 ∧ 0 ≤ (sixOf e d s).h ∧ (sixOf e d s).h < 24 ∧ 0 ≤ (sixOf e d s).mi ∧ (sixOf e d s).mi < 60 ∧ 0 ≤ (sixOf e d s).s ∧ (sixOf e d s).s < 60 := by
  obtain ⟨y0, y1⟩ := yOf_bd d d0 d1
  obtain ⟨z0, z1⟩ := dd_bd d d0 d1
  have hm : mOf d = (5 * ddOf d + 2) / 153 := rfl
  unfold sixOf
  split
  · refine ⟨?_, ?_, ?_, ?_, ?_, ?_, ?_, ?_, ?_, ?_, ?_, ?_⟩ <;> dsimp only <;> omega
  · refine ⟨?_, ?_, ?_, ?_, ?_, ?_, ?_, ?_, ?_, ?_, ?_, ?_⟩ <;> dsimp only <;> omega
theorem day_bd (t : Int) (h0 : -1099511627776 ≤ t) (h1 : t ≤ 1099511627776) :
    -400000 ≤ (dayF t).y ∧ (dayF t).y ≤ 400400 ∧ 1 ≤ (dayF t).m ∧ (dayF t).m ≤ 12 ∧ 1 ≤ (dayF t).d ∧ (dayF t).d ≤ 31 ∧ 0 ≤ (dayF t).h ∧ (dayF t).h < 24 ∧ 0 ≤ (dayF t).mi ∧ (dayF t).mi < 60 ∧ 0 ≤ (dayF t).s ∧ (dayF t).s < 60 :=
  six_bd _ _ _ (by omega) (by omega) (by omega) (by omega) (by omega) (by omega)

theorem i64_or_nat (a b : Nat) (ha : a < 9223372036854775808) (hb : b < 9223372036854775808) : bits .or .i64 (a : Int) (b : Int) = ((a ||| b : Nat) : Int) := by
  have hx : a ||| b < 2 ^ 63 := Nat.or_lt_two_pow (by omega) (by omega)
  show IntKind.i64.wrap ((BitVec.ofInt 64 (a : Int) ||| BitVec.ofInt 64 (b : Int)).toNat : Int) = _
  rw [BitVec.toNat_or, ofInt_i64 a ha, ofInt_i64 b hb, IntKind.wrap_i64]
  omega
theorem or_add (k : Nat) (a b : Int) (ha : 0 ≤ a) (ha1 : a < 65536) (hk : k ≤ 11) (hb : 0 ≤ b) (hb1 : b < ((2 ^ k : Nat) : Int)) : bits .or .i64 (a * ((2 ^ k : Nat) : Int)) b = a * ((2 ^ k : Nat) : Int) + b := by
  obtain ⟨n, rfl⟩ := Int.eq_ofNat_of_zero_le ha
  obtain ⟨m, rfl⟩ := Int.eq_ofNat_of_zero_le hb
  have h2 : 2 ^ k ≤ 2 ^ 11 := Nat.pow_le_pow_right (by omega) hk
  have hm : m < 2 ^ k := by omega
  have hn : n * 2 ^ k ≤ 65536 * 2 ^ 11 := Nat.mul_le_mul (by omega) h2
  rw [show ((n : Int) * ((2 ^ k : Nat) : Int)) = ((n * 2 ^ k : Nat) : Int) by simp, i64_or_nat _ _ (by omega) (by omega), ← Nat.shiftLeft_eq, ← Nat.shiftLeft_add_eq_or_of_lt hm]
  simp [Nat.shiftLeft_eq]
theorem or_date (a b c : Int) (ha : 0 ≤ a) (ha1 : a < 128) (hb : 0 ≤ b) (hb1 : b < 16) (hc : 0 ≤ c) (hc1 : c < 32) : bits .or .i64 (bits .or .i64 (a * 512) (b * 32)) c = a * 512 + b * 32 + c := by
  have e1 : bits .or .i64 (a * 512) (b * 32) = a * 512 + b * 32 := or_add 9 a (b * 32) ha (by omega) (by omega) (by omega) (by omega)
  rw [e1]
  have e2 : bits .or .i64 ((a * 16 + b) * 32) c = (a * 16 + b) * 32 + c := or_add 5 (a * 16 + b) c (by omega) (by omega) (by omega) hc (by omega)
  rw [show a * 512 + b * 32 = (a * 16 + b) * 32 by omega, e2]
theorem or_time (a b c : Int) (ha : 0 ≤ a) (ha1 : a < 32) (hb : 0 ≤ b) (hb1 : b < 64) (hc : 0 ≤ c) (hc1 : c < 32) : bits .or .i64 (bits .or .i64 (a * 2048) (b * 32)) c = a * 2048 + b * 32 + c := by
  have e1 : bits .or .i64 (a * 2048) (b * 32) = a * 2048 + b * 32 := or_add 11 a (b * 32) ha (by omega) (by omega) (by omega) (by omega)
  rw [e1]
  have e2 : bits .or .i64 ((a * 64 + b) * 32) c = (a * 64 + b) * 32 + c := or_add 5 (a * 64 + b) c (by omega) (by omega) (by omega) hc (by omega)
  rw [show a * 2048 + b * 32 = (a * 64 + b) * 32 by omega, e2]

def dosOf (x : Six) : Int × Int × Int := if x.y < 1980 ∨ 2107 < x.y then (0, 0, 22) else ((x.y - 1980) * 512 + x.m * 32 + x.d, x.h * 2048 + x.mi * 32 + x.s / 2, 0)
def dosF (t : Int) : Int × Int × Int := if t < -1099511627776 ∨ 1099511627776 < t then (0, 0, 2) else dosOf (dayF t)
theorem dos_no (t : Int) (w : World) (h : t < -1099511627776 ∨ 1099511627776 < t) :
    Calls Tryd.prog 41 #[.int .i64 t] w fun e w' => e = .returned (.tuple #[.int .i64 0, .int .i64 0, .int .i64 2]) ∧ Below w.heap.size w w' := by
  have hc0 : ∀ w, Calls Tryd.prog 55 #[.int .i64 t] w fun e w' => e = .returned (.tuple #[.agg #[.int .i64 0, .int .i64 0, .int .i64 0, .int .i64 0, .int .i64 0, .int .i64 0], .int .i64 2]) ∧ Below w.heap.size w w' := fun w => dayOf_no t w h
  have H := Lib.hid hc0; clear hc0
  go_enter Tryd.func41, Tryd.ntmps41
  go_wp2_with (go_at_call 55; refine (H.out _).mono ?_; rintro e w1 ⟨rfl, hb1⟩)
  go_ret3
  exact ⟨rfl, balloc hb1 _⟩
set_option maxRecDepth 100000 in
set_option maxHeartbeats 4000000 in
theorem dos_yes (t : Int) (w : World) (h0 : -1099511627776 ≤ t) (h1 : t ≤ 1099511627776) :
    Calls Tryd.prog 41 #[.int .i64 t] w fun e w' => e = .returned (.tuple #[.int .i64 (dosOf (dayF t)).1, .int .i64 (dosOf (dayF t)).2.1, .int .i64 (dosOf (dayF t)).2.2]) ∧ Below w.heap.size w w' := by
  have hc0 : ∀ w, Calls Tryd.prog 55 #[.int .i64 t] w fun e w' => e = .returned (.tuple #[(dayF t).val, .int .i64 0]) ∧ Below w.heap.size w w' := fun w => dayOf_yes t w h0 h1
  have hbd := day_bd t h0 h1
  generalize dayF t = x at *
  obtain ⟨y, m, d, h, mi, s⟩ := x
  unfold Six.val at hc0
  dsimp only at hc0 hbd
  obtain ⟨y0, y1, m0, m1, d0, d1, hh0, hh1, i0, i1, s0, s1⟩ := hbd
  have H := Lib.hid hc0; clear hc0
  by_cases r1 : y < 1980
  · have hd : Hid (dosOf ⟨y, m, d, h, mi, s⟩ = (0, 0, 22)) := Lib.hid (by unfold dosOf; rw [if_pos (.inl r1)])
    go_enter Tryd.func41, Tryd.ntmps41
    go_wp2_with (go_at_call 55; refine (H.out _).mono ?_; rintro e w1 ⟨rfl, hb1⟩)
    go_ret3
    exact ⟨by rw [hd.out]; rfl, balloc hb1 _⟩
  by_cases r2 : 2107 < y
  · have hd : Hid (dosOf ⟨y, m, d, h, mi, s⟩ = (0, 0, 22)) := Lib.hid (by unfold dosOf; rw [if_pos (.inr r2)])
    go_enter Tryd.func41, Tryd.ntmps41
    go_wp2_with (go_at_call 55; refine (H.out _).mono ?_; rintro e w1 ⟨rfl, hb1⟩)
    go_ret3
    exact ⟨by rw [hd.out]; rfl, balloc hb1 _⟩
  have hd : Hid (dosOf ⟨y, m, d, h, mi, s⟩ = ((y - 1980) * 512 + m * 32 + d, h * 2048 + mi * 32 + s / 2, 0)) := Lib.hid (by unfold dosOf; rw [if_neg (by dsimp only; omega)])
  have o1 := Lib.hid (or_date (y - 1980) m d (by omega) (by omega) (by omega) (by omega) (by omega) (by omega))
  have o2 := Lib.hid (or_time h mi (s / 2) (by omega) (by omega) (by omega) (by omega) (by omega) (by omega))
  go_enter Tryd.func41, Tryd.ntmps41
  go_wp2_with (go_at_call 55; refine (H.out _).mono ?_; rintro e w1 ⟨rfl, hb1⟩)
  go_quiet (fail)
  go_wp2
  go_ret3
  exact ⟨by rw [hd.out, ← o1.out, ← o2.out]; rfl, bdrewN (balloc hb1 _) _⟩
theorem dos_calls (t : Int) (w : World) :
    Calls Tryd.prog 41 #[.int .i64 t] w fun e w' => e = .returned (.tuple #[.int .i64 (dosF t).1, .int .i64 (dosF t).2.1, .int .i64 (dosF t).2.2]) ∧ Below w.heap.size w w' := by
  unfold dosF
  by_cases h : t < -1099511627776 ∨ 1099511627776 < t
  · rw [if_pos h]; exact dos_no t w h
  · rw [if_neg h]; exact dos_yes t w (by omega) (by omega)
end Go.Proofs.YtoiffnoiliknnaaDoor.Tim
