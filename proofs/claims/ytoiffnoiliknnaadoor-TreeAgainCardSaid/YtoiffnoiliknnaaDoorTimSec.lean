/- The walk of tree.Seconds. -/
import Derived.Test.YtoiffnoiliknnaaDoorTimRight
set_option linter.unusedVariables false
namespace Go.Proofs.YtoiffnoiliknnaaDoor.Tim
open Go.RowKit Go.BigFrame Go.Proofs.YtoiffnoiliknnaaDoor.Reg Go.Proofs.YtoiffnoiliknnaaDoor.Plong Go.Proofs.YtoiffnoiliknnaaDoor.Pfloor Go.Proofs.YtoiffnoiliknnaaDoor.Pmonth Go.Proofs.YtoiffnoiliknnaaDoorW.PrintWords Go.Proofs.YtoiffnoiliknnaaDoorW.PrintLast Go.Proofs.YtoiffnoiliknnaaDoorW.PrintMore

def cum (y : Int) : Nat → Int
  | 0 => 0
  | k + 1 => cum y k + ml y (k + 1)
theorem cum_bd (y : Int) : ∀ k : Nat, 0 ≤ cum y k ∧ cum y k ≤ 31 * k
  | 0 => by simp [cum]
  | k + 1 => by have := cum_bd y k; have := ml_bd y (k + 1); simp only [cum]; omega
def yd (y : Int) : Int := 365 * (y - 1) + (y - 1) / 4 - (y - 1) / 100 + (y - 1) / 400 - 719162
theorem yd_bd (y : Int) (h0 : -40000 ≤ y) (h1 : y ≤ 40000) : -20000000 ≤ yd y ∧ yd y ≤ 20000000 := by unfold yd; omega
def secs (y m d h mi s : Int) : Int := (yd y + cum y (m - 1).toNat + d - 1) * 86400 + h * 3600 + mi * 60 + s
def secsR (y m d h mi s : Int) : Int × Int := if secs y m d h mi s < -1099511627776 ∨ 1099511627776 < secs y m d h mi s then (0, 3) else (secs y m d h mi s, 0)

theorem floor_f (a b : Int) (h0 : -1000000000000000 ≤ a) (h1 : a ≤ 1000000000000000) (hb : 0 < b) (hb1 : b ≤ 1000000) : tree_floor.f a b = some (a / b, a % b) := by
  unfold tree_floor.f
  rw [if_neg (by omega)]
  have hdm := Int.mul_ediv_add_emod a b
  have hm0 := Int.emod_nonneg a (show b ≠ 0 by omega)
  have hm1 := Int.emod_lt_of_pos a hb
  by_cases hn : 0 ≤ a
  · have e1 : Int.tmod a b = a % b := Int.tmod_eq_emod_of_nonneg hn
    have e2 : Int.tdiv a b = a / b := Int.tdiv_eq_ediv_of_nonneg hn
    rw [e1, e2, if_neg (by omega)]
    have hle : a / b ≤ a := Int.ediv_le_self _ hn
    have h0' : 0 ≤ a / b := Int.ediv_nonneg hn (by omega)
    have : wrap64 (a / b) = a / b := by unfold wrap64; omega
    rw [this]
  · have hmm := Int.mul_tdiv_add_tmod a b
    have e2 : Int.tdiv a b = -((-a) / b) := by
      rw [show a = -(-a) by omega, Int.neg_tdiv, Int.tdiv_eq_ediv_of_nonneg (by omega)]; simp
    have q0 : 0 ≤ (-a) / b := Int.ediv_nonneg (by omega) (by omega)
    have q1 : (-a) / b ≤ -a := Int.ediv_le_self _ (by omega)
    have r0 := Int.mul_ediv_add_emod (-a) b
    have r1 := Int.emod_nonneg (-a) (show b ≠ 0 by omega)
    have r2 := Int.emod_lt_of_pos (-a) hb
    have et : Int.tmod a b = -((-a) % b) := by
      rw [e2, Int.mul_neg] at hmm; omega
    rw [e2, et]
    by_cases hz : (-a) % b = 0
    · rw [if_neg (by omega)]
      have hw : wrap64 (-((-a) / b)) = -((-a) / b) := by unfold wrap64; omega
      rw [hw]
      have e3 : a = b * (-((-a) / b)) := by rw [Int.mul_neg]; omega
      have e4 : a / b = -((-a) / b) := by
        conv => lhs; rw [e3]
        exact Int.mul_ediv_cancel_left _ (by omega)
      have e5 : a % b = 0 := by
        conv => lhs; rw [e3]
        exact Int.mul_emod_right _ _
      rw [e4, e5, hz]; rfl
    · rw [if_pos (by omega)]
      have hw : wrap64 (wrap64 (-((-a) / b)) - 1) = -((-a) / b) - 1 := by unfold wrap64; omega
      have hw2 : wrap64 (-((-a) % b) + b) = -((-a) % b) + b := by unfold wrap64; omega
      rw [hw, hw2]
      have e3 : a = (-((-a) % b) + b) + b * (-((-a) / b) - 1) := by rw [Int.mul_sub, Int.mul_neg]; omega
      have e4 : a / b = -((-a) / b) - 1 := by
        conv => lhs; rw [e3]
        rw [Int.add_mul_ediv_left _ _ (by omega), Int.ediv_eq_zero_of_lt (by omega) (by omega)]; omega
      have e5 : a % b = -((-a) % b) + b := by
        conv => lhs; rw [e3]
        rw [Int.add_mul_emod_self_left, Int.emod_eq_of_lt (by omega) (by omega)]
      rw [e4, e5]
theorem floor_any (a b : Int) (w : World) (h0 : -1000000000000000 ≤ a) (h1 : a ≤ 1000000000000000) (hb : 0 < b) (hb1 : b ≤ 1000000) :
    Calls Tryd.prog 74 #[.int .i64 a, .int .i64 b] w fun e w' => e = .returned (.tuple #[.int .i64 (a / b), .int .i64 (a % b)]) ∧ Drawn0 w w' :=
  tree_floor.calls a b _ _ w (floor_f a b h0 h1 hb hb1)

set_option maxHeartbeats 2000000 in
theorem seconds_no (y m d h mi s : Int) (w : World) (hr : rightB y m d h mi s = false) :
    Calls Tryd.prog 56 #[.agg #[.int .i64 y, .int .i64 m, .int .i64 d, .int .i64 h, .int .i64 mi, .int .i64 s]] w fun e w' => e = .returned (.tuple #[.int .i64 0, .int .i64 2]) ∧ Below w.heap.size w w' := by
  have hc0 : ∀ w, Calls Tryd.prog 75 #[.agg #[.int .i64 y, .int .i64 m, .int .i64 d, .int .i64 h, .int .i64 mi, .int .i64 s]] w fun e w' => e = .returned (.bool false) ∧ Below w.heap.size w w' := by
    intro w; have := right_calls y m d h mi s w; rwa [hr] at this
  have H := Lib.hid hc0; clear hc0
  go_enter Tryd.func56, Tryd.ntmps56
  go_wp2_with (go_at_call 75; refine (H.out _).mono ?_; rintro e w1 ⟨rfl, hb1⟩)
  go_ret2
  exact ⟨rfl, bgo (balloc (Below.refl _ _) _) hb1⟩

set_option maxRecDepth 100000 in
set_option maxHeartbeats 4000000 in
theorem seconds_yes (y m d h mi s : Int) (w : World) (hr : rightB y m d h mi s = true) :
    Calls Tryd.prog 56 #[.agg #[.int .i64 y, .int .i64 m, .int .i64 d, .int .i64 h, .int .i64 mi, .int .i64 s]] w fun e w' => e = .returned (.tuple #[.int .i64 (secsR y m d h mi s).1, .int .i64 (secsR y m d h mi s).2]) ∧ Below w.heap.size w w' := by
  have hc0 : ∀ w, Calls Tryd.prog 75 #[.agg #[.int .i64 y, .int .i64 m, .int .i64 d, .int .i64 h, .int .i64 mi, .int .i64 s]] w fun e w' => e = .returned (.bool true) ∧ Below w.heap.size w w' := by
    intro w; have := right_calls y m d h mi s w; rwa [hr] at this
  have H := Lib.hid hc0; clear hc0
  unfold rightB at hr
  have hR := of_decide_eq_true hr
  clear hr
  obtain ⟨r1, r2, r3, r4, r5, r6, r7, r8, r9, r10, r11, r12⟩ := hR
  have hm31 := ml_bd y m
  have HR := Lib.hid (show secsR y m d h mi s = secsR y m d h mi s from rfl)
  have hd31 : d ≤ 31 := by omega
  clear r6
  have q4 : -40000 ≤ (y - 1) / 4 := by omega
  have q4' : (y - 1) / 4 ≤ 40000 := by omega
  have q100 : -40000 ≤ (y - 1) / 100 := by omega
  have q100' : (y - 1) / 100 ≤ 40000 := by omega
  have q400 : -40000 ≤ (y - 1) / 400 := by omega
  have q400' : (y - 1) / 400 ≤ 40000 := by omega
  have HY := Lib.hid (yd_bd y r1 r2)
  have HYd : Hid (365 * (y - 1) + (y - 1) / 4 - (y - 1) / 100 + (y - 1) / 400 - 719162 = yd y) := Lib.hid rfl
  go_enter Tryd.func56, Tryd.ntmps56
  go_wp2_with (first
    | (go_at_call 75; refine (H.out _).mono ?_; rintro e w1 ⟨rfl, hb1⟩; obtain ⟨hc, hf⟩ := bcell hb1)
    | (go_at_call 74; refine (floor_any _ _ _ (by omega) (by omega) (by omega) (by omega)).mono ?_; rintro e w2 ⟨rfl, ⟨nd, rfl⟩⟩))
  have hm1 : m = (((m - 1).toNat : Nat) : Int) + 1 := by omega
  have HM := Lib.hid hm1; clear hm1
  go_loopw [11, 12, 47] (fun a _ i wr => ∃ k : Nat, (k : Int) ≤ m - 1 ∧ a = .int .i64 (yd y + cum y k) ∧ i = .int .i64 k ∧ Below w1.heap.size w1 wr) (fun _ _ i _ => (m - 1 - intOf i).toNat)
  case atStart => exact ⟨0, by omega, by rw [← HYd.out]; simp [cum], rfl, by repeat (first | exact Below.refl _ _ | apply bdrewN)⟩
  case round =>
    obtain ⟨k, hk, rfl, rfl, hbr⟩ := hrel
    obtain ⟨hcr, hfr⟩ : (∀ b o, b < w1.heap.size → wr.cell? ⟨b, o, none⟩ = w1.cell? ⟨b, o, none⟩) ∧ (∀ b o, b < w1.heap.size → wr.frozen? ⟨b, o, none⟩ = w1.frozen? ⟨b, o, none⟩) := ⟨fun b o h => hbr.cell (p := ⟨b, o, none⟩) h, fun b o h => hbr.frozen (p := ⟨b, o, none⟩) h⟩
    have hsz : w.heap.size < w1.heap.size := by have := hb1.size; simp at this; omega
    have hcb := cum_bd y k
    have hyb := HY.out
    have hml := ml_bd y (k + 1)
    by_cases hlt : (k : Int) < m - 1
    · go_wp2_with (go_at_call 76; refine (long_calls _ _ _).mono ?_; rintro e w3 ⟨rfl, hb3⟩)
      go_roundw
      case rel => exact ⟨k + 1, by omega, by simp only [cum]; congr 1; omega, by go_num, bthen hbr hbr.size hb3⟩
      case measure => simp [intOf]; omega
    · have hke : m - 1 = (k : Int) := by omega
      have hcum : Hid (secs y m d h mi s = (yd y + cum y k + d - 1) * 86400 + h * 3600 + mi * 60 + s) := Lib.hid (by unfold secs; rw [hke, Int.toNat_natCast])
      clear hke
      by_cases h1 : (yd y + cum y k + d - 1) * 86400 + h * 3600 + mi * 60 + s < -1099511627776
      · have hres : Hid (secsR y m d h mi s = (0, 3)) := Lib.hid (by unfold secsR; rw [if_pos (by rw [hcum.out]; omega)])
        go_wp2
        go_ret2
        exact ⟨by rw [hres.out]; rfl, bgo (balloc (Below.refl _ _) _) (bthen hb1 hb1.size hbr)⟩
      by_cases h2 : 1099511627776 < (yd y + cum y k + d - 1) * 86400 + h * 3600 + mi * 60 + s
      · have hres : Hid (secsR y m d h mi s = (0, 3)) := Lib.hid (by unfold secsR; rw [if_pos (by rw [hcum.out]; omega)])
        go_wp2
        go_ret2
        exact ⟨by rw [hres.out]; rfl, bgo (balloc (Below.refl _ _) _) (bthen hb1 hb1.size hbr)⟩
      have hres : Hid (secsR y m d h mi s = ((yd y + cum y k + d - 1) * 86400 + h * 3600 + mi * 60 + s, 0)) := Lib.hid (by unfold secsR; rw [if_neg (by rw [hcum.out]; omega), hcum.out])
      go_wp2
      go_ret2
      exact ⟨by rw [hres.out]; rfl, bgo (balloc (Below.refl _ _) _) (bthen hb1 hb1.size hbr)⟩
/-- What tree.Seconds tells. -/
def secondsF (y m d h mi s : Int) : Int × Int := if rightB y m d h mi s then secsR y m d h mi s else (0, 2)
theorem seconds_calls (y m d h mi s : Int) (w : World) :
    Calls Tryd.prog 56 #[.agg #[.int .i64 y, .int .i64 m, .int .i64 d, .int .i64 h, .int .i64 mi, .int .i64 s]] w fun e w' => e = .returned (.tuple #[.int .i64 (secondsF y m d h mi s).1, .int .i64 (secondsF y m d h mi s).2]) ∧ Below w.heap.size w w' := by
  unfold secondsF
  by_cases hr : rightB y m d h mi s = true
  · rw [if_pos hr]; exact seconds_yes y m d h mi s w hr
  · rw [if_neg hr]; exact seconds_no y m d h mi s w (by simpa using hr)
theorem secondsF_bd (y m d h mi s : Int) : -1099511627776 ≤ (secondsF y m d h mi s).1 ∧ (secondsF y m d h mi s).1 ≤ 1099511627776 ∧ 0 ≤ (secondsF y m d h mi s).2 ∧ (secondsF y m d h mi s).2 ≤ 3 := by
  unfold secondsF
  split
  · unfold secsR
    split
    · refine ⟨?_, ?_, ?_, ?_⟩ <;> simp
    · refine ⟨?_, ?_, ?_, ?_⟩ <;> simp <;> omega
  · refine ⟨?_, ?_, ?_, ?_⟩ <;> simp

/-! ### OfDos -/
def ofDosF (date time : Int) : Int × Int :=
  if date < 0 ∨ 65535 < date ∨ time < 0 ∨ 65535 < time then (0, 11)
  else if (secondsF (1980 + date / 512) (date / 32 % 16) (date % 32) (time / 2048) (time / 32 % 64) (time % 32 * 2)).2 = 0 then ((secondsF (1980 + date / 512) (date / 32 % 16) (date % 32) (time / 2048) (time / 32 % 64) (time % 32 * 2)).1, 0) else (0, 11)
set_option maxHeartbeats 4000000 in
theorem ofDos_out (date time : Int) (w : World) (hr : date < 0 ∨ 65535 < date ∨ time < 0 ∨ 65535 < time) :
    Calls Tryd.prog 42 #[.int .i64 date, .int .i64 time] w fun e w' => e = .returned (.tuple #[.int .i64 0, .int .i64 11]) ∧ Below w.heap.size w w' := by
  by_cases r1 : date < 0
  · go_enter Tryd.func42, Tryd.ntmps42
    go_wp2
    go_ret2
    exact ⟨rfl, Below.refl _ _⟩
  by_cases r2 : 65535 < date
  · go_enter Tryd.func42, Tryd.ntmps42
    go_wp2
    go_ret2
    exact ⟨rfl, Below.refl _ _⟩
  by_cases r3 : time < 0
  · go_enter Tryd.func42, Tryd.ntmps42
    go_wp2
    go_ret2
    exact ⟨rfl, Below.refl _ _⟩
  have r4 : 65535 < time := by omega
  go_enter Tryd.func42, Tryd.ntmps42
  go_wp2
  go_ret2
  exact ⟨rfl, Below.refl _ _⟩
theorem ofInt_i64 (a : Nat) (ha : a < 9223372036854775808) : (BitVec.ofInt 64 (a : Int)).toNat = a := by
  rw [BitVec.ofInt_natCast, BitVec.toNat_ofNat]; exact Nat.mod_eq_of_lt (by omega)
theorem i64_and_nat (a b : Nat) (ha : a < 9223372036854775808) (hb : b < 9223372036854775808) : bits .and .i64 (a : Int) (b : Int) = ((a &&& b : Nat) : Int) := by
  have hx : a &&& b < 2 ^ 63 := Nat.and_lt_two_pow _ (by omega)
  show IntKind.i64.wrap ((BitVec.ofInt 64 (a : Int) &&& BitVec.ofInt 64 (b : Int)).toNat : Int) = _
  rw [BitVec.toNat_and, ofInt_i64 a ha, ofInt_i64 b hb, IntKind.wrap_i64]
  omega
theorem and15 (x : Int) (h0 : 0 ≤ x) (h1 : x < 65536) : bits .and .i64 x 15 = x % 16 := by
  obtain ⟨n, rfl⟩ := Int.eq_ofNat_of_zero_le h0
  rw [show (15 : Int) = ((15 : Nat) : Int) from rfl, i64_and_nat n 15 (by omega) (by omega), show (15 : Nat) = 2 ^ 4 - 1 from rfl, Nat.and_two_pow_sub_one_eq_mod]
  omega
theorem and31 (x : Int) (h0 : 0 ≤ x) (h1 : x < 65536) : bits .and .i64 x 31 = x % 32 := by
  obtain ⟨n, rfl⟩ := Int.eq_ofNat_of_zero_le h0
  rw [show (31 : Int) = ((31 : Nat) : Int) from rfl, i64_and_nat n 31 (by omega) (by omega), show (31 : Nat) = 2 ^ 5 - 1 from rfl, Nat.and_two_pow_sub_one_eq_mod]
  omega
theorem and63 (x : Int) (h0 : 0 ≤ x) (h1 : x < 65536) : bits .and .i64 x 63 = x % 64 := by
  obtain ⟨n, rfl⟩ := Int.eq_ofNat_of_zero_le h0
  rw [show (63 : Int) = ((63 : Nat) : Int) from rfl, i64_and_nat n 63 (by omega) (by omega), show (63 : Nat) = 2 ^ 6 - 1 from rfl, Nat.and_two_pow_sub_one_eq_mod]
  omega
set_option maxRecDepth 100000 in
set_option maxHeartbeats 4000000 in
theorem ofDos_in (date time : Int) (w : World) (h0 : 0 ≤ date) (h1 : date ≤ 65535) (h2 : 0 ≤ time) (h3 : time ≤ 65535) :
    Calls Tryd.prog 42 #[.int .i64 date, .int .i64 time] w fun e w' => e = .returned (.tuple #[.int .i64 (ofDosF date time).1, .int .i64 (ofDosF date time).2]) ∧ Below w.heap.size w w' := by
  have hb := secondsF_bd (1980 + date / 512) (date / 32 % 16) (date % 32) (time / 2048) (time / 32 % 64) (time % 32 * 2)
  have hF : Hid (ofDosF date time = if (secondsF (1980 + date / 512) (date / 32 % 16) (date % 32) (time / 2048) (time / 32 % 64) (time % 32 * 2)).2 = 0 then ((secondsF (1980 + date / 512) (date / 32 % 16) (date % 32) (time / 2048) (time / 32 % 64) (time % 32 * 2)).1, 0) else (0, 11)) := Lib.hid (by unfold ofDosF; rw [if_neg (by omega)])
  have hcs : ∀ w, Calls Tryd.prog 56 #[.agg #[.int .i64 (1980 + date / 512), .int .i64 (date / 32 % 16), .int .i64 (date % 32), .int .i64 (time / 2048), .int .i64 (time / 32 % 64), .int .i64 (time % 32 * 2)]] w fun e w' => e = .returned (.tuple #[.int .i64 (secondsF (1980 + date / 512) (date / 32 % 16) (date % 32) (time / 2048) (time / 32 % 64) (time % 32 * 2)).1, .int .i64 (secondsF (1980 + date / 512) (date / 32 % 16) (date % 32) (time / 2048) (time / 32 % 64) (time % 32 * 2)).2]) ∧ Below w.heap.size w w' := fun w => seconds_calls _ _ _ _ _ _ w
  generalize secondsF (1980 + date / 512) (date / 32 % 16) (date % 32) (time / 2048) (time / 32 % 64) (time % 32 * 2) = S at *
  have H := Lib.hid hcs; clear hcs
  have a1 := Lib.hid (and15 (date / 32) (by omega) (by omega))
  have a2 := Lib.hid (and31 date (by omega) (by omega))
  have a3 := Lib.hid (and63 (time / 32) (by omega) (by omega))
  have a4 := Lib.hid (and31 time (by omega) (by omega))
  have a5 : Hid (wrap64 (time % 32 * 2) = time % 32 * 2) := Lib.hid (by unfold wrap64; omega)
  by_cases hz : S.2 = 0
  · have hz1 : (S.2 != 0) = false := by simpa using hz
    have HZ := Lib.hid hz; clear hz
    go_enter Tryd.func42, Tryd.ntmps42
    go_wp2_with fail
    rw [a1.out, a2.out, a3.out, a4.out, a5.out]
    refine (H.out _).mono ?_
    rintro e w1 ⟨rfl, hb1⟩
    go_wp2
    go_ret2
    exact ⟨by rw [hF.out, if_pos HZ.out]; rfl, hb1⟩
  · have hz1 : (S.2 != 0) = true := by simpa using hz
    have HZ := Lib.hid hz; clear hz
    go_enter Tryd.func42, Tryd.ntmps42
    go_wp2_with fail
    rw [a1.out, a2.out, a3.out, a4.out, a5.out]
    refine (H.out _).mono ?_
    rintro e w1 ⟨rfl, hb1⟩
    go_wp2
    go_ret2
    exact ⟨by rw [hF.out, if_neg HZ.out]; rfl, hb1⟩
theorem ofDos_calls (date time : Int) (w : World) :
    Calls Tryd.prog 42 #[.int .i64 date, .int .i64 time] w fun e w' => e = .returned (.tuple #[.int .i64 (ofDosF date time).1, .int .i64 (ofDosF date time).2]) ∧ Below w.heap.size w w' := by
  by_cases h : date < 0 ∨ 65535 < date ∨ time < 0 ∨ 65535 < time
  · have : ofDosF date time = (0, 11) := by unfold ofDosF; rw [if_pos h]
    rw [this]; exact ofDos_out date time w h
  · exact ofDos_in date time w (by omega) (by omega) (by omega) (by omega)
end Go.Proofs.YtoiffnoiliknnaaDoor.Tim
