/- The walks of hamperref18.Seconds (a day that is right) and OfDos; the law TreeSeconds. -/
import Derived.Test.YtoiffnoiliknnaaDoorTimRef
set_option linter.unusedVariables false
namespace Go.Proofs.YtoiffnoiliknnaaDoor.Tim
open Go.RowKit Go.BigFrame Go.Proofs.YtoiffnoiliknnaaDoor.Reg Go.Proofs.YtoiffnoiliknnaaDoor.Plong Go.Proofs.YtoiffnoiliknnaaDoor.Pfloor Go.Proofs.YtoiffnoiliknnaaDoor.Pmonth Go.Proofs.YtoiffnoiliknnaaDoorW.PrintWords Go.Proofs.YtoiffnoiliknnaaDoorW.PrintLast Go.Proofs.YtoiffnoiliknnaaDoorW.PrintMore

theorem cum_400 (y : Int) : ∀ k, cum (y + 400) k = cum y k
  | 0 => rfl
  | k + 1 => by simp only [cum]; rw [cum_400 y k, ml_400]
theorem cum_same {y z : Int} (h : ∀ m, ml z m = ml y m) : ∀ k, cum z k = cum y k
  | 0 => rfl
  | k + 1 => by simp only [cum]; rw [cum_same h k, h]

set_option maxRecDepth 100000 in
set_option maxHeartbeats 8000000 in
theorem refsec_yes (y m d h mi s : Int) (w : World) (hr : rightB y m d h mi s = true) :
    Calls Tryd.prog 44 #[.agg #[.int .i64 y, .int .i64 m, .int .i64 d, .int .i64 h, .int .i64 mi, .int .i64 s]] w fun e w' => e = .returned (.tuple #[.int .i64 (secsR y m d h mi s).1, .int .i64 (secsR y m d h mi s).2]) ∧ Below w.heap.size w w' := by
  unfold rightB at hr
  have hR := of_decide_eq_true hr
  clear hr
  obtain ⟨r1, r2, r3, r4, r5, r6, r7, r8, r9, r10, r11, r12⟩ := hR
  have hm31 := ml_bd y m
  have hd31 : d ≤ 31 := by omega
  have HY := Lib.hid (yd_bd y r1 r2)
  have HM := Lib.hid (show m = (((m - 1).toNat : Nat) : Int) + 1 by omega)
  have a1 : decide (y < -40000) = false := decide_eq_false (by omega)
  have a2 : decide (40000 < y) = false := decide_eq_false (by omega)
  have a3 : decide (m < 1) = false := decide_eq_false (by omega)
  have a4 : decide (12 < m) = false := decide_eq_false (by omega)
  have a5 : decide (d < 1) = false := decide_eq_false (by omega)
  have a6 : decide (ml y m < d) = false := decide_eq_false (by omega)
  have a7 : decide (h < 0) = false := decide_eq_false (by omega)
  have a8 : decide (23 < h) = false := decide_eq_false (by omega)
  have a9 : decide (mi < 0) = false := decide_eq_false (by omega)
  have a10 : decide (59 < mi) = false := decide_eq_false (by omega)
  have a11 : decide (s < 0) = false := decide_eq_false (by omega)
  have a12 : decide (59 < s) = false := decide_eq_false (by omega)
  go_enter Tryd.func44, Tryd.ntmps44
  go_wp2
  go_quiet ((go_at_call 58; exact quiet_drawn (month_any _ _ _)))
  clear a1 a2 a3 a4 a5 a6 a7 a8 a9 a10 a11 a12 r6
  go_wp2
  go_loop [4, 5] (fun a b => ∃ z D : Int, a = .int .i64 z ∧ b = .int .i64 D ∧ Hid (D + yd z = yd y) ∧ -40000 ≤ z ∧ z ≤ 40000 ∧ -20000000 ≤ D ∧ D ≤ 20000000 ∧ Hid (∀ q, ml z q = ml y q)) (fun a _ => (2400 - intOf a).toNat)
  case atStart => exact ⟨y, 0, rfl, rfl, Lib.hid (by omega), by omega, by omega, by omega, by omega, Lib.hid (fun _ => rfl)⟩
  case round =>
    obtain ⟨z, D, rfl, rfl, hD, z0, z1, D0, D1, hml⟩ := hrel
    by_cases hlt : z < 1970
    · have hy2 : Hid (-20000000 ≤ D - 146097) := Lib.hid (by have := hD.out; have := yd_bd y r1 r2; unfold yd at this; have e := yd_400 z; have e2 := HY.out; have : yd z ≤ 0 := by { unfold yd; omega }; unfold yd at *; omega)
      go_wp2
      go_round
      case rel => exact ⟨z + 400, D - 146097, rfl, rfl, Lib.hid (by rw [yd_400]; have := hD.out; omega), by omega, by omega, hy2.out, by omega, Lib.hid (fun q => by rw [ml_400]; exact hml.out q)⟩
      case measure => simp [intOf]; omega
    · have z1970 : 1970 ≤ z := by omega
      clear hlt
      go_wp2
      go_loop [4, 5] (fun a b => ∃ z D : Int, a = .int .i64 z ∧ b = .int .i64 D ∧ Hid (D + yd z = yd y) ∧ 1970 ≤ z ∧ z ≤ 40000 ∧ -20000000 ≤ D ∧ D ≤ 20000000 ∧ Hid (∀ q, ml z q = ml y q)) (fun a _ => (intOf a).toNat)
      case atStart => exact ⟨z, D, rfl, rfl, hD, z1970, z1, D0, D1, hml⟩
      case round =>
        clear hD hml D0 D1 z1970 z0 z1
        obtain ⟨z2, D2, rfl, rfl, hD, z0, z1, D0, D1, hml⟩ := hrel
        by_cases hlt : 2370 ≤ z2
        · have hy2 : Hid (D2 + 146097 ≤ 20000000) := Lib.hid (by have h1 := hD.out; have h2 := HY.out; have : yd z2 ≥ 146097 := by { unfold yd; omega }; omega)
          go_wp2
          go_round
          case rel => exact ⟨z2 - 400, D2 + 146097, rfl, rfl, Lib.hid (by have := yd_400 (z2 - 400); rw [show z2 - 400 + 400 = z2 by omega] at this; have := hD.out; omega), by omega, by omega, by omega, hy2.out, Lib.hid (fun q => by have := ml_400 (z2 - 400) q; rw [show z2 - 400 + 400 = z2 by omega] at this; rw [← this]; exact hml.out q)⟩
          case measure => simp [intOf]; omega
        · have z2370 : z2 < 2370 := by omega
          clear hlt
          go_wp2
          refine wp_world ?_
          intro w0 hw0
          have c0 : w0.cell? ⟨w.heap.size, 0, none⟩ = some (.int .i64 y) := by rw [hw0]; go_simp
          have c1 : w0.cell? ⟨w.heap.size, 1, none⟩ = some (.int .i64 m) := by rw [hw0]; go_simp
          have c2 : w0.cell? ⟨w.heap.size, 2, none⟩ = some (.int .i64 d) := by rw [hw0]; go_simp
          have c3 : w0.cell? ⟨w.heap.size, 3, none⟩ = some (.int .i64 h) := by rw [hw0]; go_simp
          have c4 : w0.cell? ⟨w.heap.size, 4, none⟩ = some (.int .i64 mi) := by rw [hw0]; go_simp
          have c5 : w0.cell? ⟨w.heap.size, 5, none⟩ = some (.int .i64 s) := by rw [hw0]; go_simp
          have hbw : Below w.heap.size w w0 := by rw [hw0]; exact bdrewN (balloc (Below.refl _ _) _) _
          clear hw0
          go_loopw [5, 6] (fun b c wr => ∃ x E : Int, b = .int .i64 E ∧ c = .int .i64 x ∧ Hid (E = D2 + yd x) ∧ 1970 ≤ x ∧ x ≤ z2 ∧ -50000000 ≤ E ∧ E ≤ 50000000 ∧ Drawn0 w0 wr) (fun _ c _ => (z2 - intOf c).toNat)
          case atStart => exact ⟨1970, D2, rfl, rfl, Lib.hid (by rw [yd_1970]; omega), by omega, by omega, by omega, by omega, Drawn0.refl _⟩
          case round =>
            obtain ⟨x, E, rfl, rfl, hE, x0, x1, E0, E1, ⟨n, rfl⟩⟩ := hrel
            have hdl := dl_bd x
            by_cases hlt : x < z2
            · have hE2 : Hid (E + dl x = D2 + yd (x + 1)) := Lib.hid (by rw [yd_next, hE.out]; omega)
              have hEb : Hid (-50000000 ≤ E + dl x ∧ E + dl x ≤ 50000000) := Lib.hid (by have h1 := hE2.out; have := yd_bd (x + 1) (by omega) (by omega); omega)
              go_wp2_with (go_at_call 57; refine (days_any _ _).mono ?_; rintro e w3 ⟨rfl, ⟨nd, rfl⟩⟩)
              go_roundw
              case rel => exact ⟨x + 1, E + dl x, rfl, rfl, hE2, by omega, by omega, hEb.out.1, hEb.out.2, ⟨⟨_, rfl⟩⟩⟩
              case measure => simp [intOf]; omega
            · have hxe : Hid (E = yd y) := Lib.hid (by have h1 := hE.out; have h2 := hD.out; have hz : x = z2 := (by omega); rw [hz] at h1; omega)
              have hE0 : Hid (x = z2) := Lib.hid (by omega)
              clear hE
              go_wp2
              go_loopw [5, 7] (fun b c wr => ∃ k : Nat, (k : Int) ≤ m - 1 ∧ b = .int .i64 (E + cum z2 k) ∧ c = .int .i64 (k + 1) ∧ Drawn0 w0 wr) (fun _ c _ => (m - intOf c).toNat)
              case atStart => exact ⟨0, by omega, by simp [cum], rfl, ⟨⟨_, rfl⟩⟩⟩
              case round =>
                obtain ⟨k, hk, rfl, rfl, ⟨n2, rfl⟩⟩ := hrel
                have hcb := cum_bd z2 k
                have hml2 := ml_bd z2 (k + 1)
                by_cases hlk : (k : Int) < m - 1
                · have hlk' : (k : Int) + 1 < m := by omega
                  go_wp2_with (go_at_call 58; refine (month_any _ _ _).mono ?_; rintro e w3 ⟨rfl, ⟨nd, rfl⟩⟩)
                  go_roundw
                  case rel => exact ⟨k + 1, by omega, by simp only [cum]; congr 1; omega, by go_num, ⟨⟨_, rfl⟩⟩⟩
                  case measure => simp [intOf]; omega
                · have hke : m - 1 = (k : Int) := by omega
                  have hcum : Hid (secs y m d h mi s = (E + cum z2 k + d - 1) * 86400 + h * 3600 + mi * 60 + s) := Lib.hid (by unfold secs; rw [hke, Int.toNat_natCast, hxe.out, cum_same hml.out])
                  have hnl : ¬ (k : Int) + 1 < m := by omega
                  clear hke
                  by_cases h1 : (E + cum z2 k + d - 1) * 86400 + h * 3600 + mi * 60 + s < -1099511627776
                  · have hres : Hid (secsR y m d h mi s = (0, 3)) := Lib.hid (by unfold secsR; rw [if_pos (by rw [hcum.out]; omega)])
                    go_wp2
                    go_ret2
                    exact ⟨by rw [hres.out]; rfl, bdrewN hbw _⟩
                  by_cases h2 : 1099511627776 < (E + cum z2 k + d - 1) * 86400 + h * 3600 + mi * 60 + s
                  · have hres : Hid (secsR y m d h mi s = (0, 3)) := Lib.hid (by unfold secsR; rw [if_pos (by rw [hcum.out]; omega)])
                    go_wp2
                    go_ret2
                    exact ⟨by rw [hres.out]; rfl, bdrewN hbw _⟩
                  have hres : Hid (secsR y m d h mi s = ((E + cum z2 k + d - 1) * 86400 + h * 3600 + mi * 60 + s, 0)) := Lib.hid (by unfold secsR; rw [if_neg (by rw [hcum.out]; omega), hcum.out])
                  go_wp2
                  go_ret2
                  exact ⟨by rw [hres.out]; rfl, bdrewN hbw _⟩
theorem refsec_calls (y m d h mi s : Int) (w : World) :
    Calls Tryd.prog 44 #[.agg #[.int .i64 y, .int .i64 m, .int .i64 d, .int .i64 h, .int .i64 mi, .int .i64 s]] w fun e w' => e = .returned (.tuple #[.int .i64 (secondsF y m d h mi s).1, .int .i64 (secondsF y m d h mi s).2]) ∧ Below w.heap.size w w' := by
  unfold secondsF
  by_cases hr : rightB y m d h mi s = true
  · rw [if_pos hr]; exact refsec_yes y m d h mi s w hr
  · rw [if_neg hr]; exact refsec_no y m d h mi s w (by simpa using hr)

/-! ### OfDos -/
set_option maxHeartbeats 4000000 in
theorem refOfDos_out (date time : Int) (w : World) (hr : date < 0 ∨ 65535 < date ∨ time < 0 ∨ 65535 < time) :
    Calls Tryd.prog 22 #[.int .i64 date, .int .i64 time] w fun e w' => e = .returned (.tuple #[.int .i64 0, .int .i64 11]) ∧ Below w.heap.size w w' := by
  by_cases r1 : date < 0
  · go_enter Tryd.func22, Tryd.ntmps22
    go_wp2
    go_ret2
    exact ⟨rfl, Below.refl _ _⟩
  by_cases r2 : 65535 < date
  · go_enter Tryd.func22, Tryd.ntmps22
    go_wp2
    go_ret2
    exact ⟨rfl, Below.refl _ _⟩
  by_cases r3 : time < 0
  · go_enter Tryd.func22, Tryd.ntmps22
    go_wp2
    go_ret2
    exact ⟨rfl, Below.refl _ _⟩
  have r4 : 65535 < time := by omega
  go_enter Tryd.func22, Tryd.ntmps22
  go_wp2
  go_ret2
  exact ⟨rfl, Below.refl _ _⟩
set_option maxRecDepth 100000 in
set_option maxHeartbeats 4000000 in
theorem refOfDos_in (date time : Int) (w : World) (h0 : 0 ≤ date) (h1 : date ≤ 65535) (h2 : 0 ≤ time) (h3 : time ≤ 65535) :
    Calls Tryd.prog 22 #[.int .i64 date, .int .i64 time] w fun e w' => e = .returned (.tuple #[.int .i64 (ofDosF date time).1, .int .i64 (ofDosF date time).2]) ∧ Below w.heap.size w w' := by
  have hb := secondsF_bd (1980 + date / 512) (date / 32 % 16) (date % 32) (time / 2048) (time / 32 % 64) (time % 32 * 2)
  have hF : Hid (ofDosF date time = if (secondsF (1980 + date / 512) (date / 32 % 16) (date % 32) (time / 2048) (time / 32 % 64) (time % 32 * 2)).2 = 0 then ((secondsF (1980 + date / 512) (date / 32 % 16) (date % 32) (time / 2048) (time / 32 % 64) (time % 32 * 2)).1, 0) else (0, 11)) := Lib.hid (by unfold ofDosF; rw [if_neg (by omega)])
  have hcs : ∀ w, Calls Tryd.prog 44 #[.agg #[.int .i64 (1980 + date / 512), .int .i64 (date / 32 % 16), .int .i64 (date % 32), .int .i64 (time / 2048), .int .i64 (time / 32 % 64), .int .i64 (time % 32 * 2)]] w fun e w' => e = .returned (.tuple #[.int .i64 (secondsF (1980 + date / 512) (date / 32 % 16) (date % 32) (time / 2048) (time / 32 % 64) (time % 32 * 2)).1, .int .i64 (secondsF (1980 + date / 512) (date / 32 % 16) (date % 32) (time / 2048) (time / 32 % 64) (time % 32 * 2)).2]) ∧ Below w.heap.size w w' := fun w => refsec_calls _ _ _ _ _ _ w
  generalize secondsF (1980 + date / 512) (date / 32 % 16) (date % 32) (time / 2048) (time / 32 % 64) (time % 32 * 2) = S at *
  have H := Lib.hid hcs; clear hcs
  by_cases hz : S.2 = 0
  · have hz1 : (S.2 != 0) = false := by simpa using hz
    have HZ := Lib.hid hz; clear hz
    go_enter Tryd.func22, Tryd.ntmps22
    go_wp2_with fail
    refine (H.out _).mono ?_
    rintro e w1 ⟨rfl, hb1⟩
    go_wp2
    go_ret2
    exact ⟨by rw [hF.out, if_pos HZ.out]; rfl, hb1⟩
  · have hz1 : (S.2 != 0) = true := by simpa using hz
    have HZ := Lib.hid hz; clear hz
    go_enter Tryd.func22, Tryd.ntmps22
    go_wp2_with fail
    refine (H.out _).mono ?_
    rintro e w1 ⟨rfl, hb1⟩
    go_wp2
    go_ret2
    exact ⟨by rw [hF.out, if_neg HZ.out]; rfl, hb1⟩
theorem refOfDos_calls (date time : Int) (w : World) :
    Calls Tryd.prog 22 #[.int .i64 date, .int .i64 time] w fun e w' => e = .returned (.tuple #[.int .i64 (ofDosF date time).1, .int .i64 (ofDosF date time).2]) ∧ Below w.heap.size w w' := by
  by_cases h : date < 0 ∨ 65535 < date ∨ time < 0 ∨ 65535 < time
  · have : ofDosF date time = (0, 11) := by unfold ofDosF; rw [if_pos h]
    rw [this]; exact refOfDos_out date time w h
  · exact refOfDos_in date time w (by omega) (by omega) (by omega) (by omega)
end Go.Proofs.YtoiffnoiliknnaaDoor.Tim
