-- PRINTED BY print.sh 35421559b90ae4d0a3588c463048766b98c2df88dd9212a6774a882060cdf62d: not written by this session
import Derived.Test.YtmecigllpdeeoaaPNumberTurnsx0
namespace Go.Proofs.Ytmecigllpdeeoaa.PNumberTurns
open Go.RowKit Go.Proofs.YtmecigllpdeeoaaW.PrintWords Go.Proofs.YtmecigllpdeeoaaW.PrintLast Go.Proofs.YtmecigllpdeeoaaW.PrintMore
attribute [local go_sem] max2_int min2_int max_two min_two max_three min_three max_four min_four   -- for this text's walks alone
set_option linter.unusedVariables false
set_option linter.unusedSimpArgs false

/-! ### number_Add: function 11 -/
def number_Add.f (a0 : Int) (a1 : Int) : Option (Int × Bool) := if ((decide ((wrap64 (a0 + a1)) > a0)) != (decide (a1 > 0))) = true then (if a1 = 0 then (some (wrap64 (a0 + a1), true)) else (some (0, false))) else (some (wrap64 (a0 + a1), true))
set_option maxHeartbeats 8000000 in
set_option maxRecDepth 100000 in
theorem number_Add.calls (a0 : Int) (a1 : Int) (r1 : Int) (r2 : Bool) (w : World) (h : number_Add.f a0 a1 = some (r1, r2)) :
    Calls Try.prog 11 #[.int .i64 a0, .int .i64 a1] w fun e w' => e = .returned (.tuple #[.int .i64 r1, .bool r2]) ∧ Drawn0 w w' := by
  have H : (if ((decide ((wrap64 (a0 + a1)) > a0)) != (decide (a1 > 0))) = true then (if a1 = 0 then (some (wrap64 (a0 + a1), true)) else (some (0, false))) else (some (wrap64 (a0 + a1), true))) = some (r1, r2) := h
  clear h
  by_cases c3 : ((decide ((wrap64 (a0 + a1)) > a0)) != (decide (a1 > 0))) = true
  · rw [if_pos c3] at H
    have c3b0 : ((decide ((wrap64 (a0 + a1)) > a0)) != (decide (a1 > 0))) = true := c3
    (try (have c3b1 : decide ((decide ((wrap64 (a0 + a1)) > a0)) = (decide (a1 > 0))) = false := by simpa using c3))
    (try (have c3b2 : ((decide ((wrap64 (a0 + a1)) > a0)) == (decide (a1 > 0))) = false := by simpa using c3))
    (try (have c3b3 : ¬ ((decide ((wrap64 (a0 + a1)) > a0)) = (decide (a1 > 0))) := by simpa using c3))
    clear c3
    by_cases c4 : a1 = 0
    · rw [if_pos c4] at H
      have c4b0 : (a1 == 0) = true := beq_iff_eq.mpr c4
      have c4b1 : (a1 != 0) = false := bne_eq_false_iff_eq.mpr c4
      clear c4
      simp only [Option.some.injEq, Prod.mk.injEq] at H
      obtain ⟨rfl, rfl⟩ := H
      go_enter Try.func11, Try.ntmps11
      go_wp2
      go_ret2
      exact ⟨by first | rfl | (simp; done) | (simp [*]; done), by repeat (first | exact Drawn0.refl _ | apply Drawn0.step)⟩
    · rw [if_neg c4] at H
      have c4b0 : (a1 == 0) = false := beq_eq_false_iff_ne.mpr c4
      have c4b1 : (a1 != 0) = true := bne_iff_ne.mpr c4
      simp only [Option.some.injEq, Prod.mk.injEq] at H
      obtain ⟨rfl, rfl⟩ := H
      go_enter Try.func11, Try.ntmps11
      go_wp2
      go_ret2
      exact ⟨by first | rfl | (simp; done) | (simp [*]; done), by repeat (first | exact Drawn0.refl _ | apply Drawn0.step)⟩
  · rw [if_neg c3] at H
    have c3b0 : ((decide ((wrap64 (a0 + a1)) > a0)) != (decide (a1 > 0))) = false := by simpa using c3
    (try (have c3b1 : decide ((decide ((wrap64 (a0 + a1)) > a0)) = (decide (a1 > 0))) = true := by simpa using c3))
    (try (have c3b2 : ((decide ((wrap64 (a0 + a1)) > a0)) == (decide (a1 > 0))) = true := by simpa using c3))
    clear c3
    simp only [Option.some.injEq, Prod.mk.injEq] at H
    obtain ⟨rfl, rfl⟩ := H
    go_enter Try.func11, Try.ntmps11
    go_wp2
    go_ret2
    exact ⟨by first | rfl | (simp; done) | (simp [*]; done), by repeat (first | exact Drawn0.refl _ | apply Drawn0.step)⟩

/-! ### number_Mul: function 12 -/
mutual
def number_Mul.j0 : Nat → Int → Int → Bool → Option (Int × Bool)
  | 0, _, _, _ => none
  | k + 1, x0, x1, x12 => if x12 = true then (some (0, true)) else (if x0 = (-1) then (if x1 = (-9223372036854775808) then (number_Mul.j1 k x0 x1 true) else (if x1 = (-1) then (number_Mul.j1 k x0 x1 (x0 == (-9223372036854775808))) else (number_Mul.j1 k x0 x1 false))) else (if x1 = (-1) then (number_Mul.j1 k x0 x1 (x0 == (-9223372036854775808))) else (number_Mul.j1 k x0 x1 false)))
def number_Mul.j1 : Nat → Int → Int → Bool → Option (Int × Bool)
  | 0, _, _, _ => none
  | k + 1, x0, x1, x26 => if x26 = true then (some (0, false)) else (if x0 = 0 then (none) else (if (wrap64 (Int.tdiv (wrap64 (x0 * x1)) x0)) = x1 then (some (wrap64 (x0 * x1), true)) else (some (0, false))))
end
def number_Mul.f (k : Nat) (a0 : Int) (a1 : Int) : Option (Int × Bool) := if a0 = 0 then (number_Mul.j0 k a0 a1 true) else (number_Mul.j0 k a0 a1 (a1 == 0))
theorem number_Mul.mono_l : ∀ k, (∀ y0 y1 y2, LeO (number_Mul.j0 k y0 y1 y2) (number_Mul.j0 (k + 1) y0 y1 y2)) ∧ (∀ y0 y1 y2, LeO (number_Mul.j1 k y0 y1 y2) (number_Mul.j1 (k + 1) y0 y1 y2))
  | 0 => ⟨fun _ _ _ r h => by simp [number_Mul.j0] at h, fun _ _ _ r h => by simp [number_Mul.j1] at h⟩
  | k + 1 => by
    obtain ⟨ih0, ih1⟩ := number_Mul.mono_l k
    refine ⟨?_, ?_⟩
    · intro y0 y1 y2
      unfold number_Mul.j0
      repeat' first
      | (with_reducible exact ih0 _ _ _)
      | (with_reducible exact ih1 _ _ _)
      | (with_reducible exact LeO.refl _)
      | (with_reducible exact LeO.none _)
      | (with_reducible refine LeO.ite ?_ ?_)
      | (with_reducible refine LeO.bind ?_ (fun _ => ?_))
      | exact ih0 _ _ _
      | exact ih1 _ _ _
      | exact LeO.none _
      | refine LeO.ite ?_ ?_
      | refine LeO.bind ?_ (fun _ => ?_)
    · intro y0 y1 y2
      unfold number_Mul.j1
      repeat' first
      | (with_reducible exact ih0 _ _ _)
      | (with_reducible exact ih1 _ _ _)
      | (with_reducible exact LeO.refl _)
      | (with_reducible exact LeO.none _)
      | (with_reducible refine LeO.ite ?_ ?_)
      | (with_reducible refine LeO.bind ?_ (fun _ => ?_))
      | exact ih0 _ _ _
      | exact ih1 _ _ _
      | exact LeO.none _
      | refine LeO.ite ?_ ?_
      | refine LeO.bind ?_ (fun _ => ?_)
theorem number_Mul.mono : ∀ a0 a1 k, LeO (number_Mul.f k a0 a1) (number_Mul.f (k + 1) a0 a1) := by
  intro a0 a1 k
  obtain ⟨ih0, ih1⟩ := number_Mul.mono_l k
  unfold number_Mul.f
  repeat' first
      | (with_reducible exact ih0 _ _ _)
      | (with_reducible exact ih1 _ _ _)
      | (with_reducible exact LeO.refl _)
      | (with_reducible exact LeO.none _)
      | (with_reducible refine LeO.ite ?_ ?_)
      | (with_reducible refine LeO.bind ?_ (fun _ => ?_))
      | exact ih0 _ _ _
      | exact ih1 _ _ _
      | exact LeO.none _
      | refine LeO.ite ?_ ?_
      | refine LeO.bind ?_ (fun _ => ?_)
set_option maxHeartbeats 8000000 in
set_option maxRecDepth 100000 in
theorem number_Mul.calls (k : Nat) (a0 : Int) (a1 : Int) (r1 : Int) (r2 : Bool) (w : World) (h : number_Mul.f k a0 a1 = some (r1, r2)) :
    Calls Try.prog 12 #[.int .i64 a0, .int .i64 a1] w fun e w' => e = .returned (.tuple #[.int .i64 r1, .bool r2]) ∧ Drawn0 w w' := by
  have H : (if a0 = 0 then (number_Mul.j0 k a0 a1 true) else (number_Mul.j0 k a0 a1 (a1 == 0))) = some (r1, r2) := h
  clear h
  have HC3 := Aside0.mk H
  clear H
  go_enter Try.func12, Try.ntmps12
  go_upto_region 1 with (fail)
  go_cut [12] (fun v12 wc => ∃ (kq : Nat) (x12_2 : Bool), v12 = .bool x12_2 ∧ Aside0 (number_Mul.j0 kq a0 a1 x12_2 = some (r1, r2)) ∧ Aside0 (kq ≤ k) ∧ Drawn0 w wc)
  case first =>
    have H := HC3.out
    clear HC3
    by_cases c4 : a0 = 0
    · rw [if_pos c4] at H
      have c4b0 : (a0 == 0) = true := beq_iff_eq.mpr c4
      have c4b1 : (a0 != 0) = false := bne_eq_false_iff_eq.mpr c4
      clear c4
      (first | rw [c4b0] | (simp only [i64_w, i32_w]; rw [c4b0]) | skip)
      have H' := Aside0.mk H
      clear H
      go_wp2
      go_meet
      case rel => exact ⟨_, (true), (by first | rfl | (simp; done) | (simp [*]; done)), H', ⟨by first | omega | exact Nat.le_refl _⟩, by repeat (first | exact Drawn0.refl _ | apply Drawn0.step)⟩
    · rw [if_neg c4] at H
      have c4b0 : (a0 == 0) = false := beq_eq_false_iff_ne.mpr c4
      have c4b1 : (a0 != 0) = true := bne_iff_ne.mpr c4
      (first | rw [c4b0] | (simp only [i64_w, i32_w]; rw [c4b0]) | skip)
      have H' := Aside0.mk H
      clear H
      go_wp2
      go_meet
      case rel => exact ⟨_, ((a1 == 0)), (by first | rfl | (simp; done) | (simp [*]; done)), H', ⟨by first | omega | exact Nat.le_refl _⟩, by repeat (first | exact Drawn0.refl _ | apply Drawn0.step)⟩
  case rest =>
    clear HC3
    try clear c1
    try clear p2
    try clear c4
    try clear c4b0
    try clear c4b1
    obtain ⟨kq, x12_2, rfl, HA, HJ2, ⟨mc2, rfl⟩⟩ := hcut
    cases kq with
    | zero => exact absurd HA.out (by simp [number_Mul.j0])
    | succ kj2 =>
      have H := HA.out
      clear HA
      simp only [number_Mul.j0] at H
      by_cases c5 : x12_2 = true
      · subst c5
        have H1 : (some (0, true)) = some (r1, r2) := by rw [if_pos rfl] at H; exact H
        clear H
        have H := H1
        clear H1
        simp only [Option.some.injEq, Prod.mk.injEq] at H
        obtain ⟨rfl, rfl⟩ := H
        go_wp2
        go_ret2
        exact ⟨by first | rfl | (simp; done) | (simp [*]; done), by repeat (first | exact Drawn0.refl _ | apply Drawn0.step)⟩
      · replace c5 := Bool.eq_false_iff.mpr c5
        subst c5
        have H1 : (if a0 = (-1) then (if a1 = (-9223372036854775808) then (number_Mul.j1 kj2 a0 a1 true) else (if a1 = (-1) then (number_Mul.j1 kj2 a0 a1 (a0 == (-9223372036854775808))) else (number_Mul.j1 kj2 a0 a1 false))) else (if a1 = (-1) then (number_Mul.j1 kj2 a0 a1 (a0 == (-9223372036854775808))) else (number_Mul.j1 kj2 a0 a1 false))) = some (r1, r2) := by rw [if_neg (show ¬ (false = true) by decide)] at H; exact H
        clear H
        have H := H1
        clear H1
        have HC6 := Aside0.mk H
        clear H
        go_upto_region 3 with (fail)
        go_cut [26] (fun v26 wc => ∃ (kq : Nat) (x26_5 : Bool), v26 = .bool x26_5 ∧ Aside0 (number_Mul.j1 kq a0 a1 x26_5 = some (r1, r2)) ∧ Aside0 (kq ≤ kj2) ∧ Drawn0 w wc)
        case first =>
          have H := HC6.out
          clear HC6
          by_cases c7 : a0 = (-1)
          · rw [if_pos c7] at H
            have c7b0 : (a0 == (-1)) = true := beq_iff_eq.mpr c7
            have c7b1 : (a0 != (-1)) = false := bne_eq_false_iff_eq.mpr c7
            clear c7
            (first | rw [c7b0] | (simp only [i64_w, i32_w]; rw [c7b0]) | skip)
            by_cases c8 : a1 = (-9223372036854775808)
            · rw [if_pos c8] at H
              have c8b0 : (a1 == (-9223372036854775808)) = true := beq_iff_eq.mpr c8
              have c8b1 : (a1 != (-9223372036854775808)) = false := bne_eq_false_iff_eq.mpr c8
              clear c8
              have H' := Aside0.mk H
              clear H
              go_wp2
              go_meet
              case rel => exact ⟨_, (true), (by first | rfl | (simp; done) | (simp [*]; done)), H', ⟨by have := HJ2.out; first | omega | exact Nat.le_refl _⟩, by repeat (first | exact Drawn0.refl _ | apply Drawn0.step)⟩
            · rw [if_neg c8] at H
              have c8b0 : (a1 == (-9223372036854775808)) = false := beq_eq_false_iff_ne.mpr c8
              have c8b1 : (a1 != (-9223372036854775808)) = true := bne_iff_ne.mpr c8
              by_cases c9 : a1 = (-1)
              · rw [if_pos c9] at H
                have c9b0 : (a1 == (-1)) = true := beq_iff_eq.mpr c9
                have c9b1 : (a1 != (-1)) = false := bne_eq_false_iff_eq.mpr c9
                clear c9
                have H' := Aside0.mk H
                clear H
                go_wp2
                go_meet
                case rel => exact ⟨_, ((a0 == (-9223372036854775808))), (by first | rfl | (simp; done) | (simp [*]; done)), H', ⟨by have := HJ2.out; first | omega | exact Nat.le_refl _⟩, by repeat (first | exact Drawn0.refl _ | apply Drawn0.step)⟩
              · rw [if_neg c9] at H
                have c9b0 : (a1 == (-1)) = false := beq_eq_false_iff_ne.mpr c9
                have c9b1 : (a1 != (-1)) = true := bne_iff_ne.mpr c9
                have H' := Aside0.mk H
                clear H
                go_wp2
                go_meet
                case rel => exact ⟨_, (false), (by first | rfl | (simp; done) | (simp [*]; done)), H', ⟨by have := HJ2.out; first | omega | exact Nat.le_refl _⟩, by repeat (first | exact Drawn0.refl _ | apply Drawn0.step)⟩
          · rw [if_neg c7] at H
            have c7b0 : (a0 == (-1)) = false := beq_eq_false_iff_ne.mpr c7
            have c7b1 : (a0 != (-1)) = true := bne_iff_ne.mpr c7
            (first | rw [c7b0] | (simp only [i64_w, i32_w]; rw [c7b0]) | skip)
            by_cases c10 : a1 = (-1)
            · rw [if_pos c10] at H
              have c10b0 : (a1 == (-1)) = true := beq_iff_eq.mpr c10
              have c10b1 : (a1 != (-1)) = false := bne_eq_false_iff_eq.mpr c10
              clear c10
              have H' := Aside0.mk H
              clear H
              go_wp2
              go_meet
              case rel => exact ⟨_, ((a0 == (-9223372036854775808))), (by first | rfl | (simp; done) | (simp [*]; done)), H', ⟨by have := HJ2.out; first | omega | exact Nat.le_refl _⟩, by repeat (first | exact Drawn0.refl _ | apply Drawn0.step)⟩
            · rw [if_neg c10] at H
              have c10b0 : (a1 == (-1)) = false := beq_eq_false_iff_ne.mpr c10
              have c10b1 : (a1 != (-1)) = true := bne_iff_ne.mpr c10
              have H' := Aside0.mk H
              clear H
              go_wp2
              go_meet
              case rel => exact ⟨_, (false), (by first | rfl | (simp; done) | (simp [*]; done)), H', ⟨by have := HJ2.out; first | omega | exact Nat.le_refl _⟩, by repeat (first | exact Drawn0.refl _ | apply Drawn0.step)⟩
        case rest =>
          clear HC6
          try clear c1
          try clear c2
          try clear p2
          try clear c4
          try clear c4b0
          try clear c4b1
          try clear c5
          try clear c7
          try clear c7b0
          try clear c7b1
          try clear c8
          try clear c8b0
          try clear c8b1
          try clear c9
          try clear c9b0
          try clear c9b1
          try clear c10
          try clear c10b0
          try clear c10b1
          try clear p2
          obtain ⟨kq, x26_5, rfl, HA, HJ5, ⟨mc5, rfl⟩⟩ := hcut
          cases kq with
          | zero => exact absurd HA.out (by simp [number_Mul.j1])
          | succ kj5 =>
            have H := HA.out
            clear HA
            simp only [number_Mul.j1] at H
            by_cases c11 : x26_5 = true
            · subst c11
              have H1 : (some (0, false)) = some (r1, r2) := by rw [if_pos rfl] at H; exact H
              clear H
              have H := H1
              clear H1
              simp only [Option.some.injEq, Prod.mk.injEq] at H
              obtain ⟨rfl, rfl⟩ := H
              go_wp2
              go_ret2
              exact ⟨by first | rfl | (simp; done) | (simp [*]; done), by repeat (first | exact Drawn0.refl _ | apply Drawn0.step)⟩
            · replace c11 := Bool.eq_false_iff.mpr c11
              subst c11
              have H1 : (if a0 = 0 then (none) else (if (wrap64 (Int.tdiv (wrap64 (a0 * a1)) a0)) = a1 then (some (wrap64 (a0 * a1), true)) else (some (0, false)))) = some (r1, r2) := by rw [if_neg (show ¬ (false = true) by decide)] at H; exact H
              clear H
              have H := H1
              clear H1
              by_cases c12 : a0 = 0
              · rw [if_pos c12] at H
                exact absurd H (by simp)
              · rw [if_neg c12] at H
                have c12b0 : (a0 == 0) = false := beq_eq_false_iff_ne.mpr c12
                have c12b1 : (a0 != 0) = true := bne_iff_ne.mpr c12
                by_cases c13 : (wrap64 (Int.tdiv (wrap64 (a0 * a1)) a0)) = a1
                · rw [if_pos c13] at H
                  have c13b0 : ((wrap64 (Int.tdiv (wrap64 (a0 * a1)) a0)) == a1) = true := beq_iff_eq.mpr c13
                  have c13b1 : ((wrap64 (Int.tdiv (wrap64 (a0 * a1)) a0)) != a1) = false := bne_eq_false_iff_eq.mpr c13
                  clear c13
                  simp only [Option.some.injEq, Prod.mk.injEq] at H
                  obtain ⟨rfl, rfl⟩ := H
                  go_wp2
                  go_ret2
                  exact ⟨by first | rfl | (simp; done) | (simp [*]; done), by repeat (first | exact Drawn0.refl _ | apply Drawn0.step)⟩
                · rw [if_neg c13] at H
                  have c13b0 : ((wrap64 (Int.tdiv (wrap64 (a0 * a1)) a0)) == a1) = false := beq_eq_false_iff_ne.mpr c13
                  have c13b1 : ((wrap64 (Int.tdiv (wrap64 (a0 * a1)) a0)) != a1) = true := bne_iff_ne.mpr c13
                  simp only [Option.some.injEq, Prod.mk.injEq] at H
                  obtain ⟨rfl, rfl⟩ := H
                  go_wp2
                  go_ret2
                  exact ⟨by first | rfl | (simp; done) | (simp [*]; done), by repeat (first | exact Drawn0.refl _ | apply Drawn0.step)⟩

/-! ### hamperlaw02_NumberTurns: function 4 -/
def hamperlaw02_NumberTurns.j0 : Nat → Int → Int → Int → Bool → Bool → Option (Bool)
  | 0, _, _, _, _, _ => none
  | k + 1, x0, x1, x9, x10, x82 => if x82 = true then (some false) else (if x10 = true then (if x1 = 0 then ((number_Mul.f k 3 (-5)).bind fun bt109 => (if bt109.1 = (-15) then (some bt109.2) else (some false))) else (if (Int.tmod x9 x1) = 0 then (if (wrap64 (Int.tdiv x9 x1)) = x0 then ((number_Mul.f k 3 (-5)).bind fun bt111 => (if bt111.1 = (-15) then (some bt111.2) else (some false))) else (some false)) else (some false))) else ((number_Mul.f k 3 (-5)).bind fun bt113 => (if bt113.1 = (-15) then (some bt113.2) else (some false))))
def hamperlaw02_NumberTurns.f (k : Nat) (a0 : Int) (a1 : Int) : Option (Bool) := (number_Add.f a0 a1).bind fun bt101 => ((number_Add.f a1 a0).bind fun bt103 => ((number_Mul.f k a0 a1).bind fun bt105 => ((number_Mul.f k a1 a0).bind fun bt107 => (if bt101.1 = bt103.1 then (if (bt101.2 != bt103.2) = true then (hamperlaw02_NumberTurns.j0 k a0 a1 bt105.1 bt105.2 true) else (if bt105.1 = bt107.1 then (if (bt105.2 != bt107.2) = true then (hamperlaw02_NumberTurns.j0 k a0 a1 bt105.1 bt105.2 true) else (if bt101.2 = true then (if (wrap64 (bt101.1 - a1)) = a0 then (if bt105.2 = true then (hamperlaw02_NumberTurns.j0 k a0 a1 bt105.1 bt105.2 false) else (hamperlaw02_NumberTurns.j0 k a0 a1 bt105.1 bt105.2 (bt105.1 != 0))) else (hamperlaw02_NumberTurns.j0 k a0 a1 bt105.1 bt105.2 true)) else (if bt101.1 = 0 then (if bt105.2 = true then (hamperlaw02_NumberTurns.j0 k a0 a1 bt105.1 bt105.2 false) else (hamperlaw02_NumberTurns.j0 k a0 a1 bt105.1 bt105.2 (bt105.1 != 0))) else (hamperlaw02_NumberTurns.j0 k a0 a1 bt105.1 bt105.2 true)))) else (hamperlaw02_NumberTurns.j0 k a0 a1 bt105.1 bt105.2 true))) else (hamperlaw02_NumberTurns.j0 k a0 a1 bt105.1 bt105.2 true)))))
theorem hamperlaw02_NumberTurns.mono_l : ∀ k, (∀ y0 y1 y2 y3 y4, LeO (hamperlaw02_NumberTurns.j0 k y0 y1 y2 y3 y4) (hamperlaw02_NumberTurns.j0 (k + 1) y0 y1 y2 y3 y4))
  | 0 => fun _ _ _ _ _ r h => by simp [hamperlaw02_NumberTurns.j0] at h
  | k + 1 => by
    have ih0 := hamperlaw02_NumberTurns.mono_l k
    · intro y0 y1 y2 y3 y4
      unfold hamperlaw02_NumberTurns.j0
      repeat' first
      | (with_reducible exact ih0 _ _ _ _ _)
      | (with_reducible exact number_Mul.mono _ _ _)
      | (with_reducible exact LeO.refl _)
      | (with_reducible exact LeO.none _)
      | (with_reducible refine LeO.ite ?_ ?_)
      | (with_reducible refine LeO.bind ?_ (fun _ => ?_))
      | exact ih0 _ _ _ _ _
      | exact number_Mul.mono _ _ _
      | exact LeO.none _
      | refine LeO.ite ?_ ?_
      | refine LeO.bind ?_ (fun _ => ?_)
theorem hamperlaw02_NumberTurns.mono : ∀ a0 a1 k, LeO (hamperlaw02_NumberTurns.f k a0 a1) (hamperlaw02_NumberTurns.f (k + 1) a0 a1) := by
  intro a0 a1 k
  have ih0 := hamperlaw02_NumberTurns.mono_l k
  unfold hamperlaw02_NumberTurns.f
  repeat' first
      | (with_reducible exact ih0 _ _ _ _ _)
      | (with_reducible exact number_Mul.mono _ _ _)
      | (with_reducible exact LeO.refl _)
      | (with_reducible exact LeO.none _)
      | (with_reducible refine LeO.ite ?_ ?_)
      | (with_reducible refine LeO.bind ?_ (fun _ => ?_))
      | exact ih0 _ _ _ _ _
      | exact number_Mul.mono _ _ _
      | exact LeO.none _
      | refine LeO.ite ?_ ?_
      | refine LeO.bind ?_ (fun _ => ?_)
set_option maxHeartbeats 8000000 in
set_option maxRecDepth 100000 in
theorem hamperlaw02_NumberTurns.calls (k : Nat) (a0 : Int) (a1 : Int) (r : Bool) (w : World) (h : hamperlaw02_NumberTurns.f k a0 a1 = some r) :
    Calls Try.prog 4 #[.int .i64 a0, .int .i64 a1] w fun e w' => e = .returned (.bool r) ∧ Drawn0 w w' := by
  have H : ((number_Add.f a0 a1).bind fun bt101 => ((number_Add.f a1 a0).bind fun bt103 => ((number_Mul.f k a0 a1).bind fun bt105 => ((number_Mul.f k a1 a0).bind fun bt107 => (if bt101.1 = bt103.1 then (if (bt101.2 != bt103.2) = true then (hamperlaw02_NumberTurns.j0 k a0 a1 bt105.1 bt105.2 true) else (if bt105.1 = bt107.1 then (if (bt105.2 != bt107.2) = true then (hamperlaw02_NumberTurns.j0 k a0 a1 bt105.1 bt105.2 true) else (if bt101.2 = true then (if (wrap64 (bt101.1 - a1)) = a0 then (if bt105.2 = true then (hamperlaw02_NumberTurns.j0 k a0 a1 bt105.1 bt105.2 false) else (hamperlaw02_NumberTurns.j0 k a0 a1 bt105.1 bt105.2 (bt105.1 != 0))) else (hamperlaw02_NumberTurns.j0 k a0 a1 bt105.1 bt105.2 true)) else (if bt101.1 = 0 then (if bt105.2 = true then (hamperlaw02_NumberTurns.j0 k a0 a1 bt105.1 bt105.2 false) else (hamperlaw02_NumberTurns.j0 k a0 a1 bt105.1 bt105.2 (bt105.1 != 0))) else (hamperlaw02_NumberTurns.j0 k a0 a1 bt105.1 bt105.2 true)))) else (hamperlaw02_NumberTurns.j0 k a0 a1 bt105.1 bt105.2 true))) else (hamperlaw02_NumberTurns.j0 k a0 a1 bt105.1 bt105.2 true)))))) = some r := h
  clear h
  replace H := Option.bind_eq_some_iff.mp H
  obtain ⟨⟨t101, t102⟩, A30, H⟩ := H
  replace H : ((number_Add.f a1 a0).bind fun bt103 => ((number_Mul.f k a0 a1).bind fun bt105 => ((number_Mul.f k a1 a0).bind fun bt107 => (if t101 = bt103.1 then (if (t102 != bt103.2) = true then (hamperlaw02_NumberTurns.j0 k a0 a1 bt105.1 bt105.2 true) else (if bt105.1 = bt107.1 then (if (bt105.2 != bt107.2) = true then (hamperlaw02_NumberTurns.j0 k a0 a1 bt105.1 bt105.2 true) else (if t102 = true then (if (wrap64 (t101 - a1)) = a0 then (if bt105.2 = true then (hamperlaw02_NumberTurns.j0 k a0 a1 bt105.1 bt105.2 false) else (hamperlaw02_NumberTurns.j0 k a0 a1 bt105.1 bt105.2 (bt105.1 != 0))) else (hamperlaw02_NumberTurns.j0 k a0 a1 bt105.1 bt105.2 true)) else (if t101 = 0 then (if bt105.2 = true then (hamperlaw02_NumberTurns.j0 k a0 a1 bt105.1 bt105.2 false) else (hamperlaw02_NumberTurns.j0 k a0 a1 bt105.1 bt105.2 (bt105.1 != 0))) else (hamperlaw02_NumberTurns.j0 k a0 a1 bt105.1 bt105.2 true)))) else (hamperlaw02_NumberTurns.j0 k a0 a1 bt105.1 bt105.2 true))) else (hamperlaw02_NumberTurns.j0 k a0 a1 bt105.1 bt105.2 true))))) = some r := H
  have A3 := Aside0.mk A30
  clear A30
  replace H := Option.bind_eq_some_iff.mp H
  obtain ⟨⟨t103, t104⟩, A40, H⟩ := H
  replace H : ((number_Mul.f k a0 a1).bind fun bt105 => ((number_Mul.f k a1 a0).bind fun bt107 => (if t101 = t103 then (if (t102 != t104) = true then (hamperlaw02_NumberTurns.j0 k a0 a1 bt105.1 bt105.2 true) else (if bt105.1 = bt107.1 then (if (bt105.2 != bt107.2) = true then (hamperlaw02_NumberTurns.j0 k a0 a1 bt105.1 bt105.2 true) else (if t102 = true then (if (wrap64 (t101 - a1)) = a0 then (if bt105.2 = true then (hamperlaw02_NumberTurns.j0 k a0 a1 bt105.1 bt105.2 false) else (hamperlaw02_NumberTurns.j0 k a0 a1 bt105.1 bt105.2 (bt105.1 != 0))) else (hamperlaw02_NumberTurns.j0 k a0 a1 bt105.1 bt105.2 true)) else (if t101 = 0 then (if bt105.2 = true then (hamperlaw02_NumberTurns.j0 k a0 a1 bt105.1 bt105.2 false) else (hamperlaw02_NumberTurns.j0 k a0 a1 bt105.1 bt105.2 (bt105.1 != 0))) else (hamperlaw02_NumberTurns.j0 k a0 a1 bt105.1 bt105.2 true)))) else (hamperlaw02_NumberTurns.j0 k a0 a1 bt105.1 bt105.2 true))) else (hamperlaw02_NumberTurns.j0 k a0 a1 bt105.1 bt105.2 true)))) = some r := H
  have A4 := Aside0.mk A40
  clear A40
  replace H := Option.bind_eq_some_iff.mp H
  obtain ⟨⟨t105, t106⟩, A50, H⟩ := H
  replace H : ((number_Mul.f k a1 a0).bind fun bt107 => (if t101 = t103 then (if (t102 != t104) = true then (hamperlaw02_NumberTurns.j0 k a0 a1 t105 t106 true) else (if t105 = bt107.1 then (if (t106 != bt107.2) = true then (hamperlaw02_NumberTurns.j0 k a0 a1 t105 t106 true) else (if t102 = true then (if (wrap64 (t101 - a1)) = a0 then (if t106 = true then (hamperlaw02_NumberTurns.j0 k a0 a1 t105 t106 false) else (hamperlaw02_NumberTurns.j0 k a0 a1 t105 t106 (t105 != 0))) else (hamperlaw02_NumberTurns.j0 k a0 a1 t105 t106 true)) else (if t101 = 0 then (if t106 = true then (hamperlaw02_NumberTurns.j0 k a0 a1 t105 t106 false) else (hamperlaw02_NumberTurns.j0 k a0 a1 t105 t106 (t105 != 0))) else (hamperlaw02_NumberTurns.j0 k a0 a1 t105 t106 true)))) else (hamperlaw02_NumberTurns.j0 k a0 a1 t105 t106 true))) else (hamperlaw02_NumberTurns.j0 k a0 a1 t105 t106 true))) = some r := H
  have A5 := Aside0.mk A50
  clear A50
  replace H := Option.bind_eq_some_iff.mp H
  obtain ⟨⟨t107, t108⟩, A60, H⟩ := H
  replace H : (if t101 = t103 then (if (t102 != t104) = true then (hamperlaw02_NumberTurns.j0 k a0 a1 t105 t106 true) else (if t105 = t107 then (if (t106 != t108) = true then (hamperlaw02_NumberTurns.j0 k a0 a1 t105 t106 true) else (if t102 = true then (if (wrap64 (t101 - a1)) = a0 then (if t106 = true then (hamperlaw02_NumberTurns.j0 k a0 a1 t105 t106 false) else (hamperlaw02_NumberTurns.j0 k a0 a1 t105 t106 (t105 != 0))) else (hamperlaw02_NumberTurns.j0 k a0 a1 t105 t106 true)) else (if t101 = 0 then (if t106 = true then (hamperlaw02_NumberTurns.j0 k a0 a1 t105 t106 false) else (hamperlaw02_NumberTurns.j0 k a0 a1 t105 t106 (t105 != 0))) else (hamperlaw02_NumberTurns.j0 k a0 a1 t105 t106 true)))) else (hamperlaw02_NumberTurns.j0 k a0 a1 t105 t106 true))) else (hamperlaw02_NumberTurns.j0 k a0 a1 t105 t106 true)) = some r := H
  have A6 := Aside0.mk A60
  clear A60
  have HC7 := Aside0.mk H
  clear H
  go_enter Try.func4, Try.ntmps4
  go_upto_region 5 with (first | ((with_reducible refine gate_callee (f := 11) rfl ?_); refine goesL_ (some 18) rfl rfl Try.func11 (by kernel_rfl) rfl #[.int .i64 a0, .int .i64 a1] rfl (by (try simp only [List.map_toArray, List.map_cons, List.map_nil]); first | done | rfl | (simp only [List.length_drop, List.length_take]; rfl)) ?_; (with_reducible refine (number_Add.calls a0 a1 t101 t102 _ A3.out).mono ?_); rintro e w' ⟨rfl, ⟨nd, rfl⟩⟩; refine ⟨_, rfl, ?_⟩) | ((with_reducible refine gate_callee (f := 11) rfl ?_); refine goesL_ (some 24) rfl rfl Try.func11 (by kernel_rfl) rfl #[.int .i64 a1, .int .i64 a0] rfl (by (try simp only [List.map_toArray, List.map_cons, List.map_nil]); first | done | rfl | (simp only [List.length_drop, List.length_take]; rfl)) ?_; (with_reducible refine (number_Add.calls a1 a0 t103 t104 _ A4.out).mono ?_); rintro e w' ⟨rfl, ⟨nd, rfl⟩⟩; refine ⟨_, rfl, ?_⟩) | ((with_reducible refine gate_callee (f := 12) rfl ?_); refine goesL_ (some 30) rfl rfl Try.func12 (by kernel_rfl) rfl #[.int .i64 a0, .int .i64 a1] rfl (by (try simp only [List.map_toArray, List.map_cons, List.map_nil]); first | done | rfl | (simp only [List.length_drop, List.length_take]; rfl)) ?_; (with_reducible refine (number_Mul.calls k a0 a1 t105 t106 _ A5.out).mono ?_); rintro e w' ⟨rfl, ⟨nd, rfl⟩⟩; refine ⟨_, rfl, ?_⟩) | ((with_reducible refine gate_callee (f := 12) rfl ?_); refine goesL_ (some 36) rfl rfl Try.func12 (by kernel_rfl) rfl #[.int .i64 a1, .int .i64 a0] rfl (by (try simp only [List.map_toArray, List.map_cons, List.map_nil]); first | done | rfl | (simp only [List.length_drop, List.length_take]; rfl)) ?_; (with_reducible refine (number_Mul.calls k a1 a0 t107 t108 _ A6.out).mono ?_); rintro e w' ⟨rfl, ⟨nd, rfl⟩⟩; refine ⟨_, rfl, ?_⟩))
  (try simp only [Act.put, List.setIfInBounds_toArray, List.set_cons_zero, List.set_cons_succ])
  go_cut [82] (fun v82 wc => ∃ (kq : Nat) (x82_6 : Bool), v82 = .bool x82_6 ∧ Aside0 (hamperlaw02_NumberTurns.j0 kq a0 a1 t105 t106 x82_6 = some r) ∧ Aside0 (kq ≤ k) ∧ Drawn0 w wc)
  case first =>
    have H := HC7.out
    clear HC7
    by_cases c8 : t101 = t103
    · rw [if_pos c8] at H
      have c8b0 : (t101 == t103) = true := beq_iff_eq.mpr c8
      have c8b1 : (t101 != t103) = false := bne_eq_false_iff_eq.mpr c8
      clear c8
      (first | rw [c8b0] | (simp only [i64_w, i32_w]; rw [c8b0]) | skip)
      by_cases c9 : (t102 != t104) = true
      · rw [if_pos c9] at H
        have c9b0 : (t102 != t104) = true := c9
        (try (have c9b1 : decide (t102 = t104) = false := by simpa using c9))
        (try (have c9b2 : (t102 == t104) = false := by simpa using c9))
        (try (have c9b3 : ¬ (t102 = t104) := by simpa using c9))
        clear c9
        have H' := Aside0.mk H
        clear H
        go_wp2
        go_meet
        case rel => exact ⟨_, (true), (by first | rfl | (simp; done) | (simp [*]; done)), H', ⟨by first | omega | exact Nat.le_refl _⟩, by repeat (first | exact Drawn0.refl _ | apply Drawn0.step)⟩
      · rw [if_neg c9] at H
        have c9b0 : (t102 != t104) = false := by simpa using c9
        (try (have c9b1 : decide (t102 = t104) = true := by simpa using c9))
        (try (have c9b2 : (t102 == t104) = true := by simpa using c9))
        clear c9
        by_cases c10 : t105 = t107
        · rw [if_pos c10] at H
          have c10b0 : (t105 == t107) = true := beq_iff_eq.mpr c10
          have c10b1 : (t105 != t107) = false := bne_eq_false_iff_eq.mpr c10
          clear c10
          by_cases c11 : (t106 != t108) = true
          · rw [if_pos c11] at H
            have c11b0 : (t106 != t108) = true := c11
            (try (have c11b1 : decide (t106 = t108) = false := by simpa using c11))
            (try (have c11b2 : (t106 == t108) = false := by simpa using c11))
            (try (have c11b3 : ¬ (t106 = t108) := by simpa using c11))
            clear c11
            have H' := Aside0.mk H
            clear H
            go_wp2
            go_meet
            case rel => exact ⟨_, (true), (by first | rfl | (simp; done) | (simp [*]; done)), H', ⟨by first | omega | exact Nat.le_refl _⟩, by repeat (first | exact Drawn0.refl _ | apply Drawn0.step)⟩
          · rw [if_neg c11] at H
            have c11b0 : (t106 != t108) = false := by simpa using c11
            (try (have c11b1 : decide (t106 = t108) = true := by simpa using c11))
            (try (have c11b2 : (t106 == t108) = true := by simpa using c11))
            clear c11
            by_cases c12 : t102 = true
            · subst c12
              have H1 : (if (wrap64 (t101 - a1)) = a0 then (if t106 = true then (hamperlaw02_NumberTurns.j0 k a0 a1 t105 t106 false) else (hamperlaw02_NumberTurns.j0 k a0 a1 t105 t106 (t105 != 0))) else (hamperlaw02_NumberTurns.j0 k a0 a1 t105 t106 true)) = some r := by rw [if_pos rfl] at H; exact H
              clear H
              have H := H1
              clear H1
              by_cases c13 : (wrap64 (t101 - a1)) = a0
              · rw [if_pos c13] at H
                have c13b0 : ((wrap64 (t101 - a1)) == a0) = true := beq_iff_eq.mpr c13
                have c13b1 : ((wrap64 (t101 - a1)) != a0) = false := bne_eq_false_iff_eq.mpr c13
                clear c13
                by_cases c14 : t106 = true
                · subst c14
                  have H1 : (hamperlaw02_NumberTurns.j0 k a0 a1 t105 true false) = some r := by rw [if_pos rfl] at H; exact H
                  clear H
                  have H := H1
                  clear H1
                  have H' := Aside0.mk H
                  clear H
                  go_wp2
                  go_meet
                  case rel => exact ⟨_, (false), (by first | rfl | (simp; done) | (simp [*]; done)), H', ⟨by first | omega | exact Nat.le_refl _⟩, by repeat (first | exact Drawn0.refl _ | apply Drawn0.step)⟩
                · replace c14 := Bool.eq_false_iff.mpr c14
                  subst c14
                  have H1 : (hamperlaw02_NumberTurns.j0 k a0 a1 t105 false (t105 != 0)) = some r := by rw [if_neg (show ¬ (false = true) by decide)] at H; exact H
                  clear H
                  have H := H1
                  clear H1
                  have H' := Aside0.mk H
                  clear H
                  go_wp2
                  go_meet
                  case rel => exact ⟨_, ((t105 != 0)), (by first | rfl | (simp; done) | (simp [*]; done)), H', ⟨by first | omega | exact Nat.le_refl _⟩, by repeat (first | exact Drawn0.refl _ | apply Drawn0.step)⟩
              · rw [if_neg c13] at H
                have c13b0 : ((wrap64 (t101 - a1)) == a0) = false := beq_eq_false_iff_ne.mpr c13
                have c13b1 : ((wrap64 (t101 - a1)) != a0) = true := bne_iff_ne.mpr c13
                have H' := Aside0.mk H
                clear H
                go_wp2
                go_meet
                case rel => exact ⟨_, (true), (by first | rfl | (simp; done) | (simp [*]; done)), H', ⟨by first | omega | exact Nat.le_refl _⟩, by repeat (first | exact Drawn0.refl _ | apply Drawn0.step)⟩
            · replace c12 := Bool.eq_false_iff.mpr c12
              subst c12
              have H1 : (if t101 = 0 then (if t106 = true then (hamperlaw02_NumberTurns.j0 k a0 a1 t105 t106 false) else (hamperlaw02_NumberTurns.j0 k a0 a1 t105 t106 (t105 != 0))) else (hamperlaw02_NumberTurns.j0 k a0 a1 t105 t106 true)) = some r := by rw [if_neg (show ¬ (false = true) by decide)] at H; exact H
              clear H
              have H := H1
              clear H1
              by_cases c15 : t101 = 0
              · rw [if_pos c15] at H
                have c15b0 : (t101 == 0) = true := beq_iff_eq.mpr c15
                have c15b1 : (t101 != 0) = false := bne_eq_false_iff_eq.mpr c15
                clear c15
                by_cases c16 : t106 = true
                · subst c16
                  have H1 : (hamperlaw02_NumberTurns.j0 k a0 a1 t105 true false) = some r := by rw [if_pos rfl] at H; exact H
                  clear H
                  have H := H1
                  clear H1
                  have H' := Aside0.mk H
                  clear H
                  go_wp2
                  go_meet
                  case rel => exact ⟨_, (false), (by first | rfl | (simp; done) | (simp [*]; done)), H', ⟨by first | omega | exact Nat.le_refl _⟩, by repeat (first | exact Drawn0.refl _ | apply Drawn0.step)⟩
                · replace c16 := Bool.eq_false_iff.mpr c16
                  subst c16
                  have H1 : (hamperlaw02_NumberTurns.j0 k a0 a1 t105 false (t105 != 0)) = some r := by rw [if_neg (show ¬ (false = true) by decide)] at H; exact H
                  clear H
                  have H := H1
                  clear H1
                  have H' := Aside0.mk H
                  clear H
                  go_wp2
                  go_meet
                  case rel => exact ⟨_, ((t105 != 0)), (by first | rfl | (simp; done) | (simp [*]; done)), H', ⟨by first | omega | exact Nat.le_refl _⟩, by repeat (first | exact Drawn0.refl _ | apply Drawn0.step)⟩
              · rw [if_neg c15] at H
                have c15b0 : (t101 == 0) = false := beq_eq_false_iff_ne.mpr c15
                have c15b1 : (t101 != 0) = true := bne_iff_ne.mpr c15
                have H' := Aside0.mk H
                clear H
                go_wp2
                go_meet
                case rel => exact ⟨_, (true), (by first | rfl | (simp; done) | (simp [*]; done)), H', ⟨by first | omega | exact Nat.le_refl _⟩, by repeat (first | exact Drawn0.refl _ | apply Drawn0.step)⟩
        · rw [if_neg c10] at H
          have c10b0 : (t105 == t107) = false := beq_eq_false_iff_ne.mpr c10
          have c10b1 : (t105 != t107) = true := bne_iff_ne.mpr c10
          have H' := Aside0.mk H
          clear H
          go_wp2
          go_meet
          case rel => exact ⟨_, (true), (by first | rfl | (simp; done) | (simp [*]; done)), H', ⟨by first | omega | exact Nat.le_refl _⟩, by repeat (first | exact Drawn0.refl _ | apply Drawn0.step)⟩
    · rw [if_neg c8] at H
      have c8b0 : (t101 == t103) = false := beq_eq_false_iff_ne.mpr c8
      have c8b1 : (t101 != t103) = true := bne_iff_ne.mpr c8
      (first | rw [c8b0] | (simp only [i64_w, i32_w]; rw [c8b0]) | skip)
      have H' := Aside0.mk H
      clear H
      go_wp2
      go_meet
      case rel => exact ⟨_, (true), (by first | rfl | (simp; done) | (simp [*]; done)), H', ⟨by first | omega | exact Nat.le_refl _⟩, by repeat (first | exact Drawn0.refl _ | apply Drawn0.step)⟩
  case rest =>
    clear HC7
    try clear c1
    try clear p2
    try clear c4
    try clear p6
    try clear c8
    try clear c8b0
    try clear c8b1
    try clear c9
    try clear c9b0
    try clear c9b1
    try clear c9b2
    try clear c10
    try clear c10b0
    try clear c10b1
    try clear c11
    try clear c11b0
    try clear c11b1
    try clear c11b2
    try clear c12
    try clear c13
    try clear c13b0
    try clear c13b1
    try clear c14
    try clear c15
    try clear c15b0
    try clear c15b1
    try clear c16
    obtain ⟨kq, x82_6, rfl, HA, HJ6, ⟨mc6, rfl⟩⟩ := hcut
    cases kq with
    | zero => exact absurd HA.out (by simp [hamperlaw02_NumberTurns.j0])
    | succ kj6 =>
      have H := HA.out
      clear HA
      simp only [hamperlaw02_NumberTurns.j0] at H
      by_cases c17 : x82_6 = true
      · subst c17
        have H1 : (some false) = some r := by rw [if_pos rfl] at H; exact H
        clear H
        have H := H1
        clear H1
        obtain rfl := Option.some.inj H
        go_wp2
        go_ret
        exact ⟨by first | rfl | (simp; done) | (simp [*]; done), by repeat (first | exact Drawn0.refl _ | apply Drawn0.step)⟩
      · replace c17 := Bool.eq_false_iff.mpr c17
        subst c17
        have H1 : (if t106 = true then (if a1 = 0 then ((number_Mul.f kj6 3 (-5)).bind fun bt109 => (if bt109.1 = (-15) then (some bt109.2) else (some false))) else (if (Int.tmod t105 a1) = 0 then (if (wrap64 (Int.tdiv t105 a1)) = a0 then ((number_Mul.f kj6 3 (-5)).bind fun bt111 => (if bt111.1 = (-15) then (some bt111.2) else (some false))) else (some false)) else (some false))) else ((number_Mul.f kj6 3 (-5)).bind fun bt113 => (if bt113.1 = (-15) then (some bt113.2) else (some false)))) = some r := by rw [if_neg (show ¬ (false = true) by decide)] at H; exact H
        clear H
        have H := H1
        clear H1
        by_cases c18 : t106 = true
        · subst c18
          have H1 : (if a1 = 0 then ((number_Mul.f kj6 3 (-5)).bind fun bt109 => (if bt109.1 = (-15) then (some bt109.2) else (some false))) else (if (Int.tmod t105 a1) = 0 then (if (wrap64 (Int.tdiv t105 a1)) = a0 then ((number_Mul.f kj6 3 (-5)).bind fun bt111 => (if bt111.1 = (-15) then (some bt111.2) else (some false))) else (some false)) else (some false))) = some r := by rw [if_pos rfl] at H; exact H
          clear H
          have H := H1
          clear H1
          by_cases c19 : a1 = 0
          · rw [if_pos c19] at H
            have c19b0 : (a1 == 0) = true := beq_iff_eq.mpr c19
            have c19b1 : (a1 != 0) = false := bne_eq_false_iff_eq.mpr c19
            clear c19
            replace H := Option.bind_eq_some_iff.mp H
            obtain ⟨⟨t109, t110⟩, A200, H⟩ := H
            replace H : (if t109 = (-15) then (some t110) else (some false)) = some r := H
            have A20 := Aside0.mk A200
            clear A200
            by_cases c21 : t109 = (-15)
            · rw [if_pos c21] at H
              have c21b0 : (t109 == (-15)) = true := beq_iff_eq.mpr c21
              have c21b1 : (t109 != (-15)) = false := bne_eq_false_iff_eq.mpr c21
              clear c21
              obtain rfl := Option.some.inj H
              go_wp2_with (first | ((with_reducible refine gate_callee (f := 12) rfl ?_); refine goesL_ (some 102) rfl rfl Try.func12 (by kernel_rfl) rfl #[.int .i64 3, .int .i64 (-5)] rfl (by (try simp only [List.map_toArray, List.map_cons, List.map_nil]); first | done | rfl | (simp only [List.length_drop, List.length_take]; rfl)) ?_; (with_reducible refine (number_Mul.calls kj6 3 (-5) t109 t110 _ A20.out).mono ?_); rintro e w' ⟨rfl, ⟨nd, rfl⟩⟩; refine ⟨_, rfl, ?_⟩))
              go_ret
              exact ⟨by first | rfl | (simp; done) | (simp [*]; done), by repeat (first | exact Drawn0.refl _ | apply Drawn0.step)⟩
            · rw [if_neg c21] at H
              have c21b0 : (t109 == (-15)) = false := beq_eq_false_iff_ne.mpr c21
              have c21b1 : (t109 != (-15)) = true := bne_iff_ne.mpr c21
              obtain rfl := Option.some.inj H
              go_wp2_with (first | ((with_reducible refine gate_callee (f := 12) rfl ?_); refine goesL_ (some 102) rfl rfl Try.func12 (by kernel_rfl) rfl #[.int .i64 3, .int .i64 (-5)] rfl (by (try simp only [List.map_toArray, List.map_cons, List.map_nil]); first | done | rfl | (simp only [List.length_drop, List.length_take]; rfl)) ?_; (with_reducible refine (number_Mul.calls kj6 3 (-5) t109 t110 _ A20.out).mono ?_); rintro e w' ⟨rfl, ⟨nd, rfl⟩⟩; refine ⟨_, rfl, ?_⟩))
              go_ret
              exact ⟨by first | rfl | (simp; done) | (simp [*]; done), by repeat (first | exact Drawn0.refl _ | apply Drawn0.step)⟩
          · rw [if_neg c19] at H
            have c19b0 : (a1 == 0) = false := beq_eq_false_iff_ne.mpr c19
            have c19b1 : (a1 != 0) = true := bne_iff_ne.mpr c19
            by_cases c22 : (Int.tmod t105 a1) = 0
            · rw [if_pos c22] at H
              have c22b0 : ((Int.tmod t105 a1) == 0) = true := beq_iff_eq.mpr c22
              have c22b1 : ((Int.tmod t105 a1) != 0) = false := bne_eq_false_iff_eq.mpr c22
              clear c22
              by_cases c23 : (wrap64 (Int.tdiv t105 a1)) = a0
              · rw [if_pos c23] at H
                have c23b0 : ((wrap64 (Int.tdiv t105 a1)) == a0) = true := beq_iff_eq.mpr c23
                have c23b1 : ((wrap64 (Int.tdiv t105 a1)) != a0) = false := bne_eq_false_iff_eq.mpr c23
                clear c23
                replace H := Option.bind_eq_some_iff.mp H
                obtain ⟨⟨t111, t112⟩, A240, H⟩ := H
                replace H : (if t111 = (-15) then (some t112) else (some false)) = some r := H
                have A24 := Aside0.mk A240
                clear A240
                by_cases c25 : t111 = (-15)
                · rw [if_pos c25] at H
                  have c25b0 : (t111 == (-15)) = true := beq_iff_eq.mpr c25
                  have c25b1 : (t111 != (-15)) = false := bne_eq_false_iff_eq.mpr c25
                  clear c25
                  obtain rfl := Option.some.inj H
                  go_wp2_with (first | ((with_reducible refine gate_callee (f := 12) rfl ?_); refine goesL_ (some 102) rfl rfl Try.func12 (by kernel_rfl) rfl #[.int .i64 3, .int .i64 (-5)] rfl (by (try simp only [List.map_toArray, List.map_cons, List.map_nil]); first | done | rfl | (simp only [List.length_drop, List.length_take]; rfl)) ?_; (with_reducible refine (number_Mul.calls kj6 3 (-5) t111 t112 _ A24.out).mono ?_); rintro e w' ⟨rfl, ⟨nd, rfl⟩⟩; refine ⟨_, rfl, ?_⟩))
                  go_ret
                  exact ⟨by first | rfl | (simp; done) | (simp [*]; done), by repeat (first | exact Drawn0.refl _ | apply Drawn0.step)⟩
                · rw [if_neg c25] at H
                  have c25b0 : (t111 == (-15)) = false := beq_eq_false_iff_ne.mpr c25
                  have c25b1 : (t111 != (-15)) = true := bne_iff_ne.mpr c25
                  obtain rfl := Option.some.inj H
                  go_wp2_with (first | ((with_reducible refine gate_callee (f := 12) rfl ?_); refine goesL_ (some 102) rfl rfl Try.func12 (by kernel_rfl) rfl #[.int .i64 3, .int .i64 (-5)] rfl (by (try simp only [List.map_toArray, List.map_cons, List.map_nil]); first | done | rfl | (simp only [List.length_drop, List.length_take]; rfl)) ?_; (with_reducible refine (number_Mul.calls kj6 3 (-5) t111 t112 _ A24.out).mono ?_); rintro e w' ⟨rfl, ⟨nd, rfl⟩⟩; refine ⟨_, rfl, ?_⟩))
                  go_ret
                  exact ⟨by first | rfl | (simp; done) | (simp [*]; done), by repeat (first | exact Drawn0.refl _ | apply Drawn0.step)⟩
              · rw [if_neg c23] at H
                have c23b0 : ((wrap64 (Int.tdiv t105 a1)) == a0) = false := beq_eq_false_iff_ne.mpr c23
                have c23b1 : ((wrap64 (Int.tdiv t105 a1)) != a0) = true := bne_iff_ne.mpr c23
                obtain rfl := Option.some.inj H
                go_wp2
                go_ret
                exact ⟨by first | rfl | (simp; done) | (simp [*]; done), by repeat (first | exact Drawn0.refl _ | apply Drawn0.step)⟩
            · rw [if_neg c22] at H
              have c22b0 : ((Int.tmod t105 a1) == 0) = false := beq_eq_false_iff_ne.mpr c22
              have c22b1 : ((Int.tmod t105 a1) != 0) = true := bne_iff_ne.mpr c22
              obtain rfl := Option.some.inj H
              go_wp2
              go_ret
              exact ⟨by first | rfl | (simp; done) | (simp [*]; done), by repeat (first | exact Drawn0.refl _ | apply Drawn0.step)⟩
        · replace c18 := Bool.eq_false_iff.mpr c18
          subst c18
          have H1 : ((number_Mul.f kj6 3 (-5)).bind fun bt113 => (if bt113.1 = (-15) then (some bt113.2) else (some false))) = some r := by rw [if_neg (show ¬ (false = true) by decide)] at H; exact H
          clear H
          have H := H1
          clear H1
          replace H := Option.bind_eq_some_iff.mp H
          obtain ⟨⟨t113, t114⟩, A260, H⟩ := H
          replace H : (if t113 = (-15) then (some t114) else (some false)) = some r := H
          have A26 := Aside0.mk A260
          clear A260
          by_cases c27 : t113 = (-15)
          · rw [if_pos c27] at H
            have c27b0 : (t113 == (-15)) = true := beq_iff_eq.mpr c27
            have c27b1 : (t113 != (-15)) = false := bne_eq_false_iff_eq.mpr c27
            clear c27
            obtain rfl := Option.some.inj H
            go_wp2_with (first | ((with_reducible refine gate_callee (f := 12) rfl ?_); refine goesL_ (some 102) rfl rfl Try.func12 (by kernel_rfl) rfl #[.int .i64 3, .int .i64 (-5)] rfl (by (try simp only [List.map_toArray, List.map_cons, List.map_nil]); first | done | rfl | (simp only [List.length_drop, List.length_take]; rfl)) ?_; (with_reducible refine (number_Mul.calls kj6 3 (-5) t113 t114 _ A26.out).mono ?_); rintro e w' ⟨rfl, ⟨nd, rfl⟩⟩; refine ⟨_, rfl, ?_⟩))
            go_ret
            exact ⟨by first | rfl | (simp; done) | (simp [*]; done), by repeat (first | exact Drawn0.refl _ | apply Drawn0.step)⟩
          · rw [if_neg c27] at H
            have c27b0 : (t113 == (-15)) = false := beq_eq_false_iff_ne.mpr c27
            have c27b1 : (t113 != (-15)) = true := bne_iff_ne.mpr c27
            obtain rfl := Option.some.inj H
            go_wp2_with (first | ((with_reducible refine gate_callee (f := 12) rfl ?_); refine goesL_ (some 102) rfl rfl Try.func12 (by kernel_rfl) rfl #[.int .i64 3, .int .i64 (-5)] rfl (by (try simp only [List.map_toArray, List.map_cons, List.map_nil]); first | done | rfl | (simp only [List.length_drop, List.length_take]; rfl)) ?_; (with_reducible refine (number_Mul.calls kj6 3 (-5) t113 t114 _ A26.out).mono ?_); rintro e w' ⟨rfl, ⟨nd, rfl⟩⟩; refine ⟨_, rfl, ?_⟩))
            go_ret
            exact ⟨by first | rfl | (simp; done) | (simp [*]; done), by repeat (first | exact Drawn0.refl _ | apply Drawn0.step)⟩

/-- THE ONE PURE STATEMENT of hamperlaw02_NumberTurns: yours. -/
def hamperlaw02_NumberTurns.Pure : Prop := ∀ (a0 : Int) (a1 : Int), (Lit.int .i64 a0).wf = true → (Lit.int .i64 a1).wf = true → ∃ k, hamperlaw02_NumberTurns.f k a0 a1 = some true
theorem hamperlaw02_NumberTurns.walk (P : hamperlaw02_NumberTurns.Pure) (a0 : Int) (a1 : Int) (w : World) (w0 : (Lit.int .i64 a0).wf = true) (w1 : (Lit.int .i64 a1).wf = true) :
    Calls Try.prog 4 #[.int .i64 a0, .int .i64 a1] w fun e w' => e = .returned (.bool true) ∧ Below w.heap.size w w' := by
  obtain ⟨k, h⟩ := P a0 a1 w0 w1
  refine (hamperlaw02_NumberTurns.calls k a0 a1 true w h).mono ?_
  rintro e w' ⟨rfl, hd⟩
  exact ⟨rfl, hd.below⟩

end Go.Proofs.Ytmecigllpdeeoaa.PNumberTurns
