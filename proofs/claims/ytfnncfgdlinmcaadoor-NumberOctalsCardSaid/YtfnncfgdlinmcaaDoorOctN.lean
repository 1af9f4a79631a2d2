/- number.run, number.Octal walked. -/
import Derived.Test.YtfnncfgdlinmcaaDoorOctQ
import Derived.Test.YtfnncfgdlinmcaaDoorPNumberOctalsx2
import Derived.Test.YtfnncfgdlinmcaaDoorPNumberOctalsx3
set_option linter.unusedVariables false
set_option linter.unusedSimpArgs false
namespace Go.Proofs.YtfnncfgdlinmcaaDoor.Oct
open Go.RowKit Go.BigFrame Go.Proofs.YtfnncfgdlinmcaaDoor.Reg Go.Proofs.YtfnncfgdlinmcaaDoorW.PrintWords Go.Proofs.YtfnncfgdlinmcaaDoorW.PrintLast Go.Proofs.YtfnncfgdlinmcaaDoorW.PrintMore
/-- The three questions. -/
def isQ (q : Nat) (x : Int) : Bool := if q = 0 then x == 32 else if q = 1 then decide (48 ≤ x) && decide (x ≤ 55) else (x == 0) || (x == 32)
theorem q0_calls (x : Int) (w : World) : Calls Tryd.prog 22 #[.int .u8 x] w fun e w' => e = .returned (.bool (isQ 0 x)) ∧ w = w' := by
  have HE := Lib.hid (show isQ 0 x = (x == 32) from rfl)
  go_enter Tryd.func22, Tryd.ntmps22
  go_wp2
  go_ret
  exact ⟨by rw [HE.out]; rfl, rfl⟩
theorem q1_calls (x : Int) (w : World) : Calls Tryd.prog 23 #[.int .u8 x] w fun e w' => e = .returned (.bool (isQ 1 x)) ∧ w = w' := by
  have HE := Lib.hid (show isQ 1 x = (decide (48 ≤ x) && decide (x ≤ 55)) from rfl)
  by_cases h : 48 ≤ x
  · go_enter Tryd.func23, Tryd.ntmps23
    go_wp2
    go_ret
    exact ⟨by rw [HE.out, decide_eq_true h, Bool.true_and]; rfl, rfl⟩
  · go_enter Tryd.func23, Tryd.ntmps23
    go_wp2
    go_ret
    exact ⟨by rw [HE.out, decide_eq_false (by omega), Bool.false_and]; rfl, rfl⟩
theorem q2_calls (x : Int) (w : World) : Calls Tryd.prog 24 #[.int .u8 x] w fun e w' => e = .returned (.bool (isQ 2 x)) ∧ w = w' := by
  have HE := Lib.hid (show isQ 2 x = ((x == 0) || (x == 32)) from rfl)
  cases h : (x == 0)
  · go_enter Tryd.func24, Tryd.ntmps24
    go_wp2
    go_ret
    exact ⟨by rw [HE.out, h, Bool.false_or]; rfl, rfl⟩
  · go_enter Tryd.func24, Tryd.ntmps24
    go_wp2
    go_ret
    exact ⟨by rw [HE.out, h, Bool.true_or]; rfl, rfl⟩
/-! ### plain -/
def runL (q : Nat) (xs : List Int) : Nat := (xs.takeWhile (isQ q)).length
def idxL (q : Nat) (xs : List Int) : Int := if runL q xs = xs.length then -1 else (runL q xs : Int)
theorem runL_le (q : Nat) (xs : List Int) : runL q xs ≤ xs.length := by
  unfold runL
  induction xs with
  | nil => simp
  | cons x xs ih => rw [List.takeWhile_cons]; split <;> simp; exact ih
theorem idx_at (q : Nat) (xs : List Int) (n : Nat) (h : runL q xs = n) (hn : n < xs.length) : idxL q xs = n := by
  unfold idxL
  rw [h, if_neg (by omega)]
theorem idx_none (q : Nat) (xs : List Int) (h : runL q xs = xs.length) : idxL q xs = -1 := by
  unfold idxL
  rw [if_pos h]
theorem run_cons (q : Nat) (x : Int) (xs : List Int) : runL q (x :: xs) = if isQ q x then runL q xs + 1 else 0 := by
  unfold runL
  rw [List.takeWhile_cons]
  split <;> simp
theorem run_both (q : Nat) (xs : List Int) (k : Nat) (h : k ≤ runL q xs) (hk : k < xs.length) : (isQ q (rd xs (k : Int)) = true → k + 1 ≤ runL q xs) ∧ (isQ q (rd xs (k : Int)) = false → runL q xs = k) := by
  induction xs generalizing k with
  | nil => simp at hk
  | cons x xs ih =>
    rw [run_cons] at h ⊢
    cases k with
    | zero =>
      have : rd (x :: xs) ((0 : Nat) : Int) = x := rfl
      rw [this]
      constructor
      · intro h; rw [if_pos h]; omega
      · intro h; rw [if_neg (by simp [h])]
    | succ k =>
      have : rd (x :: xs) ((k + 1 : Nat) : Int) = rd xs (k : Int) := by
        unfold rd
        rw [Int.toNat_natCast, Int.toNat_natCast]
        simp
      rw [this]
      split at h
      · have := ih k (by omega) (by simpa using hk)
        rw [if_pos (by assumption)]
        exact ⟨fun h => by have := this.1 h; omega, fun h => by have := this.2 h; omega⟩
      · omega
theorem run_more (q : Nat) (xs : List Int) (k : Nat) (h : k ≤ runL q xs) (hk : k < xs.length) : isQ q (rd xs (k : Int)) = true → k + 1 ≤ runL q xs := (run_both q xs k h hk).1
theorem run_stop (q : Nat) (xs : List Int) (k : Nat) (h : k ≤ runL q xs) (hk : k < xs.length) : isQ q (rd xs (k : Int)) = false → runL q xs = k := (run_both q xs k h hk).2
/-! ### the runs -/
theorem not0_calls (x : Int) (p : Addr) (w : World) (hc : w.cell? p = some (.func (.func 22) #[] #[])) :
    Calls Tryd.prog 40 #[.int .u8 x, .pointer (some p)] w fun e w' => e = .returned (.bool (!isQ 0 x)) ∧ w = w' := by
  go_enter Tryd.func40, Tryd.ntmps40
  go_wp2_with fail
  refine (q0_calls x _).mono ?_
  rintro e w' ⟨rfl, rfl⟩
  obtain ⟨t, ht⟩ : ∃ t, isQ 0 x = t := ⟨_, rfl⟩
  rw [ht]
  have HT := Lib.hid ht
  clear ht
  go_wp2
  go_ret
  exact ⟨by rw [HT.out]; rfl, rfl⟩
set_option maxHeartbeats 1000000 in
theorem index0_calls (A : Option Addr) (c : Nat) (xs : List Int) (p : Addr) (w : World) (hC : (Kd.int .u8).C w A xs.length xs) (hl : xs.length ≤ 140737488355328) (hc : w.cell? p = some (.func (.func 22) #[] #[])) :
    Calls Tryd.prog 39 #[.slice A xs.length c, .func (.func 40) #[] #[.pointer (some p)]] w fun e w' => e = .returned (.int .i64 (idxL 0 xs)) ∧ w = w' := by
  have HC := Lib.hid hC
  have HP := Lib.hid hc
  have HI : Hid (∀ n : Nat, runL 0 xs = n → n < xs.length → idxL 0 xs = n) := Lib.hid (idx_at 0 xs)
  have HN : Hid (runL 0 xs = xs.length → idxL 0 xs = -1) := Lib.hid (idx_none 0 xs)
  have HL := Lib.hid (runL_le 0 xs)
  clear hC hc
  go_enter Tryd.func39, Tryd.ntmps39
  go_wp2
  go_loopw [8] (fun j wr => ∃ k : Nat, Hid (k ≤ runL 0 xs) ∧ k ≤ xs.length ∧ j = .int .i64 k ∧ w = wr) (fun j _ => xs.length - (intOf j).toNat)
  case atStart => exact ⟨0, Lib.hid (by omega), by omega, rfl, rfl⟩
  case round =>
    obtain ⟨k, hk, hkl, rfl, rfl⟩ := hrel
    by_cases hkk : k < xs.length
    · obtain ⟨ad, hA, hx⟩ := Kd.at_int HC.out (k : Int) (by omega) (by omega)
      subst hA
      rw [Int.toNat_natCast] at hx
      have HT := Lib.hid (run_more 0 xs k hk.out hkk)
      have HF := Lib.hid (run_stop 0 xs k hk.out hkk)
      generalize rd xs (k : Int) = z at *
      go_wp2_with fail
      refine (not0_calls z p _ HP.out).mono ?_
      rintro e w' ⟨rfl, rfl⟩
      cases hz : isQ 0 z
      · have HI2 := Lib.hid (HI.out k (HF.out hz) hkk)
        clear hz
        go_wp2
        go_ret
        exact ⟨by rw [HI2.out]; rfl, rfl⟩
      · have HK2 := Lib.hid (HT.out hz)
        clear hz
        go_wp2
        go_roundw
        case rel => exact ⟨k + 1, HK2, by omega, by go_num, trivial⟩
        case measure => simp [intOf]; omega
    · have HE := Lib.hid (HN.out (by have h1 := HL.out; have h2 := hk.out; omega))
      go_wp2
      go_ret
      exact ⟨by rw [HE.out]; rfl, rfl⟩
set_option maxHeartbeats 1000000 in
theorem run0_calls (A : Option Addr) (c : Nat) (xs : List Int) (w : World) (hC : (Kd.int .u8).C w A xs.length xs) (hl : xs.length ≤ 140737488355328) :
    Calls Tryd.prog 21 #[.slice A xs.length c, .func (.func 22) #[] #[]] w fun e w' => e = .returned (.int .i64 (runL 0 xs)) ∧ Below w.heap.size w w' := by
  have HC := Lib.hid hC
  clear hC
  have HL := Lib.hid (runL_le 0 xs)
  by_cases hr : runL 0 xs = xs.length
  · have HN := Lib.hid (idx_none 0 xs hr)
    have HR := Lib.hid hr
    clear hr
    go_enter Tryd.func21, Tryd.ntmps21
    go_wp2_with (go_at_call 39; refine (index0_calls A c xs _ _ (Kd.C_below HC.out (balloc (Below.refl _ _) _)) hl (by simp)).mono ?_; rintro e w' ⟨rfl, rfl⟩; rw [HN.out])
    go_ret
    exact ⟨by rw [HR.out]; rfl, balloc (Below.refl _ _) _⟩
  · have HN := Lib.hid (idx_at 0 xs _ rfl (by have := HL.out; omega))
    have HR := Lib.hid hr
    clear hr
    generalize runL 0 xs = n at *
    go_enter Tryd.func21, Tryd.ntmps21
    go_wp2_with (go_at_call 39; refine (index0_calls A c xs _ _ (Kd.C_below HC.out (balloc (Below.refl _ _) _)) hl (by simp)).mono ?_; rintro e w' ⟨rfl, rfl⟩; rw [HN.out])
    go_ret
    exact ⟨rfl, balloc (Below.refl _ _) _⟩
theorem not1_calls (x : Int) (p : Addr) (w : World) (hc : w.cell? p = some (.func (.func 23) #[] #[])) :
    Calls Tryd.prog 40 #[.int .u8 x, .pointer (some p)] w fun e w' => e = .returned (.bool (!isQ 1 x)) ∧ w = w' := by
  go_enter Tryd.func40, Tryd.ntmps40
  go_wp2_with fail
  refine (q1_calls x _).mono ?_
  rintro e w' ⟨rfl, rfl⟩
  obtain ⟨t, ht⟩ : ∃ t, isQ 1 x = t := ⟨_, rfl⟩
  rw [ht]
  have HT := Lib.hid ht
  clear ht
  go_wp2
  go_ret
  exact ⟨by rw [HT.out]; rfl, rfl⟩
set_option maxHeartbeats 1000000 in
theorem index1_calls (A : Option Addr) (c : Nat) (xs : List Int) (p : Addr) (w : World) (hC : (Kd.int .u8).C w A xs.length xs) (hl : xs.length ≤ 140737488355328) (hc : w.cell? p = some (.func (.func 23) #[] #[])) :
    Calls Tryd.prog 39 #[.slice A xs.length c, .func (.func 40) #[] #[.pointer (some p)]] w fun e w' => e = .returned (.int .i64 (idxL 1 xs)) ∧ w = w' := by
  have HC := Lib.hid hC
  have HP := Lib.hid hc
  have HI : Hid (∀ n : Nat, runL 1 xs = n → n < xs.length → idxL 1 xs = n) := Lib.hid (idx_at 1 xs)
  have HN : Hid (runL 1 xs = xs.length → idxL 1 xs = -1) := Lib.hid (idx_none 1 xs)
  have HL := Lib.hid (runL_le 1 xs)
  clear hC hc
  go_enter Tryd.func39, Tryd.ntmps39
  go_wp2
  go_loopw [8] (fun j wr => ∃ k : Nat, Hid (k ≤ runL 1 xs) ∧ k ≤ xs.length ∧ j = .int .i64 k ∧ w = wr) (fun j _ => xs.length - (intOf j).toNat)
  case atStart => exact ⟨0, Lib.hid (by omega), by omega, rfl, rfl⟩
  case round =>
    obtain ⟨k, hk, hkl, rfl, rfl⟩ := hrel
    by_cases hkk : k < xs.length
    · obtain ⟨ad, hA, hx⟩ := Kd.at_int HC.out (k : Int) (by omega) (by omega)
      subst hA
      rw [Int.toNat_natCast] at hx
      have HT := Lib.hid (run_more 1 xs k hk.out hkk)
      have HF := Lib.hid (run_stop 1 xs k hk.out hkk)
      generalize rd xs (k : Int) = z at *
      go_wp2_with fail
      refine (not1_calls z p _ HP.out).mono ?_
      rintro e w' ⟨rfl, rfl⟩
      cases hz : isQ 1 z
      · have HI2 := Lib.hid (HI.out k (HF.out hz) hkk)
        clear hz
        go_wp2
        go_ret
        exact ⟨by rw [HI2.out]; rfl, rfl⟩
      · have HK2 := Lib.hid (HT.out hz)
        clear hz
        go_wp2
        go_roundw
        case rel => exact ⟨k + 1, HK2, by omega, by go_num, trivial⟩
        case measure => simp [intOf]; omega
    · have HE := Lib.hid (HN.out (by have h1 := HL.out; have h2 := hk.out; omega))
      go_wp2
      go_ret
      exact ⟨by rw [HE.out]; rfl, rfl⟩
set_option maxHeartbeats 1000000 in
theorem run1_calls (A : Option Addr) (c : Nat) (xs : List Int) (w : World) (hC : (Kd.int .u8).C w A xs.length xs) (hl : xs.length ≤ 140737488355328) :
    Calls Tryd.prog 21 #[.slice A xs.length c, .func (.func 23) #[] #[]] w fun e w' => e = .returned (.int .i64 (runL 1 xs)) ∧ Below w.heap.size w w' := by
  have HC := Lib.hid hC
  clear hC
  have HL := Lib.hid (runL_le 1 xs)
  by_cases hr : runL 1 xs = xs.length
  · have HN := Lib.hid (idx_none 1 xs hr)
    have HR := Lib.hid hr
    clear hr
    go_enter Tryd.func21, Tryd.ntmps21
    go_wp2_with (go_at_call 39; refine (index1_calls A c xs _ _ (Kd.C_below HC.out (balloc (Below.refl _ _) _)) hl (by simp)).mono ?_; rintro e w' ⟨rfl, rfl⟩; rw [HN.out])
    go_ret
    exact ⟨by rw [HR.out]; rfl, balloc (Below.refl _ _) _⟩
  · have HN := Lib.hid (idx_at 1 xs _ rfl (by have := HL.out; omega))
    have HR := Lib.hid hr
    clear hr
    generalize runL 1 xs = n at *
    go_enter Tryd.func21, Tryd.ntmps21
    go_wp2_with (go_at_call 39; refine (index1_calls A c xs _ _ (Kd.C_below HC.out (balloc (Below.refl _ _) _)) hl (by simp)).mono ?_; rintro e w' ⟨rfl, rfl⟩; rw [HN.out])
    go_ret
    exact ⟨rfl, balloc (Below.refl _ _) _⟩
theorem not2_calls (x : Int) (p : Addr) (w : World) (hc : w.cell? p = some (.func (.func 24) #[] #[])) :
    Calls Tryd.prog 40 #[.int .u8 x, .pointer (some p)] w fun e w' => e = .returned (.bool (!isQ 2 x)) ∧ w = w' := by
  go_enter Tryd.func40, Tryd.ntmps40
  go_wp2_with fail
  refine (q2_calls x _).mono ?_
  rintro e w' ⟨rfl, rfl⟩
  obtain ⟨t, ht⟩ : ∃ t, isQ 2 x = t := ⟨_, rfl⟩
  rw [ht]
  have HT := Lib.hid ht
  clear ht
  go_wp2
  go_ret
  exact ⟨by rw [HT.out]; rfl, rfl⟩
set_option maxHeartbeats 1000000 in
theorem index2_calls (A : Option Addr) (c : Nat) (xs : List Int) (p : Addr) (w : World) (hC : (Kd.int .u8).C w A xs.length xs) (hl : xs.length ≤ 140737488355328) (hc : w.cell? p = some (.func (.func 24) #[] #[])) :
    Calls Tryd.prog 39 #[.slice A xs.length c, .func (.func 40) #[] #[.pointer (some p)]] w fun e w' => e = .returned (.int .i64 (idxL 2 xs)) ∧ w = w' := by
  have HC := Lib.hid hC
  have HP := Lib.hid hc
  have HI : Hid (∀ n : Nat, runL 2 xs = n → n < xs.length → idxL 2 xs = n) := Lib.hid (idx_at 2 xs)
  have HN : Hid (runL 2 xs = xs.length → idxL 2 xs = -1) := Lib.hid (idx_none 2 xs)
  have HL := Lib.hid (runL_le 2 xs)
  clear hC hc
  go_enter Tryd.func39, Tryd.ntmps39
  go_wp2
  go_loopw [8] (fun j wr => ∃ k : Nat, Hid (k ≤ runL 2 xs) ∧ k ≤ xs.length ∧ j = .int .i64 k ∧ w = wr) (fun j _ => xs.length - (intOf j).toNat)
  case atStart => exact ⟨0, Lib.hid (by omega), by omega, rfl, rfl⟩
  case round =>
    obtain ⟨k, hk, hkl, rfl, rfl⟩ := hrel
    by_cases hkk : k < xs.length
    · obtain ⟨ad, hA, hx⟩ := Kd.at_int HC.out (k : Int) (by omega) (by omega)
      subst hA
      rw [Int.toNat_natCast] at hx
      have HT := Lib.hid (run_more 2 xs k hk.out hkk)
      have HF := Lib.hid (run_stop 2 xs k hk.out hkk)
      generalize rd xs (k : Int) = z at *
      go_wp2_with fail
      refine (not2_calls z p _ HP.out).mono ?_
      rintro e w' ⟨rfl, rfl⟩
      cases hz : isQ 2 z
      · have HI2 := Lib.hid (HI.out k (HF.out hz) hkk)
        clear hz
        go_wp2
        go_ret
        exact ⟨by rw [HI2.out]; rfl, rfl⟩
      · have HK2 := Lib.hid (HT.out hz)
        clear hz
        go_wp2
        go_roundw
        case rel => exact ⟨k + 1, HK2, by omega, by go_num, trivial⟩
        case measure => simp [intOf]; omega
    · have HE := Lib.hid (HN.out (by have h1 := HL.out; have h2 := hk.out; omega))
      go_wp2
      go_ret
      exact ⟨by rw [HE.out]; rfl, rfl⟩
set_option maxHeartbeats 1000000 in
theorem run2_calls (A : Option Addr) (c : Nat) (xs : List Int) (w : World) (hC : (Kd.int .u8).C w A xs.length xs) (hl : xs.length ≤ 140737488355328) :
    Calls Tryd.prog 21 #[.slice A xs.length c, .func (.func 24) #[] #[]] w fun e w' => e = .returned (.int .i64 (runL 2 xs)) ∧ Below w.heap.size w w' := by
  have HC := Lib.hid hC
  clear hC
  have HL := Lib.hid (runL_le 2 xs)
  by_cases hr : runL 2 xs = xs.length
  · have HN := Lib.hid (idx_none 2 xs hr)
    have HR := Lib.hid hr
    clear hr
    go_enter Tryd.func21, Tryd.ntmps21
    go_wp2_with (go_at_call 39; refine (index2_calls A c xs _ _ (Kd.C_below HC.out (balloc (Below.refl _ _) _)) hl (by simp)).mono ?_; rintro e w' ⟨rfl, rfl⟩; rw [HN.out])
    go_ret
    exact ⟨by rw [HR.out]; rfl, balloc (Below.refl _ _) _⟩
  · have HN := Lib.hid (idx_at 2 xs _ rfl (by have := HL.out; omega))
    have HR := Lib.hid hr
    clear hr
    generalize runL 2 xs = n at *
    go_enter Tryd.func21, Tryd.ntmps21
    go_wp2_with (go_at_call 39; refine (index2_calls A c xs _ _ (Kd.C_below HC.out (balloc (Below.refl _ _) _)) hl (by simp)).mono ?_; rintro e w' ⟨rfl, rfl⟩; rw [HN.out])
    go_ret
    exact ⟨rfl, balloc (Below.refl _ _) _⟩
end Go.Proofs.YtfnncfgdlinmcaaDoor.Oct
