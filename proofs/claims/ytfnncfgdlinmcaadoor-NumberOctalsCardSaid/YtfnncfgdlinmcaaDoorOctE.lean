/- hamperref02.Octal answers as number.Octal. -/
import Derived.Test.YtfnncfgdlinmcaaDoorOctO
import Derived.Test.YtfnncfgdlinmcaaDoorPNumberOctalsx2
set_option linter.unusedVariables false
set_option linter.unusedSimpArgs false
namespace Go.Proofs.YtfnncfgdlinmcaaDoor.Oct
open Go.RowKit Go.BigFrame Go.Proofs.YtfnncfgdlinmcaaDoor.Reg Go.Proofs.YtfnncfgdlinmcaaDoorW.PrintWords Go.Proofs.YtfnncfgdlinmcaaDoorW.PrintLast Go.Proofs.YtfnncfgdlinmcaaDoorW.PrintMore
open Go.Proofs.YtfnncfgdlinmcaaDoor.PNumberOctals
theorem rd_at (xs : List Int) (k : Nat) (hk : k < xs.length) : rd xs (k : Int) = xs[k] := by
  unfold rd
  rw [Int.toNat_natCast, List.getD_eq_getElem?_getD, List.getElem?_eq_getElem hk]
  rfl
theorem drop_rd (xs : List Int) (k : Nat) (hk : k < xs.length) : xs.drop k = rd xs (k : Int) :: xs.drop (k + 1) := by
  rw [rd_at xs k hk, List.drop_eq_getElem_cons hk]
/-- What the reading ends with behind the digits. -/
def endO (zs : List Int) (v : Int) (big : Bool) : Int × Int := if runL 2 zs < zs.length then (0, 11) else if big = true then (0, 3) else if 4611686018427387904 < v then (0, 3) else (v, 0)
theorem endO_cons (x : Int) (xs : List Int) (v : Int) (big : Bool) (h : isQ 2 x = true) : endO (x :: xs) v big = endO xs v big := by
  unfold endO
  rw [run_cons, if_pos h, List.length_cons]
  by_cases h1 : runL 2 xs < xs.length
  · rw [if_pos (by omega), if_pos h1]
  · rw [if_neg (by omega), if_neg h1]
theorem wrap_next (i n : Nat) (h : i < n) (hn : n ≤ 140737488355328) : wrap64 ((i : Int) + 1) = ((i + 1 : Nat) : Int) := by
  unfold wrap64; omega
theorem ref_l2 (xs : List Int) (hl : xs.length ≤ 140737488355328) (v : Int) (big : Bool) : ∀ (n i : Nat), i + n = xs.length → ∃ k, hamperref02_Octal.l2 k xs (i : Int) v big = some (endO (xs.drop i) v big)
  | 0, i, h => by
    refine ⟨1 + 1, ?_⟩
    rw [hamperref02_Octal.l2, if_neg (by omega), hamperref02_Octal.j5, if_neg (by omega), show xs.drop i = [] from List.drop_of_length_le (by omega)]
    unfold endO
    rw [if_neg (show ¬ runL 2 ([] : List Int) < ([] : List Int).length by simp)]
    by_cases hv : 4611686018427387904 < v <;> cases big <;> simp [hv]
  | n + 1, i, h => by
    have hi : i < xs.length := by omega
    obtain ⟨k, hk⟩ := ref_l2 xs hl v big n (i + 1) (by omega)
    by_cases h0 : rd xs (i : Int) = 0
    · refine ⟨k + 1, ?_⟩
      rw [hamperref02_Octal.l2, if_pos (by omega), if_pos (by omega), wrap_next i _ hi hl, if_pos h0, hk, drop_rd xs i hi, endO_cons _ _ _ _ (by simp [isQ, h0])]
    by_cases h1 : rd xs (i : Int) = 32
    · refine ⟨k + 1, ?_⟩
      rw [hamperref02_Octal.l2, if_pos (by omega), if_pos (by omega), wrap_next i _ hi hl, if_neg h0, if_pos h1, hk, drop_rd xs i hi, endO_cons _ _ _ _ (by simp [isQ, h1])]
    · refine ⟨1 + 1, ?_⟩
      rw [hamperref02_Octal.l2, if_pos (by omega), if_pos (by omega), if_neg h0, if_neg h1, hamperref02_Octal.j5, if_pos (by omega), drop_rd xs i hi]
      have hr : runL 2 (rd xs (i : Int) :: xs.drop (i + 1)) = 0 := by rw [run_cons, if_neg (by simp [isQ, h0, h1])]
      unfold endO
      rw [hr, if_pos (show 0 < (rd xs (i : Int) :: xs.drop (i + 1)).length by simp)]
def digO : List Int → Int → Bool → Int × Int
  | [], v, big => endO [] v big
  | x :: r, v, big => if isQ 1 x = true then (if 576460752303423488 < v then digO r v true else if big = true then digO r v big else digO r (v * 8 + (x - 48)) big) else endO (x :: r) v big
theorem isQ1 (x : Int) : isQ 1 x = (decide (48 ≤ x) && decide (x ≤ 55)) := rfl
theorem wrap_in (n : Int) (h0 : 0 ≤ n) (h1 : n < 9223372036854775808) : wrap64 n = n := by unfold wrap64; omega
theorem ref_l1 (xs : List Int) (hl : xs.length ≤ 140737488355328) : ∀ (n i : Nat) (v : Int) (big : Bool), i + n = xs.length → 0 ≤ v → v ≤ 4611686018427387911 → ∃ k, hamperref02_Octal.l1 k xs (i : Int) v big = some (digO (xs.drop i) v big)
  | 0, i, v, big, h, v0, v1 => by
    obtain ⟨k, hk⟩ := ref_l2 xs hl v big 0 i h
    refine ⟨k + 1 + 1, ?_⟩
    rw [hamperref02_Octal.l1, if_neg (by omega), hamperref02_Octal.j3, if_neg (by simp), hk, show xs.drop i = [] from List.drop_of_length_le (by omega)]
    rfl
  | n + 1, i, v, big, h, v0, v1 => by
    have hi : i < xs.length := by omega
    have e1 : ∀ k, hamperref02_Octal.l1 (k + 1) xs (i : Int) v big = hamperref02_Octal.j3 k xs (i : Int) v big (isQ 1 (rd xs (i : Int))) := by
      intro k
      rw [hamperref02_Octal.l1, if_pos (by omega), if_pos (by omega), isQ1]
      by_cases h1 : 48 ≤ rd xs (i : Int)
      · rw [if_pos h1, decide_eq_true h1, Bool.true_and]
      · rw [if_neg h1, decide_eq_false h1, Bool.false_and]
    cases hq : isQ 1 (rd xs (i : Int))
    · obtain ⟨k, hk⟩ := ref_l2 xs hl v big (n + 1) i h
      refine ⟨k + 1 + 1, ?_⟩
      rw [e1, hq, hamperref02_Octal.j3, if_neg (by simp), hk, drop_rd xs i hi, digO, if_neg (by simp [hq])]
    · have hb : 48 ≤ rd xs (i : Int) ∧ rd xs (i : Int) ≤ 55 := by rw [isQ1] at hq; simpa using hq
      by_cases hv : 576460752303423488 < v
      · obtain ⟨k, hk⟩ := ref_l1 xs hl n (i + 1) v true (by omega) v0 v1
        refine ⟨k + 1 + 1, ?_⟩
        rw [e1, hq, hamperref02_Octal.j3, if_pos rfl, if_pos hv, wrap_next i _ hi hl, hk, drop_rd xs i hi, digO, if_pos hq, if_pos hv]
      by_cases hbig : big = true
      · obtain ⟨k, hk⟩ := ref_l1 xs hl n (i + 1) v big (by omega) v0 v1
        refine ⟨k + 1 + 1, ?_⟩
        rw [e1, hq, hamperref02_Octal.j3, if_pos rfl, if_neg hv, if_pos hbig, wrap_next i _ hi hl, hk, drop_rd xs i hi, digO, if_pos hq, if_neg hv, if_pos hbig]
      · obtain ⟨k, hk⟩ := ref_l1 xs hl n (i + 1) (v * 8 + (rd xs (i : Int) - 48)) big (by omega) (by omega) (by omega)
        refine ⟨k + 1 + 1, ?_⟩
        rw [e1, hq, hamperref02_Octal.j3, if_pos rfl, if_neg hv, if_neg hbig, if_pos (by omega), if_pos (by omega), wrap_next i _ hi hl, wrap_in (v * 8) (by omega) (by omega), show (rd xs (i : Int) - 48) % 256 = rd xs (i : Int) - 48 by omega, wrap_in _ (by omega) (by omega), hk, drop_rd xs i hi, digO, if_pos hq, if_neg hv, if_neg hbig]
/-- Spaces ahead. -/
theorem ref_l0 (xs : List Int) (hl : xs.length ≤ 140737488355328) : ∀ (n i : Nat), i + n = xs.length → ∃ k, hamperref02_Octal.l0 k xs (i : Int) = some (digO ((xs.drop i).drop (runL 0 (xs.drop i))) 0 false)
  | 0, i, h => by
    obtain ⟨k, hk⟩ := ref_l1 xs hl 0 i 0 false h (by omega) (by omega)
    refine ⟨k + 1 + 1, ?_⟩
    rw [hamperref02_Octal.l0, if_neg (by omega), hamperref02_Octal.j1, hk, show xs.drop i = [] from List.drop_of_length_le (by omega)]
    rfl
  | n + 1, i, h => by
    have hi : i < xs.length := by omega
    by_cases h0 : rd xs (i : Int) = 32
    · obtain ⟨k, hk⟩ := ref_l0 xs hl n (i + 1) (by omega)
      refine ⟨k + 1, ?_⟩
      rw [hamperref02_Octal.l0, if_pos (by omega), if_pos (by omega), if_pos h0, wrap_next i _ hi hl, hk, drop_rd xs i hi, run_cons, if_pos (by simp [isQ, h0]), List.drop_succ_cons]
    · obtain ⟨k, hk⟩ := ref_l1 xs hl (n + 1) i 0 false h (by omega) (by omega)
      refine ⟨k + 1 + 1, ?_⟩
      rw [hamperref02_Octal.l0, if_pos (by omega), if_pos (by omega), if_neg h0, hamperref02_Octal.j1, hk, drop_rd xs i hi, run_cons, if_neg (by simp [isQ, h0]), List.drop_zero]
theorem digO_big : ∀ (ys : List Int) (v : Int), digO ys v true = if runL 2 (ys.drop (runL 1 ys)) < (ys.drop (runL 1 ys)).length then (0, 11) else (0, 3)
  | [], v => by simp [digO, endO]
  | x :: r, v => by
    rw [digO, run_cons]
    split
    · rw [List.drop_succ_cons, ← digO_big r v]
      simp
    · rw [List.drop_zero]
      unfold endO
      simp
theorem digO_octV : ∀ (ys : List Int) (v : Int), digO ys v false = if runL 2 (ys.drop (runL 1 ys)) < (ys.drop (runL 1 ys)).length then (0, 11) else octV v (ys.take (runL 1 ys))
  | [], v => by
    simp [digO, endO, octV]
  | x :: r, v => by
    rw [digO, run_cons]
    split
    · rw [List.drop_succ_cons, List.take_succ_cons, octV]
      split
      · rw [digO_big]
      · rw [if_neg (by simp), digO_octV]
    · rw [List.drop_zero, List.take_zero]
      unfold endO
      simp [octV]
theorem ref_octO (xs : List Int) (hl : xs.length ≤ 140737488355328) : ∃ k, hamperref02_Octal.f k xs = some (octO xs) := by
  obtain ⟨k, hk⟩ := ref_l0 xs hl xs.length 0 (by omega)
  refine ⟨k, ?_⟩
  unfold hamperref02_Octal.f
  rw [show ((0 : Nat) : Int) = 0 from rfl] at hk
  rw [hk, List.drop_zero, digO_octV]
  rfl
theorem refOct_calls (A : Option Addr) (c : Nat) (xs : List Int) (w : World) (hC : (Kd.int .u8).C w A xs.length xs) (hl : xs.length ≤ 140737488355320) (hc : xs.length ≤ c) :
    Calls Tryd.prog 9 #[.slice A xs.length c] w fun e w' => e = .returned (.tuple #[.int .i64 (octO xs).1, .int .i64 (octO xs).2]) ∧ Drawn0 w w' := by
  obtain ⟨k, hk⟩ := ref_octO xs (by omega)
  exact hamperref02_Octal.calls k A c xs _ _ w hC hc hk
end Go.Proofs.YtfnncfgdlinmcaaDoor.Oct
