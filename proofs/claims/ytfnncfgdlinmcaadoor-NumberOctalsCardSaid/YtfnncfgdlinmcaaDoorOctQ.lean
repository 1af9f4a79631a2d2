/- hamperref02.PutOctal answers as number.PutOctal. No walk in it. -/
import Derived.Test.YtfnncfgdlinmcaaDoorOctP
set_option linter.unusedVariables false
set_option linter.unusedSimpArgs false
namespace Go.Proofs.YtfnncfgdlinmcaaDoor.Oct
open Go.RowKit Go.Proofs.YtfnncfgdlinmcaaDoorW.PrintWords Go.Proofs.YtfnncfgdlinmcaaDoor.PPutOctal
theorem w64 {x : Int} (h0 : -9223372036854775808 ≤ x) (h1 : x ≤ 9223372036854775807) : wrap64 x = x := by
  unfold wrap64; omega
/-- What the loop makes, m places left. -/
def fin : Nat → Nat → List Int → List Int × Int
  | 0, v, ds => if v > 0 then ([], 3) else (ds ++ [0], 0)
  | m + 1, v, ds => fin m (v / 8) (((48 : Int) + (v % 8 : Nat)) :: ds)
theorem octF_zero (f : Nat) : octF (f + 1) 0 = [48] := by rw [octF_step, if_pos (by omega)]; rfl
theorem fin_is : ∀ (m v f : Nat) (ds : List Int), v < 8 ^ (f + 1) → fin (m + 1) v ds = if m + 1 < (octF (f + 1) v).length then ([], 3) else (List.replicate (m + 1 - (octF (f + 1) v).length) 48 ++ octF (f + 1) v ++ ds ++ [0], 0)
  | 0, v, f, ds, hv => by
    show fin 0 (v / 8) (((48 : Int) + (v % 8 : Nat)) :: ds) = _
    unfold fin
    rw [octF_step]
    by_cases h : v < 8
    · rw [if_pos h, if_neg (by omega), if_neg (by simp), Nat.mod_eq_of_lt h]
      simp
    · rw [if_neg h, if_pos (by omega), if_pos]
      obtain ⟨g, rfl⟩ : ∃ g, f = g + 1 := ⟨f - 1, by
        rcases Nat.eq_zero_or_pos f with h0 | h0
        · subst h0; simp at hv; omega
        · omega⟩
      have := (octF_pos g (v / 8)).1
      rw [List.length_append, List.length_singleton]
      omega
  | m + 1, v, f, ds, hv => by
    show fin (m + 1) (v / 8) (((48 : Int) + (v % 8 : Nat)) :: ds) = _
    by_cases h : v < 8
    · have e0 : v / 8 = 0 := by omega
      rw [e0, fin_is m 0 f _ (Nat.pow_pos (by omega)), octF_zero, octF_step, if_pos h, if_neg (by simp), if_neg (by simp), Nat.mod_eq_of_lt h]
      simp only [List.length_singleton, Nat.add_sub_cancel]
      rw [show m + 1 = m + 1 from rfl, List.replicate_succ']
      simp
    · obtain ⟨g, rfl⟩ : ∃ g, f = g + 1 := ⟨f - 1, by
        rcases Nat.eq_zero_or_pos f with h0 | h0
        · subst h0; simp at hv; omega
        · omega⟩
      have hp := pow8 (g + 1)
      rw [fin_is m (v / 8) g _ (by omega)]
      conv => rhs; rw [octF_step (g + 1) v]
      rw [if_neg h, List.length_append, List.length_singleton]
      by_cases hm : m + 1 < (octF (g + 1) (v / 8)).length
      · rw [if_pos hm, if_pos (by omega)]
      · rw [if_neg hm, if_neg (by omega), show m + 1 + 1 - ((octF (g + 1) (v / 8)).length + 1) = m + 1 - (octF (g + 1) (v / 8)).length by omega]
        simp
theorem set_at (j : Nat) (c : Int) (ds : List Int) : (List.replicate (j + 1) (0 : Int) ++ ds).set j c = List.replicate j 0 ++ c :: ds := by
  rw [List.replicate_succ', List.append_assoc, List.set_append_right _ _ (by simp)]
  simp
theorem put_is : ∀ (j k v : Nat) (ds : List Int), v < 9223372036854775808 → j ≤ 64 → j + 1 ≤ k → hamperref02_PutOctal.l0 k (v : Int) (List.replicate j 0 ++ (ds ++ [0])) ((j : Int) - 1) = some (fin j v ds)
  | 0, k + 1, v, ds, hv, hj, hk => by
    unfold hamperref02_PutOctal.l0
    rw [if_neg (by omega)]
    unfold fin
    by_cases h : v > 0
    · rw [if_pos (by omega), if_pos h]
    · rw [if_neg (by omega), if_neg h]; simp
  | j + 1, k + 1, v, ds, hv, hj, hk => by
    unfold hamperref02_PutOctal.l0
    have e1 : (((j + 1 : Nat) : Int) - 1) = (j : Int) := by omega
    rw [e1, if_pos (by omega), if_pos (by omega), if_pos (by simp; omega), Int.tdiv_eq_ediv_of_nonneg (by omega), Int.tmod_eq_emod_of_nonneg (by omega), w64 (by omega) (by omega), w64 (by omega) (by omega), w64 (by omega) (by omega), Int.toNat_natCast, set_at]
    have ih := put_is j k (v / 8) ((((48 : Int) + (v % 8 : Nat))) :: ds) (by omega) (by omega) (by omega)
    have e2 : ((v : Int) / 8) = ((v / 8 : Nat) : Int) := by omega
    have e3 : ((48 : Int) + (v : Int) % 8) % 256 = (48 : Int) + (v % 8 : Nat) := by omega
    rw [e2, e3]
    exact ih
theorem j0_t (k : Nat) (v n : Int) : hamperref02_PutOctal.j0 (k + 1) v n true = some ([], 2) := by rw [hamperref02_PutOctal.j0, if_pos rfl]
theorem j0_f (k : Nat) (v n : Int) : hamperref02_PutOctal.j0 (k + 1) v n false = (if 0 ≤ n then (if (n : Int).toNat ≤ 281474976710656 then (hamperref02_PutOctal.l0 k v (List.replicate (n : Int).toNat 0) (wrap64 (n - 2))) else (none)) else (none)) := by rw [hamperref02_PutOctal.j0, if_neg (by simp)]
theorem refPut (v n : Int) (hv : v ≤ 9223372036854775807) : hamperref02_PutOctal.f 70 v n = some (octP v n) := by
  unfold hamperref02_PutOctal.f
  have ht : hamperref02_PutOctal.j0 70 v n true = some ([], 2) := j0_t 69 v n
  by_cases h1 : n < 2
  · rw [if_pos h1, ht]; unfold octP; rw [if_pos (.inl h1)]
  rw [if_neg h1]
  by_cases h2 : n > 64
  · rw [if_pos h2, ht]; unfold octP; rw [if_pos (.inr (.inl h2))]
  rw [if_neg h2]
  by_cases h3 : v < 0
  · rw [decide_eq_true h3, ht]; unfold octP; rw [if_pos (.inr (.inr h3))]
  rw [decide_eq_false h3]
  obtain ⟨u, rfl⟩ := Int.eq_ofNat_of_zero_le (show 0 ≤ v by omega)
  obtain ⟨j, rfl⟩ : ∃ j : Nat, n = (j : Int) + 2 := ⟨(n - 2).toNat, by omega⟩
  rw [show hamperref02_PutOctal.j0 70 (u : Int) ((j : Int) + 2) false = _ from j0_f 69 _ _, if_pos (by omega), if_pos (by omega), w64 (by omega) (by omega), show ((j : Int) + 2).toNat = (j + 1) + 1 by omega, List.replicate_succ']
  have h := put_is (j + 1) 69 u [] (by omega) (by omega) (by omega)
  rw [List.nil_append, show (((j + 1 : Nat) : Int) - 1) = (j : Int) + 2 - 2 by omega] at h
  rw [h, fin_is j u 20 [] (by have : (8 : Nat) ^ 21 = 9223372036854775808 := by decide
                              omega)]
  congr 1
  have hP : octP (u : Int) ((j : Int) + 2) = if (j : Int) + 2 - 1 < (octF (20 + 1) u).length then ([], 3) else (List.replicate (j + 1 - (octF (20 + 1) u).length) 48 ++ octF (20 + 1) u ++ [0], 0) := by
    unfold octP digs
    rw [if_neg (by omega), Int.toNat_natCast, show ((j : Int) + 2).toNat - 1 = j + 1 by omega]
  rw [hP]
  generalize octF (20 + 1) u = D
  by_cases hb : j + 1 < D.length
  · rw [if_pos hb, if_pos (by omega)]
  · rw [if_neg hb, if_neg (by omega), List.append_nil]
theorem refPut_calls (v n : Int) (hv : v ≤ 9223372036854775807) (w : World) : Calls Tryd.prog 7 #[.int .i64 v, .int .i64 n] w (OctPost v n w) :=
  hamperref02_PutOctal.calls 70 v n _ _ w (refPut v n hv)
end Go.Proofs.YtfnncfgdlinmcaaDoor.Oct
