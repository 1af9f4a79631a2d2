/- The pure statement behind hamperlaw02.NumberChecks: for any two 64-bit numbers the printed program's Add and Mul answer as the printed reference's do. No condition. -/
import Derived.Test.YtmecigllpdeeoaaPNumberChecksx1
namespace Go.Proofs.Ytmecigllpdeeoaa.Pure
open Go.RowKit Go.Proofs.Ytmecigllpdeeoaa.PNumberChecks Go.Proofs.YtmecigllpdeeoaaW.PrintWords Go.Proofs.YtmecigllpdeeoaaW.PrintLast

def InR (x : Int) : Prop := -9223372036854775808 ≤ x ∧ x < 9223372036854775808
instance (x : Int) : Decidable (InR x) := by unfold InR; infer_instance

theorem wf_in {a : Int} (h : (Lit.int .i64 a).wf = true) : -9223372036854775808 ≤ a ∧ a < 9223372036854775808 := by
  simp [Lit.wf, IntKind.min, IntKind.max, IntKind.signed, IntKind.bits] at h
  omega

theorem wrap_id {x : Int} (h1 : -9223372036854775808 ≤ x) (h2 : x < 9223372036854775808) : wrap64 x = x := by
  unfold wrap64; omega
theorem wrap_mod (x : Int) : ∃ q : Int, wrap64 x = x + q * 18446744073709551616 ∧ -9223372036854775808 ≤ wrap64 x ∧ wrap64 x < 9223372036854775808 := by
  refine ⟨(wrap64 x - x) / 18446744073709551616, ?_⟩
  unfold wrap64; omega
theorem wrap_top : wrap64 9223372036854775808 = -9223372036854775808 := by unfold wrap64; omega
theorem mul_key (a b : Int) (ha0 : a ≠ 0) (ha : -9223372036854775808 ≤ a) (ha' : a < 9223372036854775808) (hb : -9223372036854775808 ≤ b) (hb' : b < 9223372036854775808)
    (hx : ¬ (a = -1 ∧ b = -9223372036854775808)) :
    wrap64 (Int.tdiv (wrap64 (a * b)) a) = b ↔ (-9223372036854775808 ≤ a * b ∧ a * b < 9223372036854775808) := by
  constructor
  · intro h
    obtain ⟨q, e, l, u⟩ := wrap_mod (a*b)
    generalize hc : wrap64 (a*b) = c at *
    have hdm := Int.mul_tdiv_add_tmod c a
    have hr : (Int.tmod c a).natAbs < a.natAbs := by
      rw [Int.natAbs_tmod]; exact Nat.mod_lt _ (by omega)
    have hd : (Int.tdiv c a).natAbs ≤ c.natAbs := by
      rw [Int.natAbs_tdiv]; exact Nat.div_le_self _ _
    generalize hD : Int.tdiv c a = d at *
    generalize hR : Int.tmod c a = r at *
    have hdb : d = b := by
      by_cases hd2 : d = 9223372036854775808
      · exfalso
        subst hd2
        have : c = -9223372036854775808 := by omega
        have hb2 : b = -9223372036854775808 := by rw [← h]; exact wrap_top
        apply hx
        refine ⟨?_, hb2⟩
        omega
      · rw [← h, wrap_id (by omega) (by omega)]
    subst hdb
    have : r = q * 18446744073709551616 := by omega
    have : q = 0 := by omega
    subst this
    omega
  · rintro ⟨h1, h2⟩
    rw [wrap_id h1 h2, Int.mul_tdiv_cancel_left _ ha0, wrap_id hb hb']

def mulR (a b : Int) : Int × Bool := if InR (a * b) then (a * b, true) else (0, false)
theorem mulR_zero_left (b : Int) : mulR 0 b = (0, true) := by unfold mulR; rw [if_pos (by unfold InR; omega)]; simp
theorem mulR_zero_right (a : Int) : mulR a 0 = (0, true) := by unfold mulR; rw [if_pos (by unfold InR; omega)]; simp

theorem number_mul (a b : Int) (ha : InR a) (hb : InR b) : number_Mul.f 2 a b = some (mulR a b) := by
  obtain ⟨ha1, ha2⟩ := ha
  obtain ⟨hb1, hb2⟩ := hb
  unfold number_Mul.f
  by_cases h0 : a = 0
  · rw [if_pos h0]; simp only [number_Mul.j0]; rw [if_pos trivial, h0, mulR_zero_left]
  rw [if_neg h0]
  simp only [number_Mul.j0]
  by_cases h1 : b = 0
  · rw [if_pos (by simp [h1]), h1, mulR_zero_right]
  rw [if_neg (by simp [h1])]
  have no : ∀ (c : Bool), c = true → InR (a * b) = False → number_Mul.j1 1 a b c = some (mulR a b) := by
    intro c hc hn
    simp only [number_Mul.j1]; rw [if_pos hc]; simp [mulR, hn]
  have yes : ¬ (a = -1 ∧ b = -9223372036854775808) → number_Mul.j1 1 a b false = some (mulR a b) := by
    intro hx
    simp only [number_Mul.j1]; rw [if_neg (by simp), if_neg h0]
    unfold mulR
    have k := mul_key a b h0 ha1 ha2 hb1 hb2 hx
    by_cases hr : InR (a * b)
    · rw [if_pos (k.2 hr), if_pos hr, wrap_id hr.1 hr.2]
    · rw [if_neg (fun e => hr (k.1 e)), if_neg hr]
  by_cases h2 : a = -1
  · rw [if_pos h2]
    by_cases h3 : b = -9223372036854775808
    · rw [if_pos h3]; exact no _ rfl (by unfold InR; subst h2 h3; simp)
    · rw [if_neg h3]
      by_cases h4 : b = -1
      · rw [if_pos h4]
        have : (a == (-9223372036854775808)) = false := by subst h2; rfl
        rw [this]; exact yes (by omega)
      · rw [if_neg h4]; exact yes (by omega)
  · rw [if_neg h2]
    by_cases h4 : b = -1
    · rw [if_pos h4]
      by_cases h5 : a = -9223372036854775808
      · rw [no _ (by subst h5; rfl) (by unfold InR; subst h4 h5; simp)]
      · have : (a == (-9223372036854775808)) = false := by simpa using h5
        rw [this]; exact yes (by omega)
    · rw [if_neg h4]; exact yes (by omega)

theorem ref_mul (a b : Int) (ha : InR a) (hb : InR b) : hamperref02_Mul.f 2 a b = some (mulR a b) := by
  obtain ⟨ha1, ha2⟩ := ha
  obtain ⟨hb1, hb2⟩ := hb
  unfold hamperref02_Mul.f
  by_cases h0 : a = 0
  · rw [if_pos h0]; simp only [hamperref02_Mul.j0]; rw [if_pos trivial, h0, mulR_zero_left]
  rw [if_neg h0]
  simp only [hamperref02_Mul.j0]
  by_cases h1 : b = 0
  · rw [if_pos (by simp [h1]), h1, mulR_zero_right]
  rw [if_neg (by simp [h1])]
  have no : ∀ (c : Bool), c = true → InR (a * b) = False → hamperref02_Mul.j1 1 a b c = some (mulR a b) := by
    intro c hc hn
    simp only [hamperref02_Mul.j1]; rw [if_pos hc]; simp [mulR, hn]
  have yes : ¬ (b = -1 ∧ a = -9223372036854775808) → hamperref02_Mul.j1 1 a b false = some (mulR a b) := by
    intro hx
    simp only [hamperref02_Mul.j1]; rw [if_neg (by simp), if_neg h1]
    unfold mulR
    have k := mul_key b a h1 hb1 hb2 ha1 ha2 hx
    rw [Int.mul_comm b a] at k
    by_cases hr : InR (a * b)
    · rw [if_pos (k.2 hr), if_pos hr, wrap_id hr.1 hr.2]
    · rw [if_neg (fun e => hr (k.1 e)), if_neg hr]
  by_cases h2 : a = -1
  · rw [if_pos h2]
    by_cases h3 : b = -9223372036854775808
    · rw [if_pos h3]; exact no _ rfl (by unfold InR; subst h2 h3; simp)
    · rw [if_neg h3]
      by_cases h4 : b = -1
      · rw [if_pos h4]
        have : (a == (-9223372036854775808)) = false := by subst h2; rfl
        rw [this]; exact yes (by omega)
      · rw [if_neg h4]; exact yes (by omega)
  · rw [if_neg h2]
    by_cases h4 : b = -1
    · rw [if_pos h4]
      by_cases h5 : a = -9223372036854775808
      · rw [no _ (by subst h5; rfl) (by unfold InR; subst h4 h5; simp)]
      · have : (a == (-9223372036854775808)) = false := by simpa using h5
        rw [this]; exact yes (by omega)
    · rw [if_neg h4]; exact yes (by omega)

def addR (a b : Int) : Int × Bool := if InR (a + b) then (a + b, true) else (0, false)
theorem wrap_cases (a b : Int) (ha : InR a) (hb : InR b) : (InR (a + b) ∧ wrap64 (a + b) = a + b) ∨ (a + b < -9223372036854775808 ∧ wrap64 (a + b) = a + b + 18446744073709551616) ∨ (9223372036854775808 ≤ a + b ∧ wrap64 (a + b) = a + b - 18446744073709551616) := by
  unfold InR at *; unfold wrap64; omega
theorem number_add (a b : Int) (ha : InR a) (hb : InR b) : number_Add.f a b = some (addR a b) := by
  unfold number_Add.f addR
  rcases wrap_cases a b ha hb with ⟨h, e⟩ | ⟨h, e⟩ | ⟨h, e⟩ <;> rw [e]
  · rw [if_pos h]
    by_cases hb0 : b = 0
    · rw [if_pos hb0]; split <;> rfl
    · have : ((decide (a + b > a)) != (decide (b > 0))) = false := by
        have : (a + b > a) = (b > 0) := propext (by omega)
        simp [this]
      rw [if_neg (by simp [this])]
  · have h1 : (decide (a + b + 18446744073709551616 > a)) = true := by unfold InR at *; simp; omega
    have h2 : (decide (b > 0)) = false := by unfold InR at *; simp; omega
    rw [if_pos (by rw [h1, h2]; rfl), if_neg (by unfold InR at *; omega), if_neg (by unfold InR; omega)]
  · have h1 : (decide (a + b - 18446744073709551616 > a)) = false := by unfold InR at *; simp; omega
    have h2 : (decide (b > 0)) = true := by unfold InR at *; simp; omega
    rw [if_pos (by rw [h1, h2]; rfl), if_neg (by unfold InR at *; omega), if_neg (by unfold InR; omega)]
theorem ref_add (a b : Int) (ha : InR a) (hb : InR b) : hamperref02_Add.f a b = some (addR a b) := by
  unfold hamperref02_Add.f addR
  have hw : InR (a + b) → wrap64 (a + b) = a + b := fun h => wrap_id h.1 h.2
  by_cases h1 : b > 0
  · rw [if_pos h1, wrap_id (by unfold InR at *; omega) (by unfold InR at *; omega)]
    by_cases h2 : a > 9223372036854775807 - b
    · rw [if_pos h2, if_neg (by unfold InR; omega)]
    · rw [if_neg h2, if_neg (by omega), hw (by unfold InR at *; omega), if_pos (by unfold InR at *; omega)]
  · rw [if_neg h1]
    by_cases h2 : b < 0
    · rw [if_pos h2, wrap_id (by unfold InR at *; omega) (by unfold InR at *; omega)]
      by_cases h3 : a < -9223372036854775808 - b
      · rw [if_pos h3, if_neg (by unfold InR; omega)]
      · rw [if_neg h3, hw (by unfold InR at *; omega), if_pos (by unfold InR at *; omega)]
    · rw [if_neg h2, hw (by unfold InR at *; omega), if_pos (by unfold InR at *; omega)]

theorem NumberChecks : hamperlaw02_NumberChecks.Pure := by
  intro a b wa wb
  have ha : InR a := wf_in wa
  have hb : InR b := wf_in wb
  refine ⟨2, ?_⟩
  unfold hamperlaw02_NumberChecks.f
  rw [number_add a b ha hb, number_mul a b ha hb, ref_add a b ha hb, ref_mul a b ha hb]
  simp

end Go.Proofs.Ytmecigllpdeeoaa.Pure
