/- The decimal numeral: strconv's (Lib.itoa, Lib.atoiAll). Plain Lean. -/
import Derived.Test.YtfnncfgdlinmcaaDoorWLast
import Derived.Test.YtfnncfgdlinmcaaDoorWMore
import Derived.Lib.CutLaws
import Derived.Lib.IndexBytes
import Derived.Lib.IndexMore
import Derived.Lib.ItoaMem
import Derived.Lib.ItoaLen
import Derived.Lib.AtoiAllCases
set_option linter.unusedVariables false
namespace Go.Proofs.YtfnncfgdlinmcaaDoor.Rec
open Go.RowKit Go.Proofs.YtfnncfgdlinmcaaDoorW.PrintWords Go.Proofs.YtfnncfgdlinmcaaDoorW.PrintLast Go.Proofs.YtfnncfgdlinmcaaDoorW.PrintMore Go.Lib

def B (l : List UInt8) : ByteArray := ⟨l.toArray⟩
theorem B_app (a b : List UInt8) : B a ++ B b = B (a ++ b) := by
  apply ByteArray.ext
  simp [B, ByteArray.data_append]
theorem B_list (a : List UInt8) : (B a).toList = a := by unfold B; simp
theorem B_data (a : List UInt8) : (B a).data.toList = a := by simp [B]
theorem B_size (a : List UInt8) : (B a).size = a.length := by simp [B, ByteArray.size]
theorem of_B (s : ByteArray) : B s.data.toList = s := by apply ByteArray.ext; simp [B]
theorem wrap64_id (x : Int) (h0 : -9223372036854775808 ≤ x) (h1 : x ≤ 9223372036854775807) : wrap64 x = x := by unfold wrap64; omega
theorem wrap64_in' (x : Int) : -9223372036854775808 ≤ wrap64 x ∧ wrap64 x ≤ 9223372036854775807 := by unfold wrap64; omega

/-! ### Atoi behind Itoa -/
theorem digit_nat (u : Nat) (h : u < 10) : (UInt8.ofNat (48 + u)).toNat = 48 + u := by
  rw [UInt8.toNat_ofNat']
  exact Nat.mod_eq_of_lt (by omega)
theorem parse_dec (u : Nat) : ∀ r, u < 18446744073709551616 → parseUint10 0 (decDigits u ++ r) = parseUint10 u r := by
  induction u using Nat.strongRecOn with
  | _ u ih =>
    intro r hu
    by_cases h : u < 10
    · rw [decDigits, dif_pos h, List.singleton_append, parseUint10, digit_nat u h, if_pos (by omega), if_neg (by omega), if_neg (by omega)]
      congr 1
      omega
    · rw [decDigits, dif_neg h, List.append_assoc, ih (u / 10) (by omega) _ (by omega), List.singleton_append, parseUint10, digit_nat _ (Nat.mod_lt _ (by omega)), if_pos (by omega), if_neg (by omega), if_neg (by omega)]
      congr 1
      omega
theorem dec_head (u : Nat) : ∃ c r, decDigits u = c :: r ∧ 48 ≤ c.toNat ∧ c.toNat ≤ 57 := by
  induction u using Nat.strongRecOn with
  | _ u ih =>
    by_cases h : u < 10
    · exact ⟨_, [], by rw [decDigits, dif_pos h], by rw [digit_nat u h]; omega, by rw [digit_nat u h]; omega⟩
    · obtain ⟨c, r, e, h1, h2⟩ := ih (u / 10) (by omega)
      exact ⟨c, r ++ [UInt8.ofNat (48 + u % 10)], by rw [decDigits, dif_neg h, e]; rfl, h1, h2⟩
theorem mag_dec (u : Nat) (hu : u < 18446744073709551616) : parseMag (decDigits u) = .ok u := by
  obtain ⟨c, r, e, _⟩ := dec_head u
  unfold parseMag
  rw [if_neg (by rw [e]; simp)]
  have h := parse_dec u [] hu
  rw [List.append_nil] at h
  rw [h]
  rfl
theorem atoi_itoa (n : Int) (h0 : -9223372036854775808 ≤ n) (h1 : n ≤ 9223372036854775807) : atoiAll (itoa n) = .ok n := by
  by_cases hn : n < 0
  · unfold itoa
    rw [if_pos hn, atoiAll_minus, mag_dec _ (by omega), signed, if_neg (by omega)]
    congr 1
    omega
  · unfold itoa
    rw [if_neg hn]
    obtain ⟨c, r, e, hc1, hc2⟩ := dec_head n.toNat
    have hm := mag_dec n.toNat (by omega)
    rw [e] at hm ⊢
    rw [atoiAll_plain c r (by omega) (by omega), hm, signless, if_neg (by omega)]
    congr 1
    omega
theorem itoa_inj (m n : Int) (h0 : -9223372036854775808 ≤ m) (h1 : m ≤ 9223372036854775807) (h2 : -9223372036854775808 ≤ n) (h3 : n ≤ 9223372036854775807) (h : itoa m = itoa n) : m = n := by
  have a := atoi_itoa m h0 h1
  rw [h, atoi_itoa n h2 h3] at a
  injection a with a
  exact a.symm
/-- What both ReadDecimals answer. -/
def rdec (s : List UInt8) : Int × Int :=
  match atoiAll s with
  | .ok v => if itoa v = s then (v, 0) else (0, 11)
  | _ => (0, 11)
theorem rdec_itoa (n : Int) (h0 : -9223372036854775808 ≤ n) (h1 : n ≤ 9223372036854775807) : rdec (itoa n) = (n, 0) := by
  unfold rdec
  rw [atoi_itoa n h0 h1]
  exact if_pos rfl
theorem rdec_not (s : List UInt8) (h : ∀ n : Int, -9223372036854775808 ≤ n → n ≤ 9223372036854775807 → itoa n ≠ s) : rdec s = (0, 11) := by
  unfold rdec
  rcases ha : atoiAll s with v | _ | _
  · obtain ⟨b1, b2⟩ := atoiAll_bounds ha
    exact if_neg (h v b1 b2)
  · rfl
  · rfl

end Go.Proofs.YtfnncfgdlinmcaaDoor.Rec
