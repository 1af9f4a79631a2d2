/- The decimal numeral: strconv's (Lib.itoa, Lib.atoiAll) against hamperref02's. Plain Lean. -/
import Derived.Test.YtmecigllpdeeoaaDoorPReadDecimalx1
import Derived.Lib.ItoaMem
import Derived.Lib.ItoaLen
import Derived.Lib.AtoiAllCases
set_option linter.unusedVariables false
namespace Go.Proofs.YtmecigllpdeeoaaDoor.Dig
open Go.RowKit Go.Proofs.YtmecigllpdeeoaaDoorW.PrintWords Go.Proofs.YtmecigllpdeeoaaDoorW.PrintLast Go.Proofs.YtmecigllpdeeoaaDoorW.PrintMore Go.Lib Go.Proofs.YtmecigllpdeeoaaDoor.PReadDecimal

def B (l : List UInt8) : ByteArray := ⟨l.toArray⟩
theorem B_app (a b : List UInt8) : B a ++ B b = B (a ++ b) := by
  apply ByteArray.ext
  simp [B, ByteArray.data_append]
theorem B_list (a : List UInt8) : (B a).toList = a := by unfold B; simp
theorem B_data (a : List UInt8) : (B a).data.toList = a := by simp [B]
theorem B_size (a : List UInt8) : (B a).size = a.length := by simp [B, ByteArray.size]
theorem of_B (s : ByteArray) : B s.data.toList = s := by apply ByteArray.ext; simp [B]
theorem wrap64_id (x : Int) (h0 : -9223372036854775808 ≤ x) (h1 : x ≤ 9223372036854775807) : wrap64 x = x := by unfold wrap64; omega
theorem wrap64_in' (x : Int) : -9223372036854775808 ≤ wrap64 x ∧ wrap64 x ≤ 9223372036854775807 := by unfold wrap64; omega

/-! ### Atoi behind Itoa -/
theorem digit_nat (u : Nat) (h : u < 10) : (UInt8.ofNat (48 + u)).toNat = 48 + u := by
  rw [UInt8.toNat_ofNat']
  exact Nat.mod_eq_of_lt (by omega)
theorem parse_dec (u : Nat) : ∀ r, u < 18446744073709551616 → parseUint10 0 (decDigits u ++ r) = parseUint10 u r := by
  induction u using Nat.strongRecOn with
  | _ u ih =>
    intro r hu
    by_cases h : u < 10
    · rw [decDigits, dif_pos h, List.singleton_append, parseUint10, digit_nat u h, if_pos (by omega), if_neg (by omega), if_neg (by omega)]
      congr 1
      omega
    · rw [decDigits, dif_neg h, List.append_assoc, ih (u / 10) (by omega) _ (by omega), List.singleton_append, parseUint10, digit_nat _ (Nat.mod_lt _ (by omega)), if_pos (by omega), if_neg (by omega), if_neg (by omega)]
      congr 1
      omega
theorem dec_head (u : Nat) : ∃ c r, decDigits u = c :: r ∧ 48 ≤ c.toNat ∧ c.toNat ≤ 57 := by
  induction u using Nat.strongRecOn with
  | _ u ih =>
    by_cases h : u < 10
    · exact ⟨_, [], by rw [decDigits, dif_pos h], by rw [digit_nat u h]; omega, by rw [digit_nat u h]; omega⟩
    · obtain ⟨c, r, e, h1, h2⟩ := ih (u / 10) (by omega)
      exact ⟨c, r ++ [UInt8.ofNat (48 + u % 10)], by rw [decDigits, dif_neg h, e]; rfl, h1, h2⟩
theorem mag_dec (u : Nat) (hu : u < 18446744073709551616) : parseMag (decDigits u) = .ok u := by
  obtain ⟨c, r, e, _⟩ := dec_head u
  unfold parseMag
  rw [if_neg (by rw [e]; simp)]
  have h := parse_dec u [] hu
  rw [List.append_nil] at h
  rw [h]
  rfl
theorem atoi_itoa (n : Int) (h0 : -9223372036854775808 ≤ n) (h1 : n ≤ 9223372036854775807) : atoiAll (itoa n) = .ok n := by
  by_cases hn : n < 0
  · unfold itoa
    rw [if_pos hn, atoiAll_minus, mag_dec _ (by omega), signed, if_neg (by omega)]
    congr 1
    omega
  · unfold itoa
    rw [if_neg hn]
    obtain ⟨c, r, e, hc1, hc2⟩ := dec_head n.toNat
    have hm := mag_dec n.toNat (by omega)
    rw [e] at hm ⊢
    rw [atoiAll_plain c r (by omega) (by omega), hm, signless, if_neg (by omega)]
    congr 1
    omega
theorem itoa_inj (m n : Int) (h0 : -9223372036854775808 ≤ m) (h1 : m ≤ 9223372036854775807) (h2 : -9223372036854775808 ≤ n) (h3 : n ≤ 9223372036854775807) (h : itoa m = itoa n) : m = n := by
  have a := atoi_itoa m h0 h1
  rw [h, atoi_itoa n h2 h3] at a
  injection a with a
  exact a.symm
/-- What both ReadDecimals answer. -/
def rdec (s : List UInt8) : Int × Int :=
  match atoiAll s with
  | .ok v => if itoa v = s then (v, 0) else (0, 11)
  | _ => (0, 11)
theorem rdec_itoa (n : Int) (h0 : -9223372036854775808 ≤ n) (h1 : n ≤ 9223372036854775807) : rdec (itoa n) = (n, 0) := by
  unfold rdec
  rw [atoi_itoa n h0 h1]
  exact if_pos rfl
theorem rdec_not (s : List UInt8) (h : ∀ n : Int, -9223372036854775808 ≤ n → n ≤ 9223372036854775807 → itoa n ≠ s) : rdec s = (0, 11) := by
  unfold rdec
  rcases ha : atoiAll s with v | _ | _
  · obtain ⟨b1, b2⟩ := atoiAll_bounds ha
    exact if_neg (h v b1 b2)
  · rfl
  · rfl

/-! ### hamperref02.Decimal -/
theorem piece (u : Nat) (h : u < 10) : (⟨#[48, 49, 50, 51, 52, 53, 54, 55, 56, 57]⟩ : ByteArray).extract u (u + 1) = B [UInt8.ofNat (48 + u)] := by
  have key : ∀ v : Fin 10, (⟨#[48, 49, 50, 51, 52, 53, 54, 55, 56, 57]⟩ : ByteArray).extract v.val (v.val + 1) = B [UInt8.ofNat (48 + v.val)] := by decide +kernel
  exact key ⟨u, h⟩
theorem nDigits_le : ∀ (k u : Nat), u < 10 ^ (k + 1) → nDigits u ≤ k + 1
  | 0, u, h => by rw [nDigits_small (by simpa using h)]; exact Nat.le_refl _
  | k + 1, u, h => by
    by_cases h1 : u < 10
    · rw [nDigits_small h1]; omega
    · rw [nDigits_big h1]
      have := nDigits_le k (u / 10) (by rw [Nat.pow_succ] at h; omega)
      omega
theorem dec_pos : ∀ (k u : Nat), u < 10 ^ (k + 1) → u ≤ 9223372036854775807 → k < 30 → ∀ m, k < m → hamperref02_Decimal.f m (u : Int) = some (B (decDigits u))
  | _, u, _, _, _, 0, hm => by omega
  | k, u, hu, hb, hk, m + 1, hm => by
    rw [hamperref02_Decimal.f, if_neg (by omega), if_neg (by omega)]
    by_cases h : u < 10
    · rw [if_pos (by omega), if_pos (by omega), wrap64_id _ (by omega) (by omega), if_pos (by omega), if_pos (by omega), show ((u : Int) + 1).toNat = u + 1 by omega, Int.toNat_natCast, piece u h, decDigits, dif_pos h]
    · rcases k with _ | k
      · simp at hu
        omega
      · rw [if_neg (by omega), Int.tdiv_eq_ediv_of_nonneg (by omega), Int.tmod_eq_emod_of_nonneg (by omega), wrap64_id _ (by omega) (by omega), show (u : Int) / 10 = ((u / 10 : Nat) : Int) by omega, show (u : Int) % 10 = ((u % 10 : Nat) : Int) by omega,
          dec_pos k (u / 10) (by rw [Nat.pow_succ] at hu; omega) (by omega) (by omega) m (by omega), dec_pos k (u % 10) (by have := Nat.mod_lt u (show 0 < 10 by omega); have := Nat.one_le_pow k 10 (by omega); rw [Nat.pow_succ]; omega) (by omega) (by omega) m (by omega), Option.bind_some, Option.bind_some]
        have hl := nDigits_le k (u / 10) (by rw [Nat.pow_succ] at hu; omega)
        rw [if_pos (by rw [B_size, B_size, decDigits_length, decDigits_length, nDigits_small (Nat.mod_lt _ (by omega))]; omega), B_app]
        rw [show decDigits (u % 10) = [UInt8.ofNat (48 + u % 10)] by rw [decDigits, dif_pos (Nat.mod_lt _ (by omega))]]
        rw [show decDigits u = decDigits (u / 10) ++ [UInt8.ofNat (48 + u % 10)] by rw [decDigits, dif_neg h]]
theorem dec_f (n : Int) (h0 : -9223372036854775808 ≤ n) (h1 : n ≤ 9223372036854775807) (m : Nat) (hm : 22 ≤ m) : hamperref02_Decimal.f m n = some (B (itoa n)) := by
  have hp : (9223372036854775808 : Nat) < 10 ^ (18 + 1) := by decide
  by_cases hmin : n = -9223372036854775808
  · subst hmin
    obtain ⟨m, rfl⟩ : ∃ j, m = j + 1 := ⟨m - 1, by omega⟩
    rw [hamperref02_Decimal.f, if_pos rfl]
    decide +kernel
  by_cases hneg : n < 0
  · obtain ⟨m, rfl⟩ : ∃ j, m = j + 1 := ⟨m - 1, by omega⟩
    rw [hamperref02_Decimal.f, if_neg hmin, if_pos hneg, wrap64_id _ (by omega) (by omega), show -n = ((n.natAbs : Nat) : Int) by omega, dec_pos 18 n.natAbs (by omega) (by omega) (by omega) m (by omega), Option.bind_some]
    have hl := nDigits_le 18 n.natAbs (by omega)
    rw [if_pos (by rw [B_size, decDigits_length]; omega)]
    unfold itoa
    rw [if_pos hneg]
    exact congrArg some (B_app [45] (decDigits n.natAbs))
  · have h := dec_pos 18 n.toNat (by omega) (by omega) (by omega) m (by omega)
    rw [show ((n.toNat : Nat) : Int) = n by omega] at h
    rw [h]
    unfold itoa
    rw [if_neg hneg]

/-! ### hamperref02.ReadDecimal -/
theorem bt_eq (s : ByteArray) (i : Nat) (h : i < s.size) : ∃ c, s.data.toList[i]? = some c ∧ bt s (i : Int) = (c.toNat : Int) := by
  refine ⟨s[i]'h, ?_, ?_⟩
  · rw [List.getElem?_eq_getElem (by rw [Array.length_toList]; exact h)]
    rfl
  · unfold bt
    rw [dif_pos (by simpa using h)]
    rfl
/-- What the loop gathers. -/
def wacc (v : Int) : List UInt8 → Int
  | [] => v
  | c :: r => if 48 ≤ c.toNat ∧ c.toNat ≤ 57 then wacc (wrap64 (wrap64 (v * 10) - (c.toNat - 48))) r else wacc v r
theorem wacc_in : ∀ (l : List UInt8) (v : Int), -9223372036854775808 ≤ v → v ≤ 9223372036854775807 → -9223372036854775808 ≤ wacc v l ∧ wacc v l ≤ 9223372036854775807
  | [], v, h0, h1 => ⟨h0, h1⟩
  | c :: r, v, h0, h1 => by
    unfold wacc
    split
    · exact wacc_in r _ (wrap64_in' _).1 (wrap64_in' _).2
    · exact wacc_in r v h0 h1
theorem wacc_dec (u : Nat) : ∀ r, u ≤ 9223372036854775808 → wacc 0 (decDigits u ++ r) = wacc (-(u : Int)) r := by
  induction u using Nat.strongRecOn with
  | _ u ih =>
    intro r hu
    by_cases h : u < 10
    · rw [decDigits, dif_pos h, List.singleton_append, wacc, digit_nat u h, if_pos (by omega), wrap64_id (0 * 10) (by omega) (by omega), wrap64_id _ (by omega) (by omega)]
      congr 1
      omega
    · rw [decDigits, dif_neg h, List.append_assoc, ih (u / 10) (by omega) _ (by omega), List.singleton_append, wacc, digit_nat _ (Nat.mod_lt _ (by omega)), if_pos (by omega), wrap64_id (-((u / 10 : Nat) : Int) * 10) (by omega) (by omega), wrap64_id _ (by omega) (by omega)]
      congr 1
      omega
def rfin (s : List UInt8) (v : Int) : Int × Int := if itoa v = s then (v, 0) else if v = -9223372036854775808 then (0, 11) else if itoa (-v) = s then (-v, 0) else (0, 11)
theorem rd_end (s : ByteArray) (v i : Int) (h0 : -9223372036854775808 ≤ v) (h1 : v ≤ 9223372036854775807) (m : Nat) (hm : 22 ≤ m) : hamperref02_ReadDecimal.j1 (m + 1) s v i false = some (rfin s.data.toList v) := by
  rw [hamperref02_ReadDecimal.j1, if_neg (by simp), dec_f v h0 h1 m hm, Option.bind_some, B_list, ByteArray.toList_eq s]
  unfold rfin
  by_cases h : itoa v = s.data.toList
  · rw [if_pos h, if_pos h]
  rw [if_neg h, if_neg h]
  by_cases h2 : v = -9223372036854775808
  · rw [if_pos h2, if_pos h2]
  rw [if_neg h2, if_neg h2, wrap64_id _ (by omega) (by omega), dec_f _ (by omega) (by omega) m hm, Option.bind_some, B_list]
  by_cases h3 : itoa (-v) = s.data.toList
  · rw [if_pos h3, if_pos h3]
  · rw [if_neg h3, if_neg h3]
theorem rd_loop (s : ByteArray) (hs : s.size ≤ 9223372036854775807) : ∀ (j i : Nat) (v : Int), i + j = 21 → -9223372036854775808 ≤ v → v ≤ 9223372036854775807 → ∀ m, 30 + 2 * j ≤ m → hamperref02_ReadDecimal.l0 m s v (i : Int) = some (rfin s.data.toList (wacc v ((s.data.toList.drop i).take j)))
  | 0, i, v, hij, h0, h1, m, hm => by
    obtain ⟨m, rfl⟩ : ∃ k, m = k + 2 := ⟨m - 2, by omega⟩
    have hi : i = 21 := by omega
    rw [hamperref02_ReadDecimal.l0, List.take_zero]
    split
    · rw [show decide ((i : Int) < 21) = false from decide_eq_false (by omega)]
      exact rd_end s v i h0 h1 m (by omega)
    · exact rd_end s v i h0 h1 m (by omega)
  | j + 1, i, v, hij, h0, h1, m, hm => by
    obtain ⟨m, rfl⟩ : ∃ k, m = k + 2 := ⟨m - 2, by omega⟩
    rw [hamperref02_ReadDecimal.l0]
    by_cases hlt : i < s.size
    · obtain ⟨c, hc, hb⟩ := bt_eq s i hlt
      have hd : (s.data.toList.drop i).take (j + 1) = c :: (s.data.toList.drop (i + 1)).take j := by
        have hlen : i < s.data.toList.length := by rw [Array.length_toList]; exact hlt
        rw [List.drop_eq_getElem_cons hlen, List.take_succ_cons]
        rw [List.getElem?_eq_getElem hlen] at hc
        injection hc with hc
        rw [hc]
      have hc1 : c.toNat < 256 := c.toNat_lt
      rw [if_pos (by omega), show decide ((i : Int) < 21) = true from decide_eq_true (by omega), hamperref02_ReadDecimal.j1, if_pos rfl, if_pos (by omega), if_pos (by omega), hb, hd, wacc, wrap64_id ((i : Int) + 1) (by omega) (by omega), show (i : Int) + 1 = ((i + 1 : Nat) : Int) by omega]
      by_cases h48 : 48 ≤ c.toNat
      · rw [if_pos (by omega)]
        by_cases h57 : c.toNat ≤ 57
        · rw [if_pos (by omega), if_pos ⟨h48, h57⟩, Int.emod_eq_of_lt (by omega) (by omega)]
          exact rd_loop s hs j (i + 1) _ (by omega) (wrap64_in' _).1 (wrap64_in' _).2 m (by omega)
        · rw [if_neg (by omega), if_neg (by omega)]
          exact rd_loop s hs j (i + 1) v (by omega) h0 h1 m (by omega)
      · rw [if_neg (by omega), if_neg (by omega)]
        exact rd_loop s hs j (i + 1) v (by omega) h0 h1 m (by omega)
    · rw [if_neg (by omega)]
      have hlen : s.data.toList.length ≤ i := by
        rw [Array.length_toList]
        exact Nat.le_of_not_lt hlt
      rw [List.drop_of_length_le hlen, List.take_nil]
      exact rd_end s v i h0 h1 m (by omega)
theorem rd_f (s : ByteArray) (hs : s.size ≤ 9223372036854775807) : hamperref02_ReadDecimal.f 80 s = some (rdec s.data.toList) := by
  unfold hamperref02_ReadDecimal.f
  have h := rd_loop s hs 21 0 0 rfl (by omega) (by omega) 80 (by omega)
  rw [List.drop_zero] at h
  have h' : hamperref02_ReadDecimal.l0 80 s 0 0 = _ := h
  rw [h']
  congr 1
  generalize s.data.toList = l
  have hv := wacc_in (l.take 21) 0 (by omega) (by omega)
  by_cases hex : ∃ n : Int, -9223372036854775808 ≤ n ∧ n ≤ 9223372036854775807 ∧ itoa n = l
  · obtain ⟨n, n0, n1, rfl⟩ := hex
    rw [rdec_itoa n n0 n1, List.take_of_length_le (itoa_length_le n n0 n1)]
    by_cases hneg : n < 0
    · have hw : wacc 0 (itoa n) = n := by
        unfold itoa
        rw [if_pos hneg, wacc, if_neg (by decide)]
        have h2 := wacc_dec n.natAbs [] (by omega)
        rw [List.append_nil] at h2
        rw [h2, wacc]
        omega
      unfold rfin
      rw [hw, if_pos rfl]
    · have hw : wacc 0 (itoa n) = -n := by
        unfold itoa
        rw [if_neg hneg]
        have h2 := wacc_dec n.toNat [] (by omega)
        rw [List.append_nil] at h2
        rw [h2, wacc]
        omega
      unfold rfin
      rw [hw]
      by_cases h0 : itoa (-n) = itoa n
      · have := itoa_inj _ _ (by omega) (by omega) n0 n1 h0
        rw [if_pos h0]
        exact Prod.ext this rfl
      · rw [if_neg h0, if_neg (by omega), Int.neg_neg, if_pos rfl]
  · have hno : ∀ n : Int, -9223372036854775808 ≤ n → n ≤ 9223372036854775807 → itoa n ≠ l := fun n h0 h1 h2 => hex ⟨n, h0, h1, h2⟩
    rw [rdec_not l hno]
    unfold rfin
    rw [if_neg (hno _ hv.1 hv.2)]
    by_cases hm : wacc 0 (List.take 21 l) = -9223372036854775808
    · rw [if_pos hm]
    · rw [if_neg hm, if_neg (hno _ (by omega) (by omega))]
end Go.Proofs.YtmecigllpdeeoaaDoor.Dig
