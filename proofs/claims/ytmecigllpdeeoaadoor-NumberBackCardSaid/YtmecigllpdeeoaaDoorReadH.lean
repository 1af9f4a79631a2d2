/- number.High at eight bytes that PutHigh laid. -/
import Derived.Test.YtmecigllpdeeoaaDoorVarR
set_option linter.unusedVariables false
namespace Go.Proofs.YtmecigllpdeeoaaDoor.By
open Go.RowKit Go.BigFrame Go.Proofs.YtmecigllpdeeoaaDoor.Reg Go.Proofs.YtmecigllpdeeoaaDoorW.PrintWords Go.Proofs.YtmecigllpdeeoaaDoorW.PrintLast Go.Proofs.YtmecigllpdeeoaaDoorW.PrintMore

theorem or_high (v : Int) (k : Nat) (h0 : 0 ≤ v) (h1 : v ≤ 18446744073709551615) (hk : k < 8) :
    bits .or .u64 (v / 2 ^ (8 * (8 - k)) * 2 ^ (8 * (8 - k))) (IntKind.u64.wrap (byteAt v (7 - k) * 2 ^ (8 * (7 - k)))) = v / 2 ^ (8 * (8 - (k + 1))) * 2 ^ (8 * (8 - (k + 1))) := by
  obtain ⟨v, rfl⟩ := Int.eq_ofNat_of_zero_le h0
  unfold byteAt
  have e8 : 8 * (8 - k) = 8 * (7 - k) + 8 := by omega
  have e7 : 8 * (8 - (k + 1)) = 8 * (7 - k) := by omega
  rw [e7, e8]
  generalize hj : 8 * (7 - k) = j
  have hjle : j ≤ 56 := by omega
  have e1 : (2 : Int) ^ (j + 8) = ((2 ^ j * 256 : Nat) : Int) := by rw [Int.pow_add, Int.natCast_mul, Int.natCast_pow]; rfl
  have e2 : (2 : Int) ^ j = ((2 ^ j : Nat) : Int) := by push_cast; rfl
  have e3 : 2 ^ (j + 8) = 2 ^ j * 256 := by rw [Nat.pow_add]
  have hQ := Nat.two_pow_pos j
  have hQ2 : 2 ^ j ≤ 2 ^ 56 := Nat.pow_le_pow_right (by omega) hjle
  have h56 : (2 ^ 56 : Nat) = 72057594037927936 := by decide
  have h64 : (2 ^ 64 : Nat) = 18446744073709551616 := by decide
  have hz : v / 2 ^ j % 256 * 2 ^ j ≤ 255 * 2 ^ j := Nat.mul_le_mul_right _ (by omega)
  have hor := Nat.two_pow_add_eq_or_of_lt (i := j + 8) (b := v / 2 ^ j % 256 * 2 ^ j) (by rw [e3]; omega) (v / (2 ^ j * 256))
  rw [e3] at hor
  rw [e1, e2]
  have c1 : ((v : Nat) : Int) / ((2 ^ j * 256 : Nat) : Int) * ((2 ^ j * 256 : Nat) : Int) = ((2 ^ j * 256 * (v / (2 ^ j * 256)) : Nat) : Int) := by rw [Int.natCast_mul (2 ^ j * 256), Int.natCast_ediv, Int.mul_comm]
  have c2 : ((v : Nat) : Int) / ((2 ^ j : Nat) : Int) % 256 * ((2 ^ j : Nat) : Int) = ((v / 2 ^ j % 256 * 2 ^ j : Nat) : Int) := by rw [Int.natCast_mul, Int.natCast_emod, Int.natCast_ediv]; rfl
  have c3 : ((v : Nat) : Int) / ((2 ^ j : Nat) : Int) * ((2 ^ j : Nat) : Int) = ((2 ^ j * (v / 2 ^ j) : Nat) : Int) := by rw [Int.natCast_mul (2 ^ j), Int.natCast_ediv, Int.mul_comm]
  rw [c1, c2, c3]
  have hdd : v / (2 ^ j * 256) = v / 2 ^ j / 256 := by rw [Nat.div_div_eq_div_mul]
  have hm := Nat.mul_div_le v (2 ^ j * 256)
  have hsum : 2 ^ j * 256 * (v / (2 ^ j * 256)) + v / 2 ^ j % 256 * 2 ^ j = 2 ^ j * (v / 2 ^ j) := by
    rw [hdd]
    have h := Nat.div_add_mod (v / 2 ^ j) 256
    generalize v / 2 ^ j / 256 = a at *
    generalize v / 2 ^ j % 256 = b at *
    rw [← h]
    generalize 2 ^ j = q
    grind
  have hw : IntKind.u64.wrap ((v / 2 ^ j % 256 * 2 ^ j : Nat) : Int) = ((v / 2 ^ j % 256 * 2 ^ j : Nat) : Int) := by
    simp only [IntKind.wrap, IntKind.bits, IntKind.signed, Bool.false_and, Bool.false_eq_true, if_false]
    exact Int.emod_eq_of_lt (by omega) (by omega)
  rw [hw]
  have hb := (bits_nat .u64 64 (by decide) (fun n h0 h1 => by
    simp only [IntKind.wrap, IntKind.bits, IntKind.signed, Bool.false_and, Bool.false_eq_true, if_false]
    exact Int.emod_eq_of_lt h0 h1) (2 ^ j * 256 * (v / (2 ^ j * 256))) (v / 2 ^ j % 256 * 2 ^ j) (by omega) (by omega)).2
  rw [hb, ← hor, hsum]
theorem highest1_any (i n : Int) (p : Addr) (w : World) (hc : w.cell? p = some (.int .i64 n)) (h0 : 0 ≤ i) (h1 : i < n) (h2 : n ≤ 8) :
    Calls Tryd.prog 72 #[.int .i64 i, .pointer (some p)] w fun e w' => e = .returned (.int .i64 (n - 1 - i)) ∧ Below w.heap.size w w' :=
  (highest1_calls i n p w hc h0 h1 h2).mono fun _ _ ⟨a, b⟩ => ⟨a, by rw [← b]; exact Below.refl _ _⟩
set_option maxHeartbeats 4000000 in
theorem read_high (A : Option Addr) (c : Nat) (bs : List Int) (v : Int) (p : Addr) (w : World) (hp : w.cell? p = some (.int .i64 8)) (xs : List Int) (hxs : bs ++ laid v (highP 8) 8 = xs) (hC : (Kd.int .u8).C w A xs.length xs) (hl : bs.length ≤ 140737488355320) (h0 : 0 ≤ v) (h1 : v ≤ 18446744073709551615) :
    Calls Tryd.prog 47 #[.slice A xs.length c, .int .i64 bs.length, .int .i64 8, .func (.func 72) #[] #[.pointer (some p)]] w fun e w' => e = .returned (.tuple #[.int .u64 v, .int .i64 (bs.length + 8), .int .i64 0]) ∧ Below w.heap.size w w' := by
  have hlen : xs.length = bs.length + 8 := by rw [← hxs, List.length_append, laid_len]
  have HC := Lib.hid hC
  clear hC
  have hrd : ∀ k : Nat, k < 8 → rd xs ((bs.length : Int) + k) = byteAt v (7 - k) := by
    intro k hk
    unfold rd
    rw [← hxs]
    rw [show ((bs.length : Int) + k).toNat = bs.length + k by omega, List.getD_eq_getElem?_getD, List.getElem?_append_right (by omega), Nat.add_sub_cancel_left, List.getElem?_eq_getElem (by rw [laid_len]; exact hk)]
    simp [laid, highP]
  revert HC
  rw [hlen]
  clear hxs
  intro HC
  go_enter Tryd.func47, Tryd.ntmps47
  go_wp2
  go_loopw [8, 11, 37] (fun y _ i wr => ∃ (k : Nat), k ≤ 8 ∧ i = .int .i64 k ∧ y = .int .u64 (v / 2 ^ (8 * (8 - k)) * 2 ^ (8 * (8 - k))) ∧ Below w.heap.size w wr) (fun _ _ i _ => (8 - intOf i).toNat)
  case atStart =>
    refine ⟨0, by omega, rfl, ?_, Below.refl _ _⟩
    rw [show v / 2 ^ (8 * (8 - 0)) * 2 ^ (8 * (8 - 0)) = 0 by
      rw [show (2 : Int) ^ (8 * (8 - 0)) = 18446744073709551616 by decide, Int.ediv_eq_zero_of_lt h0 (by omega)]
      rfl]
  case round =>
    obtain ⟨k, hk8, rfl, rfl, hbr⟩ := hrel
    by_cases hlt : k < 8
    · have hkk : (k : Int) < 8 := by omega
      go_upto_region 8 with (fail)
      obtain ⟨ad, hA, hx⟩ := Kd.at_int (Kd.C_below HC.out hbr) ((bs.length : Int) + k) (by omega) (by omega)
      subst hA
      rw [hrd k hlt, show ((bs.length : Int) + k).toNat = bs.length + k by omega] at hx
      have hpr : wr.cell? p = some (.int .i64 8) := bkeep hbr hp
      have hbt : 0 ≤ byteAt v (7 - k) ∧ byteAt v (7 - k) ≤ 255 := by
        unfold byteAt
        omega
      have HOR := Lib.hid (or_high v k h0 h1 hlt)
      generalize byteAt v (7 - k) = z at *
      generalize v / 2 ^ (8 * (8 - k)) * 2 ^ (8 * (8 - k)) = y at *
      have HB := Lib.hid hbr
      clear hbr
      refine wp_world ?_
      intro w1 hw1
      rw [← hw1] at hx hpr
      have HB1 : Hid (Below w.heap.size w w1) := Lib.hid (by rw [hw1]; exact HB.out)
      clear HB hw1
      refine wp_region_above (by kernel_rfl) (by kernel_rfl) ?_
      intro ne
      have q1 : ∀ n : Abv w1, n.w.cell? (ad.add (bs.length + k)) = some (.int .u8 z) := fun n => n.cell hx
      have q2 : ∀ n : Abv w1, n.w.cell? p = some (.int .i64 8) := fun n => n.cell hpr
      repeat (go_big_quiet_step ((go_at_call 72; exact Abv.call _ (highest1_any k 8 p _ (q2 _) (by omega) hkk (by omega)))))
      refine quiet_above ?_
      intro w2 hb2
      go_wp2
      go_roundw
      case rel => exact ⟨k + 1, by omega, by go_num, by rw [HOR.out], bgo HB1.out hb2⟩
      case measure => simp [intOf]; omega
    · have hk : k = 8 := by omega
      subst hk
      go_wp2
      go_ret3
      exact ⟨by simp, hbr⟩
theorem high_calls (A : Option Addr) (c : Nat) (bs : List Int) (v : Int) (w : World) (xs : List Int) (hxs : bs ++ laid v (highP 8) 8 = xs) (hC : (Kd.int .u8).C w A xs.length xs) (hl : bs.length ≤ 140737488355320) (h0 : 0 ≤ v) (h1 : v ≤ 18446744073709551615) :
    Calls Tryd.prog 27 #[.slice A xs.length c, .int .i64 bs.length, .int .i64 8] w fun e w' => e = .returned (.tuple #[.int .u64 v, .int .i64 (bs.length + 8), .int .i64 0]) ∧ Below w.heap.size w w' := by
  have hc := read_high A c bs v ⟨w.heap.size, 0, none⟩ (w.alloc (.cells #[.int .i64 8] 3)) (by go_simp) xs hxs (Kd.C_below hC (balloc (Below.refl _ _) _)) hl h0 h1
  have H := Lib.hid hc
  clear hc hC hxs
  go_enter Tryd.func27, Tryd.ntmps27
  go_wp2_with (first
    | (go_at_call 46; refine (highest_calls _ _).mono ?_; rintro e w' ⟨rfl, rfl⟩)
    | (go_at_call 47; refine H.out.mono ?_; rintro e w' ⟨rfl, hb1⟩))
  go_ret3
  exact ⟨rfl, bgo (balloc (Below.refl _ _) _) hb1⟩
end Go.Proofs.YtmecigllpdeeoaaDoor.By
