/- number.Low inside the bytes. -/
import Derived.Test.YtmecigllpdeeoaaBy
set_option linter.unusedVariables false
namespace Go.Proofs.Ytmecigllpdeeoaa.By
open Go.RowKit Go.BigFrame Go.Proofs.Ytmecigllpdeeoaa.Reg Go.Proofs.YtmecigllpdeeoaaW.PrintWords Go.Proofs.YtmecigllpdeeoaaW.PrintLast Go.Proofs.YtmecigllpdeeoaaW.PrintMore

/-- The number that these bytes are, the lowest first. -/
def lowN : List Int → Int
  | [] => 0
  | x :: r => x + 256 * lowN r
theorem lowN_append : ∀ (a b : List Int), lowN (a ++ b) = lowN a + 256 ^ a.length * lowN b
  | [], b => by simp [lowN]
  | x :: a, b => by
    rw [List.cons_append, lowN, lowN, lowN_append a b, List.length_cons, Int.pow_succ]
    grind
theorem lowN_bound : ∀ (a : List Int), (∀ x ∈ a, 0 ≤ x ∧ x ≤ 255) → 0 ≤ lowN a ∧ lowN a < 256 ^ a.length
  | [], h => by simp [lowN]
  | x :: a, h => by
    have hx := h x List.mem_cons_self
    have ha := lowN_bound a (fun y hy => h y (List.mem_cons_of_mem _ hy))
    rw [lowN, List.length_cons, Int.pow_succ]
    omega
theorem p256 (k : Nat) : (256 : Int) ^ k = 2 ^ (8 * k) := by
  rw [Int.pow_mul]
  rfl
theorem or_nat8 (y m j : Nat) (y1 : y < 2 ^ j) : y ||| m * 2 ^ j = y + m * 2 ^ j := by
  have h := Nat.two_pow_add_eq_or_of_lt y1 m
  rw [Nat.mul_comm (2 ^ j) m] at h
  rw [Nat.or_comm, ← h, Nat.add_comm]
theorem or_low (y m : Int) (k : Nat) (y0 : 0 ≤ y) (y1 : y < 256 ^ k) (m0 : 0 ≤ m) (m1 : m ≤ 255) (hk : k ≤ 7) : bits .or .u64 y (IntKind.u64.wrap (m * 2 ^ (8 * k))) = y + 256 ^ k * m := by
  obtain ⟨y, rfl⟩ := Int.eq_ofNat_of_zero_le y0
  obtain ⟨m, rfl⟩ := Int.eq_ofNat_of_zero_le m0
  rw [p256] at y1 ⊢
  generalize hj : 8 * k = j at *
  have hpos := Nat.two_pow_pos j
  have hle : 2 ^ j ≤ 2 ^ 56 := Nat.pow_le_pow_right (by omega) (by omega)
  have h56 : (2 ^ 56 : Nat) = 72057594037927936 := by decide
  have e2 : (2 : Int) ^ j = ((2 ^ j : Nat) : Int) := by rw [Int.natCast_pow]; rfl
  have e1 : ((m : Nat) : Int) * 2 ^ j = ((m * 2 ^ j : Nat) : Int) := by rw [Int.natCast_mul, e2]
  have y2 : y < 2 ^ j := by rw [e2] at y1; omega
  have hm : m * 2 ^ j ≤ 255 * 2 ^ j := Nat.mul_le_mul_right _ (by omega)
  have hor := or_nat8 y m j y2
  rw [Int.mul_comm (2 ^ j), e1]
  generalize hM : m * 2 ^ j = M at *
  have hw : IntKind.u64.wrap ((M : Nat) : Int) = ((M : Nat) : Int) := by
    simp only [IntKind.wrap, IntKind.bits, IntKind.signed, Bool.false_and, Bool.false_eq_true, if_false]
    exact Int.emod_eq_of_lt (by omega) (by omega)
  rw [hw]
  have h64 : (2 ^ 64 : Nat) = 18446744073709551616 := by decide
  have hb := (bits_nat .u64 64 (by decide) (fun n h0 h1 => by
    simp only [IntKind.wrap, IntKind.bits, IntKind.signed, Bool.false_and, Bool.false_eq_true, if_false]
    exact Int.emod_eq_of_lt h0 h1) y M (by omega) (by omega)).2
  rw [hb, hor, Int.natCast_add]
theorem lowest_any (i : Int) (w : World) : Calls Try.prog 48 #[.int .i64 i] w fun e w' => e = .returned (.int .i64 i) ∧ Below w.heap.size w w' :=
  (lowest_calls i w).mono fun _ _ ⟨a, b⟩ => ⟨a, by rw [← b]; exact Below.refl _ _⟩
/-- Byte number i of the row. -/
theorem take_low (ds : List Int) (k : Nat) (h : k < ds.length) : lowN (ds.take (k + 1)) = lowN (ds.take k) + 256 ^ k * rd ds (k : Int) := by
  have hr : rd ds (k : Int) = ds[k]'h := by
    unfold rd
    rw [Int.toNat_natCast, List.getD_eq_getElem?_getD, List.getElem?_eq_getElem h]
    rfl
  rw [List.take_succ_eq_append_getElem h, lowN_append, List.length_take, Nat.min_eq_left (by omega), hr, lowN, lowN]
  grind
theorem rd_drop (xs : List Int) (i k : Nat) : rd (xs.drop i) (k : Int) = rd xs ((i : Int) + k) := by
  unfold rd
  rw [List.getD_eq_getElem?_getD, List.getD_eq_getElem?_getD, List.getElem?_drop, Int.toNat_natCast, show ((i : Int) + k).toNat = i + k by omega]
theorem rd_mem (ds : List Int) (k : Nat) (h : k < ds.length) : rd ds (k : Int) ∈ ds := by
  have hr : rd ds (k : Int) = ds[k]'h := by
    unfold rd
    rw [Int.toNat_natCast, List.getD_eq_getElem?_getD, List.getElem?_eq_getElem h]
    rfl
  rw [hr]
  exact List.getElem_mem h
/-- The number of n bytes at a place. -/
def lowAt (bs : List Int) (i n : Int) : Int := lowN ((bs.drop i.toNat).take n.toNat)
set_option maxHeartbeats 4000000 in
theorem read_low (A : Option Addr) (c : Nat) (bs : List Int) (i n : Int) (w : World) (hC : (Kd.int .u8).C w A bs.length bs) (hl : bs.length ≤ 140737488355320) (hby : ∀ x ∈ bs, 0 ≤ x ∧ x ≤ 255) (i0 : 0 ≤ i) (n1 : 1 ≤ n) (n8 : n ≤ 8) (hin : i + n ≤ bs.length) :
    Calls Try.prog 65 #[.slice A bs.length c, .int .i64 i, .int .i64 n, .func (.func 48) #[] #[]] w fun e w' => e = .returned (.tuple #[.int .u64 (lowAt bs i n), .int .i64 (i + n), .int .i64 0]) ∧ Below w.heap.size w w' := by
  have HC := Lib.hid hC
  clear hC
  have HF : Hid (lowAt bs i n = lowN ((bs.drop i.toNat).take n.toNat)) := Lib.hid rfl
  have hdl : (bs.drop i.toNat).length = bs.length - i.toNat := List.length_drop
  go_enter Try.func65, Try.ntmps65
  go_wp2
  go_loopw [8, 11, 37] (fun y _ j wr => ∃ (k : Nat), (k : Int) ≤ n ∧ j = .int .i64 k ∧ y = .int .u64 (lowN ((bs.drop i.toNat).take k)) ∧ Below w.heap.size w wr) (fun _ _ j _ => (n - intOf j).toNat)
  case atStart => exact ⟨0, by omega, rfl, rfl, Below.refl _ _⟩
  case round =>
    obtain ⟨k, hkn, rfl, rfl, hbr⟩ := hrel
    by_cases hkk : (k : Int) < n
    · have hds : k < (bs.drop i.toNat).length := by omega
      obtain ⟨ad, hA, hx⟩ := Kd.at_int (Kd.C_below HC.out hbr) (i + k) (by omega) (by omega)
      subst hA
      have hrd := rd_drop bs i.toNat k
      rw [show ((i.toNat : Int) + k) = i + k by omega] at hrd
      rw [← hrd] at hx
      obtain ⟨z0, z1⟩ := hby _ (List.mem_of_mem_drop (rd_mem _ k hds))
      have hb0 := lowN_bound ((bs.drop i.toNat).take k) (fun x hx => hby x (List.mem_of_mem_drop (List.mem_of_mem_take hx)))
      rw [List.length_take, Nat.min_eq_left (by omega)] at hb0
      have hor := or_low _ _ k hb0.1 hb0.2 z0 z1 (by omega)
      rw [← take_low _ k hds] at hor
      have HOR := Lib.hid hor
      clear hor hrd hb0
      generalize rd (bs.drop i.toNat) (k : Int) = z at *
      generalize lowN ((bs.drop i.toNat).take k) = y at *
      go_upto_region 8 with (fail)
      have HB := Lib.hid hbr
      clear hbr
      refine wp_world ?_
      intro w1 hw1
      rw [← hw1] at hx
      have HB1 : Hid (Below w.heap.size w w1) := Lib.hid (by rw [hw1]; exact HB.out)
      clear HB hw1
      refine wp_region_above (by kernel_rfl) (by kernel_rfl) ?_
      intro ne
      have q1 : ∀ n : Abv w1, n.w.cell? (ad.add (i + k).toNat) = some (.int .u8 z) := fun n => n.cell hx
      repeat (go_big_quiet_step ((go_at_call 48; exact Abv.call _ (lowest_any k _))))
      refine quiet_above ?_
      intro w2 hb2
      go_wp2
      go_roundw
      case rel =>
        exact ⟨k + 1, by omega, by go_num, by rw [HOR.out], bgo HB1.out hb2⟩
      case measure => simp [intOf]; omega
    · have hk : n.toNat = k := by omega
      have HK := Lib.hid hk
      clear hk
      go_wp2
      go_ret3
      exact ⟨by rw [HF.out, HK.out]; rfl, hbr⟩
theorem low_calls (A : Option Addr) (c : Nat) (bs : List Int) (i n : Int) (w : World) (hC : (Kd.int .u8).C w A bs.length bs) (hl : bs.length ≤ 140737488355320) (hby : ∀ x ∈ bs, 0 ≤ x ∧ x ≤ 255) (i0 : 0 ≤ i) (n1 : 1 ≤ n) (n8 : n ≤ 8) (hin : i + n ≤ bs.length) :
    Calls Try.prog 59 #[.slice A bs.length c, .int .i64 i, .int .i64 n] w fun e w' => e = .returned (.tuple #[.int .u64 (lowAt bs i n), .int .i64 (i + n), .int .i64 0]) ∧ Below w.heap.size w w' := by
  have H := Lib.hid (read_low A c bs i n w hC hl hby i0 n1 n8 hin)
  clear hC
  go_enter Try.func59, Try.ntmps59
  go_wp2_with (go_at_call 65; refine H.out.mono ?_; rintro e w' ⟨rfl, hb1⟩)
  go_ret3
  exact ⟨rfl, hb1⟩
end Go.Proofs.Ytmecigllpdeeoaa.By
