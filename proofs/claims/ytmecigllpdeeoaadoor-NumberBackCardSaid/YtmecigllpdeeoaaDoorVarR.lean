/- number.Var. -/
import Derived.Test.YtmecigllpdeeoaaDoorByVarD
set_option linter.unusedVariables false
namespace Go.Proofs.YtmecigllpdeeoaaDoor.By
open Go.RowKit Go.BigFrame Go.Proofs.YtmecigllpdeeoaaDoor.Reg Go.Proofs.YtmecigllpdeeoaaDoorW.PrintWords Go.Proofs.YtmecigllpdeeoaaDoorW.PrintLast Go.Proofs.YtmecigllpdeeoaaDoorW.PrintMore

def varD : Nat → Int → List Int → Int × Int × Int
  | _, _, [] => (0, 0, 10)
  | i, v, x :: r => if i = 9 ∨ (x = 0 ∧ 0 < i) then (0, 0, 11) else if x < 128 then (v + x % 128 * 2 ^ (7 * i), i + 1, 0) else varD (i + 1) (v + x % 128 * 2 ^ (7 * i)) r
/-- number.Var's answer. -/
def varA (bs : List Int) (at_ : Int) : Int × Int × Int :=
  let r := varD 0 0 (bs.drop at_.toNat)
  (r.1, if r.2.2 = 0 then at_ + r.2.1 else 0, r.2.2)
theorem and127 (x : Int) (h0 : 0 ≤ x) (h1 : x ≤ 255) : bits .and .u8 x 127 = x % 128 := by
  have key : ∀ n : Fin 256, bits .and .u8 ((n.val : Nat) : Int) 127 = ((n.val : Nat) : Int) % 128 := by decide +kernel
  have h := key ⟨x.toNat, by omega⟩
  have e : ((x.toNat : Nat) : Int) = x := by omega
  dsimp only at h
  rwa [e] at h
theorem or_nat (y m k : Nat) (y1 : y < 2 ^ (7 * k)) : y ||| m * 2 ^ (7 * k) = y + m * 2 ^ (7 * k) := by
  have h := Nat.two_pow_add_eq_or_of_lt y1 m
  rw [Nat.mul_comm (2 ^ (7 * k)) m] at h
  rw [Nat.or_comm, ← h, Nat.add_comm]
theorem or_add (y m : Int) (k : Nat) (y0 : 0 ≤ y) (y1 : y < 2 ^ (7 * k)) (m0 : 0 ≤ m) (m1 : m < 128) (hk : k ≤ 8) : bits .or .u64 y (IntKind.u64.wrap (m * 2 ^ (7 * k))) = y + m * 2 ^ (7 * k) ∧ y + m * 2 ^ (7 * k) < 2 ^ (7 * (k + 1)) ∧ 0 ≤ y + m * 2 ^ (7 * k) := by
  obtain ⟨y, rfl⟩ := Int.eq_ofNat_of_zero_le y0
  obtain ⟨m, rfl⟩ := Int.eq_ofNat_of_zero_le m0
  have hpos := Nat.two_pow_pos (7 * k)
  have hle : 2 ^ (7 * k) ≤ 2 ^ 56 := Nat.pow_le_pow_right (by omega) (by omega)
  have h56 : (2 ^ 56 : Nat) = 72057594037927936 := by decide
  have e1 : ((m : Int)) * 2 ^ (7 * k) = ((m * 2 ^ (7 * k) : Nat) : Int) := by push_cast; rfl
  have e2 : (2 : Int) ^ (7 * k) = ((2 ^ (7 * k) : Nat) : Int) := by push_cast; rfl
  have e3 : (2 : Int) ^ (7 * (k + 1)) = ((2 ^ (7 * k) * 128 : Nat) : Int) := by rw [Nat.mul_add, Int.pow_add]; push_cast; rfl
  have y2 : y < 2 ^ (7 * k) := by rw [e2] at y1; omega
  have hm : m * 2 ^ (7 * k) ≤ 127 * 2 ^ (7 * k) := Nat.mul_le_mul_right _ (by omega)
  have hor := or_nat y m k y2
  rw [e1, e3]
  generalize hM : m * 2 ^ (7 * k) = M at *
  generalize hP : 2 ^ (7 * k) = P at *
  refine ⟨?_, by omega, by omega⟩
  have hw : IntKind.u64.wrap ((M : Nat) : Int) = ((M : Nat) : Int) := by
    simp only [IntKind.wrap, IntKind.bits, IntKind.signed, Bool.false_and, Bool.false_eq_true, if_false]
    exact Int.emod_eq_of_lt (by omega) (by omega)
  rw [hw]
  have h63 : (2 ^ 63 : Nat) = 9223372036854775808 := by decide
  have hb := (bits_nat .u64 63 (by decide) (fun n h0 h1 => by
    simp only [IntKind.wrap, IntKind.bits, IntKind.signed, Bool.false_and, Bool.false_eq_true, if_false]
    have h63' : ((2 : Int) ^ 63) = 9223372036854775808 := by decide
    exact Int.emod_eq_of_lt h0 (by omega)) y M (by omega) (by omega)).2
  rw [hb, hor]
  push_cast
  rfl
theorem rd_mem (ds : List Int) (k : Nat) (h : k < ds.length) : ds.drop k = rd ds (k : Int) :: ds.drop (k + 1) ∧ rd ds (k : Int) ∈ ds := by
  have hr : rd ds (k : Int) = ds[k]'h := by
    unfold rd
    rw [Int.toNat_natCast, List.getD_eq_getElem?_getD, List.getElem?_eq_getElem h]
    rfl
  rw [hr]
  exact ⟨List.drop_eq_getElem_cons h, List.getElem_mem h⟩
set_option maxHeartbeats 4000000 in
theorem var_calls (A : Option Addr) (c : Nat) (bs : List Int) (at_ : Int) (w : World) (hC : (Kd.int .u8).C w A bs.length bs) (hc : bs.length ≤ c) (hll : bs.length ≤ 9223372036854775807) (h0 : 0 ≤ at_) (h1 : at_ ≤ bs.length) (hby : ∀ x ∈ bs, 0 ≤ x ∧ x ≤ 255) :
    Calls Tryd.prog 25 #[.slice A bs.length c, .int .i64 at_] w fun e w' => e = .returned (.tuple #[.int .u64 (varA bs at_).1, .int .i64 (varA bs at_).2.1, .int .i64 (varA bs at_).2.2]) ∧ Below w.heap.size w w' := by
  obtain ⟨i5, hi5, hz5⟩ := Option.map_eq_some_iff.1 infoB
  simp only [Prod.mk.injEq] at hz5
  obtain ⟨A', hsl, hrd, hle⟩ := print_cut_int (P := Tryd.prog) (k := .u8) 22 5 Tryd.underlying22 hi5 hz5.2.1 A c bs at_ h0 h1 hc
  have hCd : (Kd.int .u8).C w A' (bs.drop at_.toNat).length (bs.drop at_.toNat) := by
    have h := hrd w (Kd.reads_of_C (enc := Value.int .u8) (d := (0 : Int)) (h1 := fun _ => rfl) hC)
    exact Kd.C_of_reads (enc := Value.int .u8) (d := (0 : Int)) (h1 := fun _ => rfl) h
  have HC := Lib.hid hCd
  clear hCd hi5 hz5 hrd hC
  go_enter Tryd.func25, Tryd.ntmps25
  go_upto_region 4 with (fail)
  have hA : Hid (varA bs at_ = ((varD 0 0 (bs.drop at_.toNat)).1, if (varD 0 0 (bs.drop at_.toNat)).2.2 = 0 then at_ + (varD 0 0 (bs.drop at_.toNat)).2.1 else 0, (varD 0 0 (bs.drop at_.toNat)).2.2)) := Lib.hid rfl
  have hmem : ∀ x ∈ bs.drop at_.toNat, 0 ≤ x ∧ x ≤ 255 := fun x hx => hby x (List.mem_of_mem_drop hx)
  have hlen : (bs.drop at_.toNat).length + at_ ≤ 9223372036854775807 := by rw [List.length_drop]; omega
  have hdl : bs.length - at_.toNat = (bs.drop at_.toNat).length := by rw [List.length_drop]
  clear hsl hle hby hc
  revert hA hmem hlen hdl HC
  generalize bs.drop at_.toNat = ds
  intro HC hA hmem hlen hdl
  go_loopw [4, 7, 8, 21] (fun v _ _ i wr => ∃ (y : Int) (k : Nat), v = .int .u64 y ∧ i = .int .i64 k ∧ k ≤ 9 ∧ k ≤ ds.length ∧ 0 ≤ y ∧ Hid (y < 2 ^ (7 * k)) ∧ Hid (varD 0 0 ds = varD k y (ds.drop k)) ∧ w = wr) (fun _ _ _ i _ => (ds.length - intOf i).toNat)
  case atStart => exact ⟨0, 0, rfl, rfl, by omega, by omega, by omega, Lib.hid (by simp), Lib.hid (by simp), rfl⟩
  case round =>
    obtain ⟨y, k, rfl, rfl, hk9, hkl, y0, hy, hv, rfl⟩ := hrel
    by_cases hlt : (k : Int) < ds.length
    · obtain ⟨ad, rfl, hx⟩ := Kd.at_int HC.out k (by omega) hlt
      obtain ⟨hd, hm⟩ := rd_mem ds k (by omega)
      obtain ⟨x0, x1⟩ := hmem _ hm
      have hv2 : Hid (varD 0 0 ds = varD k y (rd ds (k : Int) :: ds.drop (k + 1))) := Lib.hid (by rw [hv.out, hd])
      rw [Int.toNat_natCast] at hx
      clear hd hm hv
      generalize rd ds (k : Int) = x at *
      have h127 := and127 x x0 x1
      have HA : ∀ a b e, varD k y (x :: ds.drop (k + 1)) = (a, b, e) → Hid (varA bs at_ = (a, if e = 0 then at_ + b else 0, e)) := fun a b e h => Lib.hid (by rw [hA.out, hv2.out, h])
      by_cases h9 : k = 9 ∨ (x = 0 ∧ 0 < k)
      · have HF := HA 0 0 11 (by rw [varD, if_pos h9])
        clear hA hv2 HA
        by_cases hk9' : k = 9
        · have hb9 : ((k : Int) == 9) = true := by rw [hk9']; rfl
          clear hk9' h9
          go_wp2
          go_ret3
          exact ⟨by rw [HF.out]; rfl, Below.refl _ _⟩
        · obtain ⟨rfl, hk⟩ : x = 0 ∧ 0 < k := by rcases h9 with h | h; exact absurd h hk9'; exact h
          have hne : ((k : Int) == 9) = false := beq_eq_false_iff_ne.mpr (by omega)
          go_wp2
          go_ret3
          exact ⟨by rw [HF.out]; rfl, Below.refl _ _⟩
      · have hne : ¬ ((k : Int) = 9) := by omega
        obtain ⟨ho, ho1, ho2⟩ := or_add y (x % 128) k y0 hy.out (by omega) (by omega) (by omega)
        have HO := Lib.hid ho
        have HO1 := Lib.hid ho1
        have HO2 := Lib.hid ho2
        clear ho ho1 ho2
        by_cases h128 : x < 128
        · have HF0 := HA (y + x % 128 * 2 ^ (7 * k)) (k + 1) 0 (by rw [varD, if_neg h9, if_pos h128])
          have HF : Hid (varA bs at_ = (y + x % 128 * 2 ^ (7 * k), at_ + k + 1, 0)) := Lib.hid (by rw [HF0.out, if_pos rfl, ← Int.add_assoc])
          clear hA hv2 HA HF0
          by_cases hx0 : x = 0
          · have hk0 : ¬ (0 < k) := by omega
            have hb0 : (x == 0) = true := beq_iff_eq.mpr hx0
            clear hx0 h9
            go_wp2
            go_ret3
            exact ⟨by rw [HF.out, ← HO.out]; rfl, Below.refl _ _⟩
          · go_wp2
            go_ret3
            exact ⟨by rw [HF.out, ← HO.out]; rfl, Below.refl _ _⟩
        · have HV : Hid (varD 0 0 ds = varD (k + 1) (y + x % 128 * 2 ^ (7 * k)) (ds.drop (k + 1))) := Lib.hid (by rw [hv2.out, varD, if_neg h9, if_neg h128])
          clear HA
          go_wp2
          go_roundw
          case rel => exact ⟨.int .u64 (y + x % 128 * 2 ^ (7 * k)), u5, u6, _, _, .int .i64 ((k + 1 : Nat) : Int), ⟨_, rfl, k + 1, rfl, by omega, by omega, HO2.out, Lib.hid HO1.out, HV⟩, by rw [HO.out], rfl, rfl, rfl, rfl, by go_num⟩
          case measure => simp [intOf]; omega
    · have HE : Hid (varA bs at_ = (0, 0, 10)) := Lib.hid (by rw [hA.out, hv.out, List.drop_of_length_le (by omega)]; rfl)
      clear hA
      go_wp2
      go_ret3
      exact ⟨by rw [HE.out]; rfl, Below.refl _ _⟩

/-! ### there and back -/
theorem split128 (y P : Int) : y % 128 * P + y / 128 * (P * 128) = y * P := by
  have h := Int.emod_add_mul_ediv y 128
  generalize y / 128 = q at *
  generalize y % 128 = r at *
  subst h
  grind
theorem pow7 (i : Nat) : (2 : Int) ^ (7 * (i + 1)) = 2 ^ (7 * i) * 128 := by rw [Nat.mul_add, Int.pow_add]; rfl
theorem varD_varF : ∀ (k i : Nat) (v y : Int), i + k = 8 → 0 ≤ y → y < ((128 * 128 ^ k : Nat) : Int) → (0 < i → 1 ≤ y) → varD i v (varF k y) = (v + y * 2 ^ (7 * i), ((i + (varF k y).length : Nat) : Int), 0)
  | 0, i, v, y, hi, y0, y1, hp => by
    have y2 : y < 128 := by simpa using y1
    rw [show varF 0 y = [y] by show [y % 256] = [y]; rw [Int.emod_eq_of_lt y0 (by omega)], varD, if_neg (by omega), if_pos y2, Int.emod_eq_of_lt y0 y2]
    rfl
  | k + 1, i, v, y, hi, y0, y1, hp => by
    rw [show varF (k + 1) y = if 127 < y then (y % 128 + 128) :: varF k (y / 128) else [y % 256] from rfl]
    by_cases h : 127 < y
    · rw [if_pos h, varD, if_neg (by omega), if_neg (by omega), varD_varF k (i + 1) _ (y / 128) (by omega) (by omega) (by rw [Nat.pow_succ] at y1; push_cast at y1 ⊢; omega) (fun _ => by omega), show (y % 128 + 128) % 128 = y % 128 by omega, pow7, Int.add_assoc, split128]
      congr 2
      rw [List.length_cons]
      omega
    · rw [if_neg h, Int.emod_eq_of_lt y0 (by omega), varD, if_neg (by omega), if_pos (by omega), Int.emod_eq_of_lt y0 (by omega)]
      rfl
theorem varD_inv : ∀ (ds : List Int) (i : Nat) (v u n : Int), (∀ x ∈ ds, 0 ≤ x ∧ x ≤ 255) → i ≤ 8 → varD i v ds = (u, n, 0) →
    ∃ (y : Int) (m : Nat), u = v + y * 2 ^ (7 * i) ∧ n = i + m ∧ m ≤ ds.length ∧ ds.take m = varF (8 - i) y ∧ 0 ≤ y ∧ y < ((128 * 128 ^ (8 - i) : Nat) : Int) ∧ (0 < i → 1 ≤ y)
  | [], i, v, u, n, hb, hi, h => by
    rw [varD] at h
    injection h with h1 h2
    injection h2 with h2 h3
    omega
  | x :: r, i, v, u, n, hb, hi, h => by
    obtain ⟨x0, x1⟩ := hb x List.mem_cons_self
    rw [varD] at h
    by_cases h9 : i = 9 ∨ (x = 0 ∧ 0 < i)
    · rw [if_pos h9] at h
      injection h with h1 h2
      injection h2 with h2 h3
      omega
    rw [if_neg h9] at h
    by_cases h128 : x < 128
    · rw [if_pos h128] at h
      injection h with h1 h2
      injection h2 with h2 h3
      refine ⟨x, 1, by rw [← h1, Int.emod_eq_of_lt x0 h128], by omega, by simp, ?_, x0, ?_, fun hp => by omega⟩
      · rw [List.take_succ_cons, List.take_zero]
        rcases 8 - i with _ | k
        · show [x] = [x % 256]
          rw [Int.emod_eq_of_lt x0 (by omega)]
        · rw [show varF (k + 1) x = if 127 < x then (x % 128 + 128) :: varF k (x / 128) else [x % 256] from rfl, if_neg (by omega), Int.emod_eq_of_lt x0 (by omega)]
      · have h1 := Nat.one_le_pow (8 - i) 128 (by omega)
        generalize 128 ^ (8 - i) = d at *
        omega
    · rw [if_neg h128] at h
      by_cases h8 : i = 8
      · subst h8
        rcases r with _ | ⟨x', r⟩
        · rw [varD] at h
          injection h with h1 h2
          injection h2 with h2 h3
          omega
        · rw [varD, if_pos (.inl rfl)] at h
          injection h with h1 h2
          injection h2 with h2 h3
          omega
      obtain ⟨y, m, hu, hn, hm, ht, y0, y1, hp⟩ := varD_inv r (i + 1) _ u n (fun z hz => hb z (List.mem_cons_of_mem _ hz)) (by omega) h
      have hy1 := hp (by omega)
      obtain ⟨k, hk⟩ : ∃ k, 8 - i = k + 1 := ⟨7 - i, by omega⟩
      have hk2 : 8 - (i + 1) = k := by omega
      rw [hk2] at ht y1
      refine ⟨x % 128 + y * 128, m + 1, ?_, by omega, by rw [List.length_cons]; omega, ?_, by omega, ?_, fun _ => by omega⟩
      · rw [hu, pow7]
        grind
      · rw [hk, List.take_succ_cons, ht, show varF (k + 1) (x % 128 + y * 128) = if 127 < x % 128 + y * 128 then ((x % 128 + y * 128) % 128 + 128) :: varF k ((x % 128 + y * 128) / 128) else [(x % 128 + y * 128) % 256] from rfl, if_pos (by omega), show (x % 128 + y * 128) % 128 + 128 = x by omega, show (x % 128 + y * 128) / 128 = y by omega]
      · rw [hk, Nat.pow_succ]
        push_cast at y1 ⊢
        omega
theorem big9 : ((128 * 128 ^ 8 : Nat) : Int) = 9223372036854775808 := by decide
theorem varF9 (v : Int) (h0 : 0 ≤ v) (h1 : v ≤ 9223372036854775807) : varF 9 v = varF 8 v := varF_more 8 v h0 (by rw [big9]; omega)
/-- What PutVar laid is read again. -/
theorem varA_put (bs : List Int) (v : Int) (h0 : 0 ≤ v) (h1 : v ≤ 9223372036854775807) : varA (bs ++ varF 9 v) bs.length = (v, (((bs ++ varF 9 v).length : Nat) : Int), 0) := by
  unfold varA
  rw [Int.toNat_natCast, List.drop_left, varF9 v h0 h1, varD_varF 8 0 0 v rfl h0 (by rw [big9]; omega) (by omega)]
  simp
/-- What is read has one form. -/
theorem varA_form (bs : List Int) (u p : Int) (hb : ∀ x ∈ bs, 0 ≤ x ∧ x ≤ 255) (h : varA bs 0 = (u, p, 0)) : 0 ≤ u ∧ u ≤ 9223372036854775807 ∧ 0 ≤ p ∧ p ≤ bs.length ∧ bs.take p.toNat = varF 9 u := by
  unfold varA at h
  simp only [Int.toNat_zero, List.drop_zero] at h
  rcases hd : varD 0 0 bs with ⟨a, b, e⟩
  rw [hd] at h
  simp only [Prod.mk.injEq] at h
  obtain ⟨rfl, h2, rfl⟩ := h
  rw [if_pos rfl] at h2
  obtain ⟨y, m, hu, hn, hm, ht, y0, y1, _⟩ := varD_inv bs 0 0 a b hb (by omega) hd
  have hy : y = a := by rw [hu]; simp
  subst hy
  rw [show 8 - 0 = 8 from rfl, big9] at y1
  have hp : p.toNat = m := by omega
  refine ⟨y0, by omega, by omega, by omega, ?_⟩
  rw [hp, ht, varF9 y y0 (by omega)]
theorem varF_bytes : ∀ k v x, x ∈ varF k v → 0 ≤ x ∧ x ≤ 255
  | 0, v, x, h => by
    simp [varF] at h
    omega
  | k + 1, v, x, h => by
    rw [show varF (k + 1) v = if 127 < v then (v % 128 + 128) :: varF k (v / 128) else [v % 256] from rfl] at h
    split at h
    · rcases List.mem_cons.1 h with h | h
      · omega
      · exact varF_bytes k _ x h
    · simp at h
      omega
end Go.Proofs.YtmecigllpdeeoaaDoor.By
