/- number.Octal walked. -/
import Derived.Test.YtfnncfgdlinmcaaDoorOctN
set_option linter.unusedVariables false
set_option linter.unusedSimpArgs false
namespace Go.Proofs.YtfnncfgdlinmcaaDoor.Oct
open Go.RowKit Go.BigFrame Go.Proofs.YtfnncfgdlinmcaaDoor.Reg Go.Proofs.YtfnncfgdlinmcaaDoorW.PrintWords Go.Proofs.YtfnncfgdlinmcaaDoorW.PrintLast Go.Proofs.YtfnncfgdlinmcaaDoorW.PrintMore
def octV : Int → List Int → Int × Int
  | v, [] => if 4611686018427387904 < v then (0, 3) else (v, 0)
  | v, x :: r => if 576460752303423488 < v then (0, 3) else octV (v * 8 + (x - 48)) r
def octO (xs : List Int) : Int × Int :=
  let ys := xs.drop (runL 0 xs)
  let zs := ys.drop (runL 1 ys)
  if runL 2 zs < zs.length then (0, 11) else octV 0 (ys.take (runL 1 ys))
theorem octV_big (v : Int) (xs : List Int) (k : Nat) (hk : k < xs.length) (h : 576460752303423488 < v) : octV v (xs.drop k) = (0, 3) := by
  rw [List.drop_eq_getElem_cons hk, octV, if_pos h]
theorem octV_next (v : Int) (xs : List Int) (k : Nat) (hk : k < xs.length) (h : ¬ 576460752303423488 < v) : octV v (xs.drop k) = octV (v * 8 + (rd xs (k : Int) - 48)) (xs.drop (k + 1)) := by
  have hr : rd xs (k : Int) = xs[k] := by
    unfold rd
    rw [Int.toNat_natCast, List.getD_eq_getElem?_getD, List.getElem?_eq_getElem hk]
    rfl
  rw [List.drop_eq_getElem_cons hk, octV, if_neg h, hr]
theorem octV_end (v : Int) : octV v [] = if 4611686018427387904 < v then (0, 3) else (v, 0) := by rw [octV]
theorem rd_take (xs : List Int) (n k : Nat) (h : k < n) (hk : k < xs.length) : rd (xs.take n) (k : Int) = rd xs (k : Int) := by
  unfold rd
  rw [List.getD_eq_getElem?_getD, List.getD_eq_getElem?_getD, Int.toNat_natCast, List.getElem?_take, if_pos h]
theorem take_dig (xs : List Int) (k : Nat) (h : k < (xs.take (runL 1 xs)).length) : 48 ≤ rd (xs.take (runL 1 xs)) (k : Int) ∧ rd (xs.take (runL 1 xs)) (k : Int) ≤ 55 := by
  have hl : (xs.take (runL 1 xs)).length = runL 1 xs := by rw [List.length_take]; have := runL_le 1 xs; omega
  have hq : isQ 1 (rd xs (k : Int)) = true := by
    cases hq : isQ 1 (rd xs (k : Int))
    · have := run_stop 1 xs k (by omega) (by have := runL_le 1 xs; omega) hq
      omega
    · rfl
  rw [rd_take xs _ k (by omega) (by have := runL_le 1 xs; omega)]
  simpa [isQ] using hq
theorem ofInt_i64 (a : Nat) (ha : a < 9223372036854775808) : (BitVec.ofInt 64 (a : Int)).toNat = a := by
  rw [BitVec.ofInt_natCast, BitVec.toNat_ofNat]; exact Nat.mod_eq_of_lt (by omega)
theorem i64_or_nat (a b : Nat) (ha : a < 9223372036854775808) (hb : b < 9223372036854775808) : bits .or .i64 (a : Int) (b : Int) = ((a ||| b : Nat) : Int) := by
  have hx : a ||| b < 2 ^ 63 := Nat.or_lt_two_pow (by omega) (by omega)
  show IntKind.i64.wrap ((BitVec.ofInt 64 (a : Int) ||| BitVec.ofInt 64 (b : Int)).toNat : Int) = _
  rw [BitVec.toNat_or, ofInt_i64 a ha, ofInt_i64 b hb, IntKind.wrap_i64]
  omega
theorem or_oct (a b : Int) (ha : 0 ≤ a) (ha1 : a ≤ 576460752303423488) (hb : 0 ≤ b) (hb1 : b < 8) : bits .or .i64 (a * 8) b = a * 8 + b := by
  obtain ⟨n, rfl⟩ := Int.eq_ofNat_of_zero_le ha
  obtain ⟨m, rfl⟩ := Int.eq_ofNat_of_zero_le hb
  have hm : m < 2 ^ 3 := by omega
  rw [show ((n : Int) * 8) = ((n * 2 ^ 3 : Nat) : Int) by simp, i64_or_nat _ _ (by omega) (by omega), ← Nat.shiftLeft_eq, ← Nat.shiftLeft_add_eq_or_of_lt hm]
  simp [Nat.shiftLeft_eq]
theorem cutF (A : Option Addr) (n c j : Nat) (h : j ≤ n) : ∀ W, (Instr.slice 22 (.slice A n c) (some (.int .i64 (j : Int))) none none).run Tryd.prog W = .ok (.slice (if c = j then A else A.map (·.add (j * 1))) (n - j) (c - j)) W := by
  obtain ⟨i, hi, hzz⟩ := Option.map_eq_some_iff.1 info5
  simp only [Prod.mk.injEq] at hzz
  exact cut_from 22 5 .i64 Tryd.underlying22 hi 1 hzz.2.1 A n c (j : Int) (by omega) (by omega)
theorem cutT (A : Option Addr) (n c j : Nat) (h : j ≤ n) (hc : n ≤ c) : ∀ W, (Instr.slice 22 (.slice A n c) none (some (.int .i64 (j : Int))) none).run Tryd.prog W = .ok (.slice A j c) W := by
  obtain ⟨i, hi, hzz⟩ := Option.map_eq_some_iff.1 info5
  exact cut_to 22 5 .i64 Tryd.underlying22 hi A n c (j : Int) (by omega) (by omega) hc
set_option maxRecDepth 100000 in
set_option maxHeartbeats 4000000 in
theorem octal_calls (A : Option Addr) (c : Nat) (xs : List Int) (w : World) (hC : (Kd.int .u8).C w A xs.length xs) (hl : xs.length ≤ 140737488355320) (hc : xs.length ≤ c) :
    Calls Tryd.prog 8 #[.slice A xs.length c] w fun e w' => e = .returned (.tuple #[.int .i64 (octO xs).1, .int .i64 (octO xs).2]) ∧ Below w.heap.size w w' := by
  have hL0 := runL_le 0 xs
  have H1 := Lib.hid (run0_calls A c xs w hC (by omega))
  have hO : octO xs = if runL 2 ((xs.drop (runL 0 xs)).drop (runL 1 (xs.drop (runL 0 xs)))) < ((xs.drop (runL 0 xs)).drop (runL 1 (xs.drop (runL 0 xs)))).length then (0, 11) else octV 0 ((xs.drop (runL 0 xs)).take (runL 1 (xs.drop (runL 0 xs)))) := rfl
  generalize octO xs = R at *
  have s1 := cutF A xs.length c (runL 0 xs) hL0
  have hC1 : (Kd.int .u8).C w (if c = runL 0 xs then A else A.map (·.add (runL 0 xs * 1))) (xs.drop (runL 0 xs)).length (xs.drop (runL 0 xs)) := Kd.C_drop hC hL0 hc
  have hlen : (xs.drop (runL 0 xs)).length = xs.length - runL 0 xs := List.length_drop
  rw [← hlen] at s1
  have hc1 : (xs.drop (runL 0 xs)).length ≤ c - runL 0 xs := by omega
  have hl1 : (xs.drop (runL 0 xs)).length ≤ 140737488355320 := by omega
  generalize (if c = runL 0 xs then A else A.map (·.add (runL 0 xs * 1))) = A1 at *
  generalize xs.drop (runL 0 xs) = ys at *
  generalize c - runL 0 xs = c1 at *
  generalize runL 0 xs = n0 at *
  have hL1 := runL_le 1 ys
  have s2 := cutT A1 ys.length c1 (runL 1 ys) hL1 hc1
  have s3 := cutF A1 ys.length c1 (runL 1 ys) hL1
  have H2 := Lib.hid (fun W (hb : Below w.heap.size w W) => run1_calls A1 c1 ys W (Kd.C_below hC1 hb) (by omega))
  have hCd : (Kd.int .u8).C w A1 (ys.take (runL 1 ys)).length (ys.take (runL 1 ys)) := Kd.C_take hC1 hL1
  have hlt : (ys.take (runL 1 ys)).length = runL 1 ys := by rw [List.length_take]; omega
  have HD := Lib.hid (take_dig ys)
  have hC2 : (Kd.int .u8).C w (if c1 = runL 1 ys then A1 else A1.map (·.add (runL 1 ys * 1))) (ys.drop (runL 1 ys)).length (ys.drop (runL 1 ys)) := Kd.C_drop hC1 hL1 hc1
  have hlen2 : (ys.drop (runL 1 ys)).length = ys.length - runL 1 ys := List.length_drop
  rw [← hlen2] at s3
  have hl2 : (ys.drop (runL 1 ys)).length ≤ 140737488355320 := by omega
  have hld : (ys.take (runL 1 ys)).length ≤ 140737488355320 := by omega
  generalize (if c1 = runL 1 ys then A1 else A1.map (·.add (runL 1 ys * 1))) = A2 at *
  generalize ys.drop (runL 1 ys) = zs at *
  generalize ys.take (runL 1 ys) = ds at *
  generalize c1 - runL 1 ys = c2 at *
  rw [← hlt] at s2 s3
  have H2' : Hid (∀ W (hb : Below w.heap.size w W), Calls Tryd.prog 21 #[.slice A1 ys.length c1, .func (.func 23) #[] #[]] W fun e w' => e = .returned (.int .i64 (ds.length : Int)) ∧ Below W.heap.size W w') := Lib.hid (by rw [hlt]; exact H2.out)
  clear H2
  have H3 := Lib.hid (fun W (hb : Below w.heap.size w W) => run2_calls A2 c2 zs W (Kd.C_below hC2 hb) (by omega))
  have HL2 := Lib.hid (runL_le 2 zs)
  have HC := Lib.hid hCd
  have HO := Lib.hid hO
  clear hC hC1 hC2 hCd hO hlen hlen2 hlt hL1 hL0
  generalize runL 2 zs = n2 at *
  go_enter Tryd.func8, Tryd.ntmps8
  go_upto_region 2 with (go_at_call 21; refine H1.out.mono ?_; rintro e w1 ⟨rfl, hb1⟩)
  go_upto_region 3 with (go_at_call 21; refine (H2'.out _ hb1).mono ?_; rintro e w2 ⟨rfl, hb2⟩)
  have hb12 := bgo hb1 hb2
  clear hb1 hb2
  go_region
  have hb2 := bdrew hb12
  clear hb12
  by_cases hz : n2 < zs.length
  · have HR : Hid (R = (0, 11)) := Lib.hid (by rw [HO.out, if_pos hz])
    clear HO
    go_upto_region 6 with (go_at_call 21; refine (H3.out _ hb2).mono ?_; rintro e w3 ⟨rfl, hb3⟩)
    go_ret2
    exact ⟨by rw [HR.out]; rfl, bgo hb2 hb3⟩
  have HR : Hid (R = octV 0 ds) := Lib.hid (by rw [HO.out, if_neg hz])
  clear HO
  go_upto_region 6 with (go_at_call 21; refine (H3.out _ hb2).mono ?_; rintro e w3 ⟨rfl, hb3⟩)
  have hb4 := bgo hb2 hb3
  have HB := Lib.hid hb4
  have HC4 := Lib.hid (Kd.C_below HC.out hb4)
  clear hb2 hb3 hb4 HC H3 s1 s2 s3 H1 H2'
  go_wp2
  go_loopw [7, 29] (fun a j wr => ∃ (k : Nat) (v : Int), k ≤ ds.length ∧ a = .int .i64 v ∧ j = .int .i64 k ∧ 0 ≤ v ∧ v ≤ 4611686018427387911 ∧ Hid (R = octV v (ds.drop k)) ∧ w3 = wr) (fun _ j _ => ds.length - (intOf j).toNat)
  case atStart => exact ⟨0, 0, by omega, rfl, rfl, by omega, by omega, Lib.hid (by rw [List.drop_zero]; exact HR.out), rfl⟩
  case round =>
    obtain ⟨k, v, hk, rfl, rfl, v0, v1, HV, rfl⟩ := hrel
    by_cases hkk : k < ds.length
    · obtain ⟨ad, hA, hx⟩ := Kd.at_int HC4.out (k : Int) (by omega) (by omega)
      subst hA
      rw [Int.toNat_natCast] at hx
      obtain ⟨z0, z1⟩ := HD.out k hkk
      by_cases hb : 576460752303423488 < v
      · have HE : Hid (R = (0, 3)) := Lib.hid (by rw [HV.out, octV_big v ds k hkk hb])
        generalize rd ds (k : Int) = z at *
        go_wp2
        go_ret2
        exact ⟨by rw [HE.out]; rfl, HB.out⟩
      · have HN : Hid (R = octV (v * 8 + (rd ds (k : Int) - 48)) (ds.drop (k + 1))) := Lib.hid (by rw [HV.out, octV_next v ds k hkk hb])
        generalize rd ds (k : Int) = z at *
        have HOR := or_oct v (z - 48) v0 (by omega) (by omega) (by omega)
        go_wp2
        go_roundw
        case rel => exact ⟨k + 1, _, by omega, rfl, by go_num, by omega, by omega, HN, trivial⟩
        case measure => simp [intOf]; omega
    · have hke : k = ds.length := by omega
      subst hke
      by_cases hb : 4611686018427387904 < v
      · have HE : Hid (R = (0, 3)) := Lib.hid (by rw [HV.out, List.drop_length, octV_end, if_pos hb])
        go_wp2
        go_ret2
        exact ⟨by rw [HE.out]; rfl, HB.out⟩
      · have HE : Hid (R = (v, 0)) := Lib.hid (by rw [HV.out, List.drop_length, octV_end, if_neg hb])
        go_wp2
        go_ret2
        exact ⟨by rw [HE.out]; rfl, HB.out⟩
end Go.Proofs.YtfnncfgdlinmcaaDoor.Oct
