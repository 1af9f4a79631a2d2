/- hamperref02.Read, the lowest first, inside the bytes; hamperref20.at. -/
import Derived.Test.YtmecigllpdeeoaaZipN
import Derived.Test.YtmecigllpdeeoaaByRef
set_option linter.unusedVariables false
namespace Go.Proofs.Ytmecigllpdeeoaa.By
open Go.RowKit Go.BigFrame Go.Proofs.Ytmecigllpdeeoaa.Reg Go.Proofs.YtmecigllpdeeoaaW.PrintWords Go.Proofs.YtmecigllpdeeoaaW.PrintLast Go.Proofs.YtmecigllpdeeoaaW.PrintMore
open Go.Proofs.Ytmecigllpdeeoaa.PPut

theorem turned_calls (A : Option Addr) (c : Nat) (xs : List Int) (w : World) (hC : (Kd.int .u8).C w A xs.length xs) (hc : xs.length ≤ c) (hl : xs.length < 140737488355328) :
    Calls Try.prog 50 #[.slice A xs.length c] w fun e w' => ∃ v, e = .returned v ∧ (Kd.int .u8).R 5 w' w.heap.size (fun _ => True) v xs.reverse ∧ Below w.heap.size w w' := by
  have h := turned_l xs hl (xs.length + 1) xs.length (by omega) (by omega)
  refine (hamperref02_Turned.calls (xs.length + 1) A c xs xs.reverse w hC hc ?_).mono fun e w' h => h
  unfold hamperref02_Turned.f
  rw [wrap64_id _ (by omega) (by omega)]
  rw [List.drop_length] at h
  exact h
theorem rev_step (ds : List Int) (k : Nat) (h : k < ds.length) : lowN ((ds.take (k + 1)).reverse) = lowN ((ds.take k).reverse) * 256 + rd ds (k : Int) := by
  have hr : rd ds (k : Int) = ds[k]'h := by
    unfold rd
    rw [Int.toNat_natCast, List.getD_eq_getElem?_getD, List.getElem?_eq_getElem h]
    rfl
  rw [List.take_succ_eq_append_getElem h, List.reverse_append, hr]
  show ds[k] + 256 * lowN ((ds.take k).reverse) = _
  omega
theorem p256_8 (k : Nat) (hk : k ≤ 8) : (256 : Int) ^ k ≤ 18446744073709551616 := by
  rcases k with _ | _ | _ | _ | _ | _ | _ | _ | _ | k
  all_goals first | decide | omega
set_option maxHeartbeats 4000000 in
theorem refRead_low (A : Option Addr) (c : Nat) (bs : List Int) (i n : Int) (w : World) (hC : (Kd.int .u8).C w A bs.length bs) (hc : bs.length ≤ c) (hl : bs.length ≤ 140737488355320) (hby : ∀ x ∈ bs, 0 ≤ x ∧ x ≤ 255) (i0 : 0 ≤ i) (n1 : 1 ≤ n) (n8 : n ≤ 8) (hin : i + n ≤ bs.length) :
    Calls Try.prog 60 #[.slice A bs.length c, .int .i64 i, .int .i64 n, .bool false] w fun e w' => e = .returned (.tuple #[.int .u64 (lowAt bs i n), .int .i64 (i + n), .int .i64 0]) ∧ Below w.heap.size w w' := by
  obtain ⟨i5, hi5, hz5⟩ := Option.map_eq_some_iff.1 infoB
  simp only [Prod.mk.injEq] at hz5
  obtain ⟨A', hsl, hrd, hle⟩ := print_mid_int (P := Try.prog) (k := .u8) 35 5 Try.underlying35 hi5 hz5.2.1 A c bs i (i + n) i0 (by omega) hin hc
  have hxs : (bs.take (i + n).toNat).drop i.toNat = (bs.drop i.toNat).take n.toNat := by
    rw [List.drop_take]
    congr 1
    omega
  have hCd : (Kd.int .u8).C w A' ((bs.take (i + n).toNat).drop i.toNat).length ((bs.take (i + n).toNat).drop i.toNat) := by
    have h := hrd w (Kd.reads_of_C (enc := Value.int .u8) (d := (0 : Int)) (h1 := fun _ => rfl) hC)
    exact Kd.C_of_reads (enc := Value.int .u8) (d := (0 : Int)) (h1 := fun _ => rfl) h
  rw [hxs] at hsl hCd hle
  have hlen : ((bs.drop i.toNat).take n.toNat).length = n.toNat := by rw [List.length_take, List.length_drop]; omega
  have HF : Hid (lowAt bs i n = lowN ((bs.drop i.toNat).take n.toNat)) := Lib.hid rfl
  have hmem : ∀ x ∈ (bs.drop i.toNat).take n.toNat, 0 ≤ x ∧ x ≤ 255 := fun x hx => hby x (List.mem_of_mem_drop (List.mem_of_mem_take hx))
  clear hi5 hz5 hrd hC hxs
  revert hsl hCd hle hlen HF hmem
  generalize (bs.drop i.toNat).take n.toNat = ds
  intro hsl hle hCd hlen HF hmem
  have H1 := Lib.hid (turned_calls A' (c - i.toNat) ds w hCd hle (by omega))
  have HLEN := Lib.hid hlen
  clear hCd hle hlen
  go_enter Try.func60, Try.ntmps60
  have hin2 : (bs.length : Int) - i ≥ n := by omega
  go_upto_region 5 with (fail)
  go_upto_region 7 with (fail)
  go_wp2_with (go_at_call 50; refine H1.out.mono ?_; rintro e w1 ⟨u, rfl, hR, hb1⟩)
  obtain ⟨A2, c2, rfl, hc2, hC2⟩ := Kd.R_reads hR
  have hrl : ds.reverse.length = n.toNat := by rw [List.length_reverse]; exact HLEN.out
  have hm2 : ∀ x ∈ ds.reverse, 0 ≤ x ∧ x ≤ 255 := fun x hx => hmem x (List.mem_reverse.1 hx)
  have hR2 : Hid (lowAt bs i n = lowN (ds.reverse.reverse)) := Lib.hid (by rw [HF.out, List.reverse_reverse])
  clear HF hmem H1 hsl hR HLEN
  revert hrl hm2 hR2 hC2 hc2
  generalize ds.reverse = rs
  intro hc2 hC2 hrl hm2 hR2
  have hrn : (rs.length : Int) = n := by omega
  have HC2 := Lib.hid hC2
  clear hC2
  go_loopw [12, 13] (fun v j wr => ∃ k : Nat, (k : Int) ≤ n ∧ j = .int .i64 k ∧ v = .int .u64 (lowN ((rs.take k).reverse)) ∧ Below w1.heap.size w1 wr) (fun _ j _ => (n - intOf j).toNat)
  case atStart => exact ⟨0, by omega, rfl, rfl, Below.refl _ _⟩
  case round =>
    obtain ⟨k, hkn, rfl, rfl, hbr⟩ := hrel
    by_cases hkk : (k : Int) < n
    · have hds : k < rs.length := by omega
      obtain ⟨ad, hA, hx⟩ := Kd.at_int (Kd.C_below HC2.out hbr) k (by omega) (by omega)
      subst hA
      rw [Int.toNat_natCast] at hx
      have hst := rev_step rs k hds
      have hz := hm2 _ (rd_mem _ k hds)
      have hb0 := lowN_bound ((rs.take k).reverse) (fun x hx => hm2 x (List.mem_of_mem_take (List.mem_reverse.1 hx)))
      have hb2 := lowN_bound ((rs.take (k + 1)).reverse) (fun x hx => hm2 x (List.mem_of_mem_take (List.mem_reverse.1 hx)))
      have hp := p256_8 (k + 1) (by omega)
      rw [List.length_reverse, List.length_take, Nat.min_eq_left (by omega)] at hb2
      rw [hst] at hb2
      have HST := Lib.hid hst
      clear hst
      generalize rd rs (k : Int) = z at *
      generalize lowN ((rs.take k).reverse) = y at *
      generalize (256 : Int) ^ (k + 1) = pw at *
      have hw1 : IntKind.u64.wrap (y * 256) = y * 256 := by
        simp only [IntKind.wrap, IntKind.bits, IntKind.signed, Bool.false_and, Bool.false_eq_true, if_false]
        exact Int.emod_eq_of_lt (by omega) (by omega)
      have hw2 : IntKind.u64.wrap (y * 256 + z) = y * 256 + z := by
        simp only [IntKind.wrap, IntKind.bits, IntKind.signed, Bool.false_and, Bool.false_eq_true, if_false]
        exact Int.emod_eq_of_lt (by omega) (by omega)
      go_wp2
      go_roundw
      case rel => exact ⟨k + 1, by omega, by go_num, by rw [HST.out], hbr⟩
      case measure => simp [intOf]; omega
    · have hk : n.toNat = k := by omega
      have hE : Hid (lowAt bs i n = lowN ((rs.take k).reverse)) := Lib.hid (by rw [hR2.out, List.take_of_length_le (by omega)])
      clear hk hR2
      go_wp2
      go_ret3
      exact ⟨by rw [hE.out]; rfl, bgo hb1 hbr⟩
theorem refAt (A : Option Addr) (c : Nat) (bs : List Int) (i n : Int) (w : World) (hC : (Kd.int .u8).C w A bs.length bs) (hc : bs.length ≤ c) (hl : bs.length ≤ 140737488355320) (hby : ∀ x ∈ bs, 0 ≤ x ∧ x ≤ 255) (i0 : 0 ≤ i) (n1 : 1 ≤ n) (n4 : n ≤ 4) (hin : i + n ≤ bs.length) :
    Calls Try.prog 46 #[.slice A bs.length c, .int .i64 i, .int .i64 n] w fun e w' => e = .returned (.int .i64 (lowAt bs i n)) ∧ Below w.heap.size w w' := by
  have H := Lib.hid (refRead_low A c bs i n w hC hc hl hby i0 n1 (by omega) hin)
  have hv := lowAt_bound bs i n hby (by omega) n4
  have hw : wrap64 (lowAt bs i n) = lowAt bs i n := wrap64_id _ (by omega) (by omega)
  clear hC
  generalize lowAt bs i n = v at *
  go_enter Try.func46, Try.ntmps46
  go_wp2_with (go_at_call 60; refine H.out.mono ?_; rintro e w1 ⟨rfl, hb1⟩)
  go_ret
  exact ⟨by first | rfl | (rw [hw]), hb1⟩
end Go.Proofs.Ytmecigllpdeeoaa.By
