/- hamperref20.End. -/
import Derived.Test.YtmecigllpdeeoaaZipE
set_option linter.unusedVariables false
namespace Go.Proofs.Ytmecigllpdeeoaa.By
set_option linter.unusedSimpArgs false
open Go.RowKit Go.BigFrame Go.Proofs.Ytmecigllpdeeoaa.Reg Go.Proofs.YtmecigllpdeeoaaW.PrintWords Go.Proofs.YtmecigllpdeeoaaW.PrintLast Go.Proofs.YtmecigllpdeeoaaW.PrintMore Go.Proofs.Ytmecigllpdeeoaa.PPut
set_option maxHeartbeats 8000000 in
set_option maxRecDepth 100000 in
theorem refEnd_calls (A : Option Addr) (c : Nat) (bs : List Int) (w : World) (hC : (Kd.int .u8).C w A bs.length bs) (hc : bs.length ≤ c) (hl : bs.length ≤ 140737488355320) (hby : ∀ x ∈ bs, 0 ≤ x ∧ x ≤ 255) :
    Calls Try.prog 23 #[.slice A bs.length c] w fun e w' => e = .returned (.tuple #[.int .i64 (ends bs).1, .int .i64 (ends bs).2.1, .int .i64 (ends bs).2.2.1, .int .i64 (ends bs).2.2.2]) ∧ Below w.heap.size w w' := by
  obtain ⟨i5, hi5, hz5⟩ := Option.map_eq_some_iff.1 infoB
  simp only [Prod.mk.injEq] at hz5
  have HC := Lib.hid hC
  have HB := Lib.hid hby
  have HI := Lib.hid (And.intro hi5 hz5.2.1)
  clear hC hby hi5 hz5
  by_cases h22 : (bs.length : Int) < 22
  · have hE : ends bs = (0, 0, 0, 10) := if_pos h22
    rw [hE]
    go_enter Try.func23, Try.ntmps23
    go_wp2
    (try simp only [Exit.inBlock, Exit.then, Exit.noGoto])
    refine bodyPost_ret (results_tmp4 rfl _ _ _) rfl ?_
    exact ⟨rfl, Below.refl _ _⟩
  have hE : Hid (seek bs (bs.length - 22 + 1 : Int).toNat = ends bs) := Lib.hid (if_neg h22).symm
  generalize ends bs = R at *
  go_enter Try.func23, Try.ntmps23
  go_wp2
  go_loopw [2, 3, 4, 5, 6, 7, 8, 9, 10] (fun r1 r2 r3 r4 pv _ _ _ _ wr => ∃ p : Int, -1 ≤ p ∧ p ≤ bs.length - 22 ∧ pv = .int .i64 p ∧ r1 = .int .i64 0 ∧ r2 = .int .i64 0 ∧ r3 = .int .i64 0 ∧ r4 = .int .i64 0 ∧ Hid (seek bs (p + 1).toNat = R) ∧ Below w.heap.size w wr) (fun _ _ _ _ pv _ _ _ _ _ => (intOf pv + 1).toNat)
  case atStart => exact ⟨_, by omega, Int.le_refl _, rfl, rfl, rfl, rfl, rfl, hE, Below.refl _ _⟩
  case round =>
    clear hE
    obtain ⟨p, hp0, hp1, rfl, rfl, rfl, rfl, rfl, hE, hbr⟩ := hrel
    by_cases hout : p < 0 ∨ p < bs.length - 65557
    · rw [seek_out bs p hout] at hE
      by_cases hq : p < 0
      · go_wp2
        (try simp only [Exit.inBlock, Exit.then, Exit.noGoto_ret])
        refine bodyPost_ret (results_tmp4 rfl _ _ _) rfl ?_
        exact ⟨by rw [← hE.out]; rfl, hbr⟩
      · have hq1 : p < bs.length - 65557 := by omega
        go_wp2
        (try simp only [Exit.inBlock, Exit.then, Exit.noGoto_ret])
        refine bodyPost_ret (results_tmp4 rfl _ _ _) rfl ?_
        exact ⟨by rw [← hE.out]; rfl, hbr⟩
    have hq0 : 0 ≤ p := by omega
    have hq1 : bs.length - 65557 ≤ p := by omega
    clear hout
    obtain ⟨A', hsl, hrd, hle⟩ := print_mid_int (P := Try.prog) (k := .u8) 35 5 Try.underlying35 HI.out.1 HI.out.2 A c bs p (p + 4) hq0 (by omega) (by omega) hc
    have hx := hrd wr (Kd.reads_of_C (enc := Value.int .u8) (d := (0 : Int)) (h1 := fun _ => rfl) (Kd.C_below HC.out hbr))
    have hcv := Kd.C_string (P := Try.prog) (A := A') (c := c - p.toNat) Try.underlying35 Try.underlying5 Try.underlying9 (Kd.C_of_reads (enc := Value.int .u8) (d := (0 : Int)) (h1 := fun _ => rfl) hx)
    have him : isMark bs p = ((strOfNums (at4 bs p)).toList == [80, 75, 5, 6]) := rfl
    rw [show (bs.take (p + 4).toNat).drop p.toNat = at4 bs p from rfl] at hsl hcv
    clear hrd hle hx
    revert him hsl hcv
    generalize at4 bs p = fs
    intro hcv hsl him
    have hN : ∀ (w' : World) (q n : Int), 0 ≤ q → 1 ≤ n → n ≤ 4 → q + n ≤ bs.length → Below w.heap.size w w' → Calls Try.prog 46 #[.slice A bs.length c, .int .i64 q, .int .i64 n] w' fun e w'' => e = .returned (.int .i64 (lowAt bs q n)) ∧ Below w.heap.size w w'' := fun w' q n h0 h1 h2 h3 hb => 
      (refAt A c bs q n w' (Kd.C_below HC.out hb) hc hl HB.out h0 h1 h2 h3).mono fun e w'' h => ⟨h.1, bgo hb h.2⟩
    by_cases hm : (strOfNums fs).toList = [80, 75, 5, 6]
    · have hm1 : ((strOfNums fs).toList == [80, 75, 5, 6]) = true := beq_iff_eq.mpr hm
      have him1 : isMark bs p = true := by rw [him, hm1]
      have N1 := Lib.hid (fun w' => hN w' (p + 4) 2 (by omega) (by omega) (by omega) (by omega))
      have N2 := Lib.hid (fun w' => hN w' (p + 6) 2 (by omega) (by omega) (by omega) (by omega))
      have N3 := Lib.hid (fun w' => hN w' (p + 8) 2 (by omega) (by omega) (by omega) (by omega))
      have N4 := Lib.hid (fun w' => hN w' (p + 10) 2 (by omega) (by omega) (by omega) (by omega))
      have N5 := Lib.hid (fun w' => hN w' (p + 12) 4 (by omega) (by omega) (by omega) (by omega))
      have N6 := Lib.hid (fun w' => hN w' (p + 16) 4 (by omega) (by omega) (by omega) (by omega))
      have N7 := Lib.hid (fun w' => hN w' (p + 20) 2 (by omega) (by omega) (by omega) (by omega))
      have b1 := lowAt_bound bs (p + 4) 2 HB.out (by omega) (by omega)
      have b2 := lowAt_bound bs (p + 6) 2 HB.out (by omega) (by omega)
      have b3 := lowAt_bound bs (p + 8) 2 HB.out (by omega) (by omega)
      have b4 := lowAt_bound bs (p + 10) 2 HB.out (by omega) (by omega)
      have b5 := lowAt_bound bs (p + 12) 4 HB.out (by omega) (by omega)
      have b6 := lowAt_bound bs (p + 16) 4 HB.out (by omega) (by omega)
      have b7 := lowAt_bound bs (p + 20) 2 HB.out (by omega) (by omega)
      have hsy : says bs p = said p (lowAt bs (p + 4) 2) (lowAt bs (p + 6) 2) (lowAt bs (p + 8) 2) (lowAt bs (p + 10) 2) (lowAt bs (p + 12) 4) (lowAt bs (p + 16) 4) := rfl
      have hyes : Hid (lowAt bs (p + 20) 2 = bs.length - p - 22 → says bs p = R) := Lib.hid (fun h => by rw [← seek_hit bs p hq0 (by omega) him1 h]; exact hE.out)
      have hno : Hid (lowAt bs (p + 20) 2 ≠ bs.length - p - 22 → seek bs (p - 1 + 1).toNat = R) := Lib.hid (fun h => by rw [← seek_on bs p hq0 (by omega) (fun k => h k.2)]; exact hE.out)
      rw [hsy] at hyes
      clear hN hsy him him1 hE HI
      generalize lowAt bs (p + 4) 2 = d at *
      generalize lowAt bs (p + 6) 2 = f at *
      generalize lowAt bs (p + 8) 2 = h at *
      generalize lowAt bs (p + 10) 2 = a at *
      generalize lowAt bs (p + 12) 4 = s at *
      generalize lowAt bs (p + 16) 4 = pl at *
      generalize lowAt bs (p + 20) 2 = cm at *
      by_cases hcm : cm = bs.length - p - 22
      · have HE := Lib.hid (hyes.out hcm)
        clear hyes hno
        go_upto_region 11 with (first
          | (go_at_call 46; refine (N6.out _ hb10).mono ?_; rintro e w11 ⟨rfl, hb11⟩)
          | (go_at_call 46; refine (N5.out _ hb9).mono ?_; rintro e w10 ⟨rfl, hb10⟩)
          | (go_at_call 46; refine (N4.out _ hb8).mono ?_; rintro e w9 ⟨rfl, hb9⟩)
          | (go_at_call 46; refine (N3.out _ hb7).mono ?_; rintro e w8 ⟨rfl, hb8⟩)
          | (go_at_call 46; refine (N7.out _ hbr).mono ?_; rintro e w7 ⟨rfl, hb7⟩))
        have hE := HE.out
        unfold said at hE
        clear HE hcm b7 N3 N4 N5 N6 N7 hb7 hb8 hb9 hb10 hbr hsl hcv HC HB
        rcases ways d f h a s pl p with k1 | ⟨k1, k2⟩ | ⟨k1, k2, k3, k4⟩ | ⟨k1, k2, k3, k4⟩ | ⟨k1, k2, k3, k4, k5⟩ | ⟨k1, k2, k3, k4, k5⟩ | ⟨k1, k2, k3, k4, k5⟩ | ⟨k1, k2, k3, k4, k5, k6⟩ | ⟨k1, k2, k3, k4, k5, k6⟩
        case inl =>
          rw [if_pos (by omega)] at hE
          have HE := Lib.hid hE
          clear hE
          go_wp2_with (first | (go_at_call 46; refine (N2.out _ hb12).mono ?_; rintro e w13 ⟨rfl, hb13⟩) | (go_at_call 46; refine (N1.out _ hb11).mono ?_; rintro e w12 ⟨rfl, hb12⟩))
          (try simp only [Exit.inBlock, Exit.then, Exit.noGoto_ret])
          refine bodyPost_ret (results_tmp4 rfl _ _ _) rfl ?_
          exact ⟨by rw [← HE.out]; rfl, hb12⟩
        case inr.inl | inr.inr.inl =>
          rw [if_pos (by omega)] at hE
          have HE := Lib.hid hE
          clear hE
          go_wp2_with (first | (go_at_call 46; refine (N2.out _ hb12).mono ?_; rintro e w13 ⟨rfl, hb13⟩) | (go_at_call 46; refine (N1.out _ hb11).mono ?_; rintro e w12 ⟨rfl, hb12⟩))
          (try simp only [Exit.inBlock, Exit.then, Exit.noGoto_ret])
          refine bodyPost_ret (results_tmp4 rfl _ _ _) rfl ?_
          exact ⟨by rw [← HE.out]; rfl, hb13⟩
        case inr.inr.inr.inr.inr.inl | inr.inr.inr.inr.inr.inr.inr.inr =>
          rw [if_neg (by omega), if_pos (by omega)] at hE
          have HE := Lib.hid hE
          clear hE
          go_wp2_with (first | (go_at_call 46; refine (N2.out _ hb12).mono ?_; rintro e w13 ⟨rfl, hb13⟩) | (go_at_call 46; refine (N1.out _ hb11).mono ?_; rintro e w12 ⟨rfl, hb12⟩))
          (try simp only [Exit.inBlock, Exit.then, Exit.noGoto_ret])
          refine bodyPost_ret (results_tmp4 rfl _ _ _) rfl ?_
          exact ⟨by rw [← HE.out]; rfl, hb13⟩
        all_goals
          rw [if_neg (by omega), if_neg (by omega)] at hE
          have HE := Lib.hid hE
          clear hE
          go_wp2_with (first | (go_at_call 46; refine (N2.out _ hb12).mono ?_; rintro e w13 ⟨rfl, hb13⟩) | (go_at_call 46; refine (N1.out _ hb11).mono ?_; rintro e w12 ⟨rfl, hb12⟩))
          (try simp only [Exit.inBlock, Exit.then, Exit.noGoto_ret])
          refine bodyPost_ret (results_tmp4 rfl _ _ _) rfl ?_
          exact ⟨by rw [← HE.out]; rfl, hb13⟩
      · have hE := Lib.hid (hno.out hcm)
        clear hyes hno
        go_wp2_with (go_at_call 46; refine (N7.out _ hbr).mono ?_; rintro e w7 ⟨rfl, hb7⟩)
        go_roundw
        case rel => exact ⟨_, by omega, by omega, rfl, rfl, rfl, rfl, rfl, hE, hb7⟩
        case measure => simp [intOf]; omega
    · have hm1 : ((strOfNums fs).toList == [80, 75, 5, 6]) = false := beq_eq_false_iff_ne.mpr hm
      have hmk : ¬ (isMark bs p = true ∧ lowAt bs (p + 20) 2 = bs.length - p - 22) := fun h => by rw [him, hm1] at h; exact absurd h.1 (by simp)
      rw [seek_on bs p hq0 (by omega) hmk] at hE
      clear him hmk HI hN
      go_wp2
      go_roundw
      case rel => exact ⟨_, by omega, by omega, rfl, rfl, rfl, rfl, rfl, hE, hbr⟩
      case measure => simp [intOf]; omega
end Go.Proofs.Ytmecigllpdeeoaa.By
