/- zip.End. -/
import Derived.Test.YtmecigllpdeeoaaReadR
import Derived.WalkMore
set_option linter.unusedVariables false
namespace Go.Proofs.Ytmecigllpdeeoaa.By
set_option linter.unusedSimpArgs false
open Go.RowKit Go.BigFrame Go.Proofs.Ytmecigllpdeeoaa.Reg Go.Proofs.YtmecigllpdeeoaaW.PrintWords Go.Proofs.YtmecigllpdeeoaaW.PrintLast Go.Proofs.YtmecigllpdeeoaaW.PrintMore Go.Proofs.Ytmecigllpdeeoaa.PPut

/-- The four bytes at a place. -/
def at4 (bs : List Int) (p : Int) : List Int := (bs.take (p + 4).toNat).drop p.toNat
/-- Are these the mark? -/
def isMark (bs : List Int) (p : Int) : Bool := (strOfNums (at4 bs p)).toList == [80, 75, 5, 6]
/-- What the record says. -/
def says (bs : List Int) (j : Int) : Int × Int × Int × Int :=
  if lowAt bs (j + 4) 2 ≠ 0 ∨ lowAt bs (j + 6) 2 ≠ 0 ∨ (lowAt bs (j + 8) 2 = 65535 ∧ lowAt bs (j + 16) 4 = 4294967295) then (0, 0, 0, 16)
  else if lowAt bs (j + 8) 2 = lowAt bs (j + 10) 2 ∧ lowAt bs (j + 16) 4 + lowAt bs (j + 12) 4 = j then (j, lowAt bs (j + 16) 4, lowAt bs (j + 10) 2, 0)
  else (0, 0, 0, 11)
/-- The answer, sought from a place down. -/
def seek (bs : List Int) : Nat → Int × Int × Int × Int
  | 0 => (0, 0, 0, 11)
  | k + 1 => if (k : Int) < bs.length - 65557 then (0, 0, 0, 11) else if isMark bs k = true ∧ lowAt bs (k + 20) 2 = bs.length - k - 22 then says bs k else seek bs k
theorem seek_out (bs : List Int) (p : Int) (h : p < 0 ∨ p < bs.length - 65557) : seek bs (p + 1).toNat = (0, 0, 0, 11) := by
  rcases hk : (p + 1).toNat with _ | k
  · rfl
  · rw [seek, if_pos (by omega)]
theorem seek_on (bs : List Int) (p : Int) (h0 : 0 ≤ p) (h1 : ¬ p < bs.length - 65557) (h2 : ¬ (isMark bs p = true ∧ lowAt bs (p + 20) 2 = bs.length - p - 22)) : seek bs (p + 1).toNat = seek bs (p - 1 + 1).toNat := by
  obtain ⟨k, rfl⟩ := Int.eq_ofNat_of_zero_le h0
  rw [show ((k : Int) + 1).toNat = k + 1 by omega, seek, if_neg h1, if_neg h2, show ((k : Int) - 1 + 1).toNat = k by omega]
theorem seek_hit (bs : List Int) (p : Int) (h0 : 0 ≤ p) (h1 : ¬ p < bs.length - 65557) (h2 : isMark bs p = true) (h3 : lowAt bs (p + 20) 2 = bs.length - p - 22) : seek bs (p + 1).toNat = says bs p := by
  obtain ⟨k, rfl⟩ := Int.eq_ofNat_of_zero_le h0
  rw [show ((k : Int) + 1).toNat = k + 1 by omega, seek, if_neg h1, if_pos ⟨h2, h3⟩]
theorem results_tmp4 {fn : Func} {t u v x : Tmp} (h : fn.results = #[.tmp t, .tmp u, .tmp v, .tmp x]) (tmps : Array Value) (P : Program) (w : World) :
    (results fn tmps).run P w = .ok (.tuple #[tmps.getD t undef, tmps.getD u undef, tmps.getD v undef, tmps.getD x undef]) w := by
  simp [results, h]
/-- What the record's numbers say. -/
def said (p d f h a s pl : Int) : Int × Int × Int × Int :=
  if d ≠ 0 ∨ f ≠ 0 ∨ (h = 65535 ∧ pl = 4294967295) then (0, 0, 0, 16) else if h = a ∧ pl + s = p then (p, pl, a, 0) else (0, 0, 0, 11)
theorem ways (d f h a s pl p : Int) : (d ≠ 0) ∨ (d = 0 ∧ f ≠ 0) ∨ (d = 0 ∧ f = 0 ∧ h = 65535 ∧ pl = 4294967295) ∨
    (d = 0 ∧ f = 0 ∧ h ≠ 65535 ∧ h ≠ a) ∨ (d = 0 ∧ f = 0 ∧ h ≠ 65535 ∧ h = a ∧ pl + s ≠ p) ∨ (d = 0 ∧ f = 0 ∧ h ≠ 65535 ∧ h = a ∧ pl + s = p) ∨
    (d = 0 ∧ f = 0 ∧ h = 65535 ∧ pl ≠ 4294967295 ∧ h ≠ a) ∨ (d = 0 ∧ f = 0 ∧ h = 65535 ∧ pl ≠ 4294967295 ∧ h = a ∧ pl + s ≠ p) ∨ (d = 0 ∧ f = 0 ∧ h = 65535 ∧ pl ≠ 4294967295 ∧ h = a ∧ pl + s = p) := by
  by_cases k1 : d = 0
  · by_cases k2 : f = 0
    · by_cases k3 : h = 65535
      · by_cases k4 : pl = 4294967295
        · exact .inr (.inr (.inl ⟨k1, k2, k3, k4⟩))
        · by_cases k5 : h = a
          · by_cases k6 : pl + s = p
            · exact .inr (.inr (.inr (.inr (.inr (.inr (.inr (.inr ⟨k1, k2, k3, k4, k5, k6⟩)))))))
            · exact .inr (.inr (.inr (.inr (.inr (.inr (.inr (.inl ⟨k1, k2, k3, k4, k5, k6⟩)))))))
          · exact .inr (.inr (.inr (.inr (.inr (.inr (.inl ⟨k1, k2, k3, k4, k5⟩))))))
      · by_cases k5 : h = a
        · by_cases k6 : pl + s = p
          · exact .inr (.inr (.inr (.inr (.inr (.inl ⟨k1, k2, k3, k5, k6⟩)))))
          · exact .inr (.inr (.inr (.inr (.inl ⟨k1, k2, k3, k5, k6⟩))))
        · exact .inr (.inr (.inr (.inl ⟨k1, k2, k3, k5⟩)))
    · exact .inr (.inl ⟨k1, k2⟩)
  · exact .inl k1
/-- What zip.End answers. -/
def ends (bs : List Int) : Int × Int × Int × Int := if (bs.length : Int) < 22 then (0, 0, 0, 10) else seek bs (bs.length - 22 + 1 : Int).toNat
set_option maxHeartbeats 8000000 in
set_option maxRecDepth 100000 in
theorem end_calls (A : Option Addr) (c : Nat) (bs : List Int) (w : World) (hC : (Kd.int .u8).C w A bs.length bs) (hc : bs.length ≤ c) (hl : bs.length ≤ 140737488355320) (hby : ∀ x ∈ bs, 0 ≤ x ∧ x ≤ 255) :
    Calls Try.prog 22 #[.slice A bs.length c] w fun e w' => e = .returned (.tuple #[.int .i64 (ends bs).1, .int .i64 (ends bs).2.1, .int .i64 (ends bs).2.2.1, .int .i64 (ends bs).2.2.2]) ∧ Below w.heap.size w w' := by
  obtain ⟨i5, hi5, hz5⟩ := Option.map_eq_some_iff.1 infoB
  simp only [Prod.mk.injEq] at hz5
  have HC := Lib.hid hC
  have HB := Lib.hid hby
  have HI := Lib.hid (And.intro hi5 hz5.2.1)
  clear hC hby hi5 hz5
  by_cases h22 : (bs.length : Int) < 22
  · have hE : ends bs = (0, 0, 0, 10) := if_pos h22
    rw [hE]
    go_enter Try.func22, Try.ntmps22
    go_wp2
    go_step3
    go_wp2
    (try simp only [Exit.inBlock, Exit.then, Exit.noGoto])
    refine bodyPost_ret (results_tmp4 rfl _ _ _) rfl ?_
    exact ⟨rfl, Below.refl _ _⟩
  have hE : Hid (seek bs (bs.length - 22 + 1 : Int).toNat = ends bs) := Lib.hid (if_neg h22).symm
  generalize ends bs = R at *
  go_enter Try.func22, Try.ntmps22
  go_wp2
  go_step3
  go_wp2
  go_step3
  go_wp2
  go_loopw [2, 3, 4, 5, 6, 7, 8, 9, 10, 11, 12, 13, 14] (fun r1 r2 r3 r4 pv _ _ _ _ _ _ _ _ wr => ∃ p : Int, -1 ≤ p ∧ p ≤ bs.length - 22 ∧ pv = .int .i64 p ∧ r1 = .int .i64 0 ∧ r2 = .int .i64 0 ∧ r3 = .int .i64 0 ∧ r4 = .int .i64 11 ∧ Hid (seek bs (p + 1).toNat = R) ∧ Below w.heap.size w wr) (fun _ _ _ _ pv _ _ _ _ _ _ _ _ _ => (intOf pv + 1).toNat)
  case atStart => exact ⟨_, by omega, Int.le_refl _, rfl, rfl, rfl, rfl, rfl, hE, Below.refl _ _⟩
  case round =>
    clear hE
    obtain ⟨p, hp0, hp1, rfl, rfl, rfl, rfl, rfl, hE, hbr⟩ := hrel
    by_cases hout : p < 0 ∨ p < bs.length - 65557
    · rw [seek_out bs p hout] at hE
      have hmax : max (0 : Int) (bs.length - 22 - 65535) > p := by omega
      go_wp2
      (try simp only [Exit.inBlock, Exit.then, Exit.noGoto_ret])
      refine bodyPost_ret (results_tmp4 rfl _ _ _) rfl ?_
      exact ⟨by rw [← hE.out]; rfl, hbr⟩
    have hq0 : 0 ≤ p := by omega
    have hq1 : ¬ p < bs.length - 65557 := by omega
    have hmax : max (0 : Int) (bs.length - 22 - 65535) ≤ p := by omega
    clear hout
    obtain ⟨A', hsl, hrd, hle⟩ := print_mid_int (P := Try.prog) (k := .u8) 35 5 Try.underlying35 HI.out.1 HI.out.2 A c bs p (p + 4) hq0 (by omega) (by omega) hc
    have hx := hrd wr (Kd.reads_of_C (enc := Value.int .u8) (d := (0 : Int)) (h1 := fun _ => rfl) (Kd.C_below HC.out hbr))
    have hcv := Kd.C_string (P := Try.prog) (A := A') (c := c - p.toNat) Try.underlying35 Try.underlying5 Try.underlying9 (Kd.C_of_reads (enc := Value.int .u8) (d := (0 : Int)) (h1 := fun _ => rfl) hx)
    have him : isMark bs p = ((strOfNums (at4 bs p)).toList == [80, 75, 5, 6]) := rfl
    rw [show (bs.take (p + 4).toNat).drop p.toNat = at4 bs p from rfl] at hsl hcv
    clear hrd hle hx
    revert him hsl hcv
    generalize at4 bs p = fs
    intro hcv hsl him
    by_cases hm : (strOfNums fs).toList = [80, 75, 5, 6]
    · have hm1 : ((strOfNums fs).toList == [80, 75, 5, 6]) = true := beq_iff_eq.mpr hm
      have him1 : isMark bs p = true := by rw [him, hm1]
      have HFL := Lib.hid (fields_calls A bs.length c (p + 4) wr)
      have hN : ∀ (w' : World) (q n q' : Int), 0 ≤ q → 1 ≤ n → n ≤ 4 → q' ≤ bs.length → q' = q + n → St wr w' wr.heap.size A bs.length c q → Calls Try.prog 58 #[.int .i64 n, .pointer (some ⟨wr.heap.size, 0, none⟩), .pointer (some ⟨wr.heap.size + 1, 0, none⟩)] w' fun e w'' => e = .returned (.int .i64 (lowAt bs q n)) ∧ St wr w'' wr.heap.size A bs.length c q' := fun w' q n q' h0 h1 h2 h3 h4 hS => by
        subst h4
        exact next_calls wr w' wr.heap.size A c bs q n (Kd.C_below HC.out hbr) hl HB.out hS h0 h1 h2 h3
      have N1 := Lib.hid (fun w' => hN w' (p + 4) 2 (p + 6) (by omega) (by omega) (by omega) (by omega) (by omega))
      have N2 := Lib.hid (fun w' => hN w' (p + 6) 2 (p + 8) (by omega) (by omega) (by omega) (by omega) (by omega))
      have N3 := Lib.hid (fun w' => hN w' (p + 8) 2 (p + 10) (by omega) (by omega) (by omega) (by omega) (by omega))
      have N4 := Lib.hid (fun w' => hN w' (p + 10) 2 (p + 12) (by omega) (by omega) (by omega) (by omega) (by omega))
      have N5 := Lib.hid (fun w' => hN w' (p + 12) 4 (p + 16) (by omega) (by omega) (by omega) (by omega) (by omega))
      have N6 := Lib.hid (fun w' => hN w' (p + 16) 4 (p + 20) (by omega) (by omega) (by omega) (by omega) (by omega))
      have N7 := Lib.hid (fun w' => hN w' (p + 20) 2 (p + 22) (by omega) (by omega) (by omega) (by omega) (by omega))
      have b1 := lowAt_bound bs (p + 4) 2 HB.out (by omega) (by omega)
      have b2 := lowAt_bound bs (p + 6) 2 HB.out (by omega) (by omega)
      have b3 := lowAt_bound bs (p + 8) 2 HB.out (by omega) (by omega)
      have b4 := lowAt_bound bs (p + 10) 2 HB.out (by omega) (by omega)
      have b5 := lowAt_bound bs (p + 12) 4 HB.out (by omega) (by omega)
      have b6 := lowAt_bound bs (p + 16) 4 HB.out (by omega) (by omega)
      have b7 := lowAt_bound bs (p + 20) 2 HB.out (by omega) (by omega)
      have hsy : says bs p = said p (lowAt bs (p + 4) 2) (lowAt bs (p + 6) 2) (lowAt bs (p + 8) 2) (lowAt bs (p + 10) 2) (lowAt bs (p + 12) 4) (lowAt bs (p + 16) 4) := rfl
      have hyes : Hid (lowAt bs (p + 20) 2 = bs.length - p - 22 → says bs p = R) := Lib.hid (fun h => by rw [← seek_hit bs p hq0 hq1 him1 h]; exact hE.out)
      have hno : Hid (lowAt bs (p + 20) 2 ≠ bs.length - p - 22 → seek bs (p - 1 + 1).toNat = R) := Lib.hid (fun h => by rw [← seek_on bs p hq0 hq1 (fun k => h k.2)]; exact hE.out)
      rw [hsy] at hyes
      clear hN hsy him him1 hE HI
      generalize lowAt bs (p + 4) 2 = d at *
      generalize lowAt bs (p + 6) 2 = f at *
      generalize lowAt bs (p + 8) 2 = h at *
      generalize lowAt bs (p + 10) 2 = a at *
      generalize lowAt bs (p + 12) 4 = s at *
      generalize lowAt bs (p + 16) 4 = pl at *
      generalize lowAt bs (p + 20) 2 = cm at *
      go_upto_region 10 with (first
        | (go_at_call 58; refine (N7.out _ S8).mono ?_; rintro e w9 ⟨rfl, S9⟩)
        | (go_at_call 58; refine (N6.out _ S7).mono ?_; rintro e w8 ⟨rfl, S8⟩)
        | (go_at_call 58; refine (N5.out _ S6).mono ?_; rintro e w7 ⟨rfl, S7⟩)
        | (go_at_call 58; refine (N4.out _ S5).mono ?_; rintro e w6 ⟨rfl, S6⟩)
        | (go_at_call 58; refine (N3.out _ S4).mono ?_; rintro e w5 ⟨rfl, S5⟩)
        | (go_at_call 58; refine (N2.out _ S3).mono ?_; rintro e w4 ⟨rfl, S4⟩)
        | (go_at_call 58; refine (N1.out _ S2).mono ?_; rintro e w3 ⟨rfl, S3⟩)
        | (go_at_call 45; refine HFL.out.mono ?_; rintro e w2 ⟨rfl, S2⟩))
      have hbn := Lib.hid (bgo hbr S9.b)
      clear S2 S3 S4 S5 S6 S7 S8 S9 N1 N2 N3 N4 N5 N6 N7 HFL hsl hcv HC HB hbr
      by_cases hcm : cm = bs.length - p - 22
      · have hE := hyes.out hcm
        clear hyes hno
        have HE := Lib.hid hE
        clear hE
        go_upto_region 11 with (fail)
        have hE := HE.out
        clear HE hcm b7
        unfold said at hE
        rcases ways d f h a s pl p with k1 | ⟨k1, k2⟩ | ⟨k1, k2, k3, k4⟩ | ⟨k1, k2, k3, k4⟩ | ⟨k1, k2, k3, k4, k5⟩ | ⟨k1, k2, k3, k4, k5⟩ | ⟨k1, k2, k3, k4, k5⟩ | ⟨k1, k2, k3, k4, k5, k6⟩ | ⟨k1, k2, k3, k4, k5, k6⟩
        case inl | inr.inl | inr.inr.inl =>
          rw [if_pos (by omega)] at hE
          have HE := Lib.hid hE
          clear hE
          go_wp2
          (try simp only [Exit.inBlock, Exit.then, Exit.noGoto_ret])
          refine bodyPost_ret (results_tmp4 rfl _ _ _) rfl ?_
          exact ⟨by rw [← HE.out]; rfl, hbn.out⟩
        case inr.inr.inr.inr.inr.inl | inr.inr.inr.inr.inr.inr.inr.inr =>
          rw [if_neg (by omega), if_pos (by omega)] at hE
          have HE := Lib.hid hE
          clear hE
          go_wp2
          (try simp only [Exit.inBlock, Exit.then, Exit.noGoto_ret])
          refine bodyPost_ret (results_tmp4 rfl _ _ _) rfl ?_
          exact ⟨by rw [← HE.out]; rfl, hbn.out⟩
        all_goals
          rw [if_neg (by omega), if_neg (by omega)] at hE
          have HE := Lib.hid hE
          clear hE
          go_wp2
          (try simp only [Exit.inBlock, Exit.then, Exit.noGoto_ret])
          refine bodyPost_ret (results_tmp4 rfl _ _ _) rfl ?_
          exact ⟨by rw [← HE.out]; rfl, hbn.out⟩
      · have hE := Lib.hid (hno.out hcm)
        clear hyes hno
        go_wp2
        go_roundw
        case rel => exact ⟨_, by omega, by omega, rfl, rfl, rfl, rfl, rfl, hE, hbn.out⟩
        case measure => simp [intOf]; omega
    · have hm1 : ((strOfNums fs).toList == [80, 75, 5, 6]) = false := beq_eq_false_iff_ne.mpr hm
      have hmk : ¬ (isMark bs p = true ∧ lowAt bs (p + 20) 2 = bs.length - p - 22) := fun h => by rw [him, hm1] at h; exact absurd h.1 (by simp)
      rw [seek_on bs p hq0 hq1 hmk] at hE
      clear him hmk HI
      go_wp2
      go_roundw
      case rel => exact ⟨_, by omega, by omega, rfl, rfl, rfl, rfl, rfl, hE, hbr⟩
      case measure => simp [intOf]; omega
end Go.Proofs.Ytmecigllpdeeoaa.By
