/- hamperlaw02.NumberBack walked. -/
import Derived.Test.YtmecigllpdeeoaaDoorReadH
import Derived.Test.YtmecigllpdeeoaaDoorDigLaid
set_option linter.unusedVariables false
namespace Go.Proofs.YtmecigllpdeeoaaDoor.By
open Go.RowKit Go.BigFrame Go.Proofs.YtmecigllpdeeoaaDoor.Reg Go.Proofs.YtmecigllpdeeoaaDoorW.PrintWords Go.Proofs.YtmecigllpdeeoaaDoorW.PrintLast Go.Proofs.YtmecigllpdeeoaaDoorW.PrintMore

theorem rdec_alt (l : List UInt8) : (∃ n : Int, Dig.rdec l = (n, 0) ∧ Lib.itoa n = l ∧ -9223372036854775808 ≤ n ∧ n ≤ 9223372036854775807) ∨ Dig.rdec l = (0, 11) := by
  unfold Dig.rdec
  rcases ha : Lib.atoiAll l with v | _ | _
  · obtain ⟨b1, b2⟩ := Lib.atoiAll_bounds ha
    by_cases h : Lib.itoa v = l
    · exact .inl ⟨v, if_pos h, h, b1, b2⟩
    · exact .inr (if_neg h)
  · exact .inr rfl
  · exact .inr rfl
set_option maxHeartbeats 4000000 in
set_option maxRecDepth 100000 in
theorem backWalk (A : Option Addr) (c : Nat) (bs : List Int) (v : Int) (s : ByteArray) (w : World) (hL : Dig.Laid w) (hC : (Kd.int .u8).C w A bs.length bs) (hc : bs.length ≤ c) (hl : bs.length ≤ 140737488355310) (hby : ∀ x ∈ bs, 0 ≤ x ∧ x ≤ 255) (v0 : 0 ≤ v) (v1 : v ≤ 18446744073709551615) (hs : s.size ≤ 140737488351232) :
    Calls Tryd.prog 6 #[.slice A bs.length c, .int .u64 v, .string s] w fun e w' => e = .returned (.bool true) ∧ Below w.heap.size w w' := by
  have HC := Lib.hid hC
  have HL := Lib.hid hL
  have H1 := Lib.hid (putVar_ok A c bs (v / 2) w hC (by omega) (by omega) (by omega))
  clear hC hL
  go_enter Tryd.func6, Tryd.ntmps6
  go_upto_region 3 with (go_at_call 24; refine H1.out.mono ?_; rintro e w1 ⟨u1, rfl, hR1, hb1⟩)
  have hmx : ∀ x ∈ bs ++ varF 9 (v / 2), 0 ≤ x ∧ x ≤ 255 := fun x hx => by
    rcases List.mem_append.1 hx with h | h
    · exact hby x h
    · exact varF_bytes _ _ x h
  have hlx : (bs ++ varF 9 (v / 2)).length ≤ 140737488355320 := by
    have := varF_len 9 (v / 2)
    rw [List.length_append]
    omega
  have hlx2 : bs.length ≤ (bs ++ varF 9 (v / 2)).length := by rw [List.length_append]; omega
  have hput := varA_put bs (v / 2) (by omega) (by omega)
  revert hR1 hmx hlx hlx2 hput
  generalize bs ++ varF 9 (v / 2) = xs
  intro hR1 hmx hlx hlx2 hput
  obtain ⟨Ax, cx, rfl, hcx, hCx⟩ := Kd.R_reads hR1
  have h2 := var_calls Ax cx xs bs.length w1 hCx hcx (by omega) (by omega) (by omega) hmx
  rw [hput] at h2
  have H2 := Lib.hid h2
  clear h2 hput hR1 hCx hmx H1
  go_upto_region 4 with (go_at_call 25; refine H2.out.mono ?_; rintro e w2 ⟨rfl, hb2⟩)
  have hb12 := bgo hb1 hb2
  have h3 := putHigh_any A c bs v 8 w2 (Kd.C_below HC.out hb12) (by omega) v0 v1
  have he : putE v 8 = 0 := by
    have hp : ((2 ^ (8 * (8 : Int).toNat) : Nat) : Int) = 18446744073709551616 := by decide
    unfold putE
    rw [if_neg (by omega), if_neg (by rw [hp]; omega)]
  have hp : putL bs v 8 (highP (8 : Int).toNat) = bs ++ laid v (highP 8) 8 := by
    unfold putL
    rw [if_pos he]
    rfl
  rw [he, hp] at h3
  have H3 := Lib.hid h3
  clear h3 he hp H2
  go_upto_region 5 with (go_at_call 26; refine H3.out.mono ?_; rintro e w3 ⟨u3, rfl, hR3, hb3⟩)
  revert hR3
  generalize hys : bs ++ laid v (highP 8) 8 = ys
  intro hR3
  obtain ⟨Ay, cy, rfl, hcy, hCy⟩ := Kd.R_reads hR3
  have H4 := Lib.hid (high_calls Ay cy bs v w3 ys hys hCy (by omega) v0 v1)
  clear hR3 hCy hys H3
  go_upto_region 6 with (go_at_call 27; refine H4.out.mono ?_; rintro e w4 ⟨rfl, hb4⟩)
  have hb14 := bgo (bgo hb12 hb3) hb4
  have H5 := Lib.hid (Dig.read_calls s (by omega) w4 (HL.out.below hb14))
  clear H4
  rcases rdec_alt s.data.toList with ⟨n, hr, hi, n0, n1⟩ | hr
  · rw [hr] at H5
    go_upto_region 9 with (go_at_call 13; refine H5.out.mono ?_; rintro e w5 ⟨rfl, hb5⟩)
    have hb15 := bgo hb14 hb5
    have H6 := Dig.decimal_calls n n0 n1 w5 (HL.out.below hb15)
    rw [show Dig.B (Lib.itoa n) = s by rw [hi]; exact Dig.of_B s] at H6
    replace H6 := Lib.hid H6
    clear hi hr
    go_upto_region 11 with (go_at_call 15; refine H6.out.mono ?_; rintro e w6 ⟨rfl, hb6⟩)
    have hb16 := bgo hb15 hb6
    have hw0 := Dig.wrap64_in' v
    have H7 := Lib.hid (Dig.decimal_calls (wrap64 v) hw0.1 hw0.2 w6 (HL.out.below hb16))
    go_upto_region 12 with (first
      | (go_at_call 15; refine H7.out.mono ?_; rintro e w7 ⟨rfl, hb7⟩; have hb17 := bgo hb16 hb7; have H8 := Dig.read_calls (Dig.B (Lib.itoa (wrap64 v))) (by rw [Dig.B_size]; have := Lib.itoa_length_le _ hw0.1 hw0.2; omega) w7 (HL.out.below hb17); rw [Dig.B_data, Dig.rdec_itoa _ hw0.1 hw0.2] at H8; replace H8 := Lib.hid H8)
      | (go_at_call 13; refine H8.out.mono ?_; rintro e w8 ⟨rfl, hb8⟩))
    have hb18 := bgo hb17 hb8
    have H9 := var_calls A c bs 0 w8 (Kd.C_below HC.out hb18) hc (by omega) (by omega) (by omega) hby
    rcases hva : varA bs 0 with ⟨u, p, f⟩
    rw [hva] at H9
    replace H9 := Lib.hid H9
    clear H7 H8
    go_upto_region 13 with (go_at_call 25; refine H9.out.mono ?_; rintro e w9 ⟨rfl, hb9⟩)
    have hb19 := bgo hb18 hb9
    clear H9
    by_cases hf : f = 0
    · subst hf
      obtain ⟨u0, u1, p0, p1, ht⟩ := varA_form bs u p hby hva
      have hnil : (Kd.int .u8).C w9 none ([] : List Int).length [] := ⟨rfl, by simp, fun h => absurd h (by simp)⟩
      have H10 : Hid (Calls Tryd.prog 24 #[.slice none 0 0, .int .u64 u] w9 fun e w' => ∃ z, e = .returned (.tuple #[z, .int .i64 0]) ∧ (Kd.int .u8).R 5 w' w9.heap.size (fun _ => True) z ([] ++ varF 9 u) ∧ Below w9.heap.size w9 w') := Lib.hid (putVar_ok none 0 [] u w9 hnil (by simp) u0 u1)
      clear hnil hva
      go_upto_region 15 with (go_at_call 24; refine H10.out.mono ?_; rintro e w10 ⟨z, rfl, hR10, hb10⟩)
      have hb110 := bgo hb19 hb10
      rw [List.nil_append] at hR10
      obtain ⟨i5, hi5, hz5⟩ := Option.map_eq_some_iff.1 infoB
      simp only [Prod.mk.injEq] at hz5
      have hsl := (print_take_int (P := Tryd.prog) (k := .u8) 22 5 Tryd.underlying22 hi5 hz5.2.1 A c bs p p0 p1 hc).1
      have hCt : (Kd.int .u8).C w10 A (bs.take p.toNat).length (bs.take p.toNat) := Kd.C_below (Kd.C_take HC.out (by omega)) hb110
      rw [ht] at hsl hCt
      clear H10 ht hi5 hz5 i5
      revert hR10 hsl hCt
      generalize varF 9 u = zs
      intro hR10 hsl hCt
      obtain ⟨Az, cz, rfl, hcz, hCz⟩ := Kd.R_reads hR10
      refine wp_region_above (by kernel_rfl) (by kernel_rfl) ?_
      intro ne
      have q1 : ∀ n : Abv w10, _ := fun n => Kd.C_string (P := Tryd.prog) (A := Az) (c := cz) Tryd.underlying22 Tryd.underlying5 Tryd.underlying9 (Kd.C_below hCz n.bel)
      have q2 : ∀ n : Abv w10, _ := fun n => Kd.C_string (P := Tryd.prog) (A := A) (c := c) Tryd.underlying22 Tryd.underlying5 Tryd.underlying9 (Kd.C_below hCt n.bel)
      repeat (go_big_quiet_step (fail))
      refine quiet_above ?_
      intro w11 hb11
      go_wp2
      go_ret
      exact ⟨rfl, bgo hb110 hb11⟩
    · have hne : (f == 0) = false := beq_eq_false_iff_ne.mpr hf
      clear hf hva
      go_wp2
      go_ret
      exact ⟨rfl, hb19⟩
  · rw [hr] at H5
    go_upto_region 11 with (go_at_call 13; refine H5.out.mono ?_; rintro e w6 ⟨rfl, hb5⟩)
    have hb16 := bgo hb14 hb5
    have hw0 := Dig.wrap64_in' v
    have H7 := Lib.hid (Dig.decimal_calls (wrap64 v) hw0.1 hw0.2 w6 (HL.out.below hb16))
    go_upto_region 12 with (first
      | (go_at_call 15; refine H7.out.mono ?_; rintro e w7 ⟨rfl, hb7⟩; have hb17 := bgo hb16 hb7; have H8 := Dig.read_calls (Dig.B (Lib.itoa (wrap64 v))) (by rw [Dig.B_size]; have := Lib.itoa_length_le _ hw0.1 hw0.2; omega) w7 (HL.out.below hb17); rw [Dig.B_data, Dig.rdec_itoa _ hw0.1 hw0.2] at H8; replace H8 := Lib.hid H8)
      | (go_at_call 13; refine H8.out.mono ?_; rintro e w8 ⟨rfl, hb8⟩))
    have hb18 := bgo hb17 hb8
    have H9 := var_calls A c bs 0 w8 (Kd.C_below HC.out hb18) hc (by omega) (by omega) (by omega) hby
    rcases hva : varA bs 0 with ⟨u, p, f⟩
    rw [hva] at H9
    replace H9 := Lib.hid H9
    clear H7 H8
    go_upto_region 13 with (go_at_call 25; refine H9.out.mono ?_; rintro e w9 ⟨rfl, hb9⟩)
    have hb19 := bgo hb18 hb9
    clear H9
    by_cases hf : f = 0
    · subst hf
      obtain ⟨u0, u1, p0, p1, ht⟩ := varA_form bs u p hby hva
      have hnil : (Kd.int .u8).C w9 none ([] : List Int).length [] := ⟨rfl, by simp, fun h => absurd h (by simp)⟩
      have H10 : Hid (Calls Tryd.prog 24 #[.slice none 0 0, .int .u64 u] w9 fun e w' => ∃ z, e = .returned (.tuple #[z, .int .i64 0]) ∧ (Kd.int .u8).R 5 w' w9.heap.size (fun _ => True) z ([] ++ varF 9 u) ∧ Below w9.heap.size w9 w') := Lib.hid (putVar_ok none 0 [] u w9 hnil (by simp) u0 u1)
      clear hnil hva
      go_upto_region 15 with (go_at_call 24; refine H10.out.mono ?_; rintro e w10 ⟨z, rfl, hR10, hb10⟩)
      have hb110 := bgo hb19 hb10
      rw [List.nil_append] at hR10
      obtain ⟨i5, hi5, hz5⟩ := Option.map_eq_some_iff.1 infoB
      simp only [Prod.mk.injEq] at hz5
      have hsl := (print_take_int (P := Tryd.prog) (k := .u8) 22 5 Tryd.underlying22 hi5 hz5.2.1 A c bs p p0 p1 hc).1
      have hCt : (Kd.int .u8).C w10 A (bs.take p.toNat).length (bs.take p.toNat) := Kd.C_below (Kd.C_take HC.out (by omega)) hb110
      rw [ht] at hsl hCt
      clear H10 ht hi5 hz5 i5
      revert hR10 hsl hCt
      generalize varF 9 u = zs
      intro hR10 hsl hCt
      obtain ⟨Az, cz, rfl, hcz, hCz⟩ := Kd.R_reads hR10
      refine wp_region_above (by kernel_rfl) (by kernel_rfl) ?_
      intro ne
      have q1 : ∀ n : Abv w10, _ := fun n => Kd.C_string (P := Tryd.prog) (A := Az) (c := cz) Tryd.underlying22 Tryd.underlying5 Tryd.underlying9 (Kd.C_below hCz n.bel)
      have q2 : ∀ n : Abv w10, _ := fun n => Kd.C_string (P := Tryd.prog) (A := A) (c := c) Tryd.underlying22 Tryd.underlying5 Tryd.underlying9 (Kd.C_below hCt n.bel)
      repeat (go_big_quiet_step (fail))
      refine quiet_above ?_
      intro w11 hb11
      go_wp2
      go_ret
      exact ⟨rfl, bgo hb110 hb11⟩
    · have hne : (f == 0) = false := beq_eq_false_iff_ne.mpr hf
      clear hf hva
      go_wp2
      go_ret
      exact ⟨rfl, hb19⟩
def IsRow (k : IntKind) (w : World) (a : Option Addr) (len cap : Nat) (zs : List Int) : Prop :=
  (a = none ∧ len = 0 ∧ cap = 0 ∧ zs = []) ∨
  ∃ x, a = some x ∧ len ≤ cap ∧ cap ≤ maxLen ∧ zs.length = cap ∧ (∀ i, i < zs.length → w.cell? (x.add i) = some (.int k (zs.getD i 0))) ∧ ∀ n ∈ zs, (Lit.int k n).wf = true
theorem IsRow.reads {k : IntKind} {w : World} {a : Option Addr} {len cap : Nat} {zs : List Int} (h : IsRow k w a len cap zs) (hl : len ≤ 140737488355328) : (Kd.int k).C w a (zs.take len).length (zs.take len) ∧ len = (zs.take len).length ∧ (zs.take len).length ≤ cap ∧ ∀ n ∈ zs.take len, (Lit.int k n).wf = true := by
  rcases h with ⟨rfl, rfl, rfl, rfl⟩ | ⟨x, rfl, h1, h2, h3, h4, h5⟩
  · exact ⟨⟨rfl, by simp, fun h => absurd h (by simp)⟩, rfl, by simp, by simp⟩
  · have hlen : (zs.take len).length = len := by rw [List.length_take]; omega
    refine ⟨?_, hlen.symm, by omega, fun n hn => h5 n (List.mem_of_mem_take hn)⟩
    rw [hlen]
    refine Kd.C_of_reads (enc := Value.int k) (d := (0 : Int)) (h1 := fun _ => rfl) ⟨hlen, by omega, fun hn => ⟨x, rfl, fun j hj => ?_⟩⟩
    rw [h4 j (by omega), List.getD_eq_getElem?_getD, List.getD_eq_getElem?_getD, List.getElem?_take_of_lt hj]
theorem back_law (a : Option Addr) (len cap : Nat) (zs : List Int) (v : Int) (s : ByteArray) (w : World) (h0 : IsRow .u8 w a len cap zs) (h1 : len * 1 ≤ 140737488351232) (h2 : (Lit.int .u64 v).wf = true) (h3 : s.size ≤ 140737488351232) (hL : laidMet Tryd.prog Dig.list5 w) :
    Calls Tryd.prog 6 #[.slice a len cap, .int .u64 v, .string s] w fun e w' => e = .returned (.bool true) ∧ Below w.heap.size w w' := by
  obtain ⟨hC, hlen, hcap, hwf⟩ := h0.reads (by omega)
  have hv : 0 ≤ v ∧ v ≤ 18446744073709551615 := by
    simp [Lit.wf, IntKind.min, IntKind.max, IntKind.bits, IntKind.signed] at h2
    omega
  have hby : ∀ x ∈ zs.take len, 0 ≤ x ∧ x ≤ 255 := fun x hx => by
    have h := hwf x hx
    simp [Lit.wf, IntKind.min, IntKind.max, IntKind.bits, IntKind.signed] at h
    omega
  have h := backWalk a cap (zs.take len) v s w (Dig.laid_of w hL) hC hcap (by omega) hby hv.1 hv.2 h3
  rwa [← hlen] at h
end Go.Proofs.YtmecigllpdeeoaaDoor.By
