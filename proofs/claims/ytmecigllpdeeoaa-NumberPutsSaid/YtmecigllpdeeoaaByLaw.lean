/- hamperlaw02.NumberPuts walked. -/
import Derived.Test.YtmecigllpdeeoaaByRef
set_option linter.unusedVariables false
namespace Go.Proofs.Ytmecigllpdeeoaa.By
open Go.RowKit Go.BigFrame Go.Proofs.Ytmecigllpdeeoaa.Reg Go.Proofs.YtmecigllpdeeoaaW.PrintWords Go.Proofs.YtmecigllpdeeoaaW.PrintLast Go.Proofs.YtmecigllpdeeoaaW.PrintMore
def IsRow (k : IntKind) (w : World) (a : Option Addr) (len cap : Nat) (zs : List Int) : Prop :=
  (a = none ∧ len = 0 ∧ cap = 0 ∧ zs = []) ∨
  ∃ x, a = some x ∧ len ≤ cap ∧ cap ≤ maxLen ∧ zs.length = cap ∧ (∀ i, i < zs.length → w.cell? (x.add i) = some (.int k (zs.getD i 0))) ∧ ∀ n ∈ zs, (Lit.int k n).wf = true
theorem IsRow.reads {k : IntKind} {w : World} {a : Option Addr} {len cap : Nat} {zs : List Int} (h : IsRow k w a len cap zs) (hl : len ≤ 140737488355328) : (Kd.int k).C w a (zs.take len).length (zs.take len) ∧ len = (zs.take len).length ∧ (zs.take len).length ≤ cap := by
  rcases h with ⟨rfl, rfl, rfl, rfl⟩ | ⟨x, rfl, h1, h2, h3, h4, h5⟩
  · exact ⟨⟨rfl, by simp, fun h => absurd h (by simp)⟩, rfl, by simp⟩
  · have hlen : (zs.take len).length = len := by rw [List.length_take]; omega
    refine ⟨?_, hlen.symm, by omega⟩
    rw [hlen]
    refine Kd.C_of_reads (enc := Value.int k) (d := (0 : Int)) (h1 := fun _ => rfl) ⟨hlen, by omega, fun hn => ⟨x, rfl, fun j hj => ?_⟩⟩
    rw [h4 j (by omega), List.getD_eq_getElem?_getD, List.getD_eq_getElem?_getD, List.getElem?_take_of_lt hj]
theorem names_calls (w : World) : Calls Try.prog 31 #[] w fun e w' => e = .returned (.bool true) ∧ w = w' := by
  go_enter Try.func31, Try.ntmps31
  go_wp2
  go_ret
  exact ⟨rfl, rfl⟩
theorem putL_all (bs : List Int) (v n : Int) (p : Nat → Nat) : putL bs v n p = if putE v n = 0 then bs ++ putL [] v n p else [] := by
  unfold putL
  by_cases h : putE v n = 0
  · rw [if_pos h, if_pos h, if_pos h]
    rfl
  · rw [if_neg h, if_neg h]
theorem varL_all (bs : List Int) (v : Int) : varL bs v = if varE v = 0 then bs ++ varL [] v else [] := by
  unfold varL varE
  by_cases h : 9223372036854775807 < v
  · rw [if_pos h, if_pos h, if_neg (by omega)]
  · rw [if_neg h, if_neg h, if_pos rfl, if_neg h]
    rfl
theorem putL_len (v n : Int) (p : Nat → Nat) : (putL [] v n p).length ≤ 10 := by
  unfold putL
  by_cases h : putE v n = 0
  · rw [if_pos h]
    unfold putE at h
    split at h
    · omega
    · simp [laid_len]
      omega
  · rw [if_neg h]
    simp
theorem varL_len (v : Int) : (varL [] v).length ≤ 10 := by
  unfold varL
  split
  · simp
  · simpa using varF_len 9 v

set_option maxHeartbeats 4000000 in
theorem walkRow (A : Option Addr) (c : Nat) (bs : List Int) (v n : Int) (w : World) (hC : (Kd.int .u8).C w A bs.length bs) (hc : bs.length ≤ c) (hl : bs.length ≤ 140737488355310) (v0 : 0 ≤ v) (v1 : v ≤ 18446744073709551615) :
    Calls Try.prog 8 #[.slice A bs.length c, .int .u64 v, .int .i64 n] w fun e w' => e = .returned (.bool true) ∧ Below w.heap.size w w' := by
  have HC := Lib.hid hC
  clear hC
  have hR : (Kd.int .u8).R 5 (w.alloc (.cells #[] 5)) w.heap.size (fun _ => True) (.slice (some ⟨w.heap.size, 0, none⟩) 0 0) [] := own_made w _ _ (Nat.le_refl _) (fun _ _ => trivial)
  have HR := Lib.hid hR
  clear hR
  have hCw : (Kd.int .u8).C (w.alloc (.cells #[] 5)) A bs.length bs := Kd.C_below HC.out (balloc (Below.refl _ _) _)
  have HCw := Lib.hid hCw
  clear hCw
  go_enter Try.func8, Try.ntmps8
  go_upto_region 2 with (first
    | (at_builtin; refine Kd.R_append_row (Value.int .u8) 0 (w0 := w) w.heap.size rfl (.tmp 16) (.tmp 17) 35 5 (.int .u8 0) 1 rfl Try.underlying35 infoB rfl (by omega) _ [] bs A bs.length c (fun _ => True) rfl rfl (fun _ _ => trivial) HR.out HCw.out (balloc (Below.refl _ _) _) (by simp) (by simp; omega) ?_; intro v2 w1 hR1 hb1 hg1 hat1)
    | (at_builtin; refine Kd.R_append (Kd.int .u8) (w0 := w) w.heap.size rfl (.tmp 18) (.tmp 19) 35 5 (.int .u8 0) 1 rfl Try.underlying35 infoB rfl (by decide) (by omega) _ _ _ _ (fun _ => True) (fun _ => False) rfl rfl rfl (fun _ hk => hk.elim) (fun _ _ => trivial) hR1 hb1 hb1.size (by rw [Nat.mul_one, List.nil_append]; omega) ?_; intro v3 w2 hR2 hb2 hg2 hat2))
  rw [List.nil_append] at hR2
  obtain ⟨g, cap, e3, hgb, hgl, cells, hcl⟩ := Kd.R_form hR2 (by simp)
  subst e3
  have hcap : bs.length ≤ cap := by
    have h := (Kd.R_reads' hR2).2.1
    rw [List.length_append] at h
    omega
  have hown : (Kd.int .u8).C w2 (some ⟨g, 0, none⟩) bs.length bs := by
    have h := Kd.C_take (Kd.R_reads' hR2).2.2 (m := bs.length) (by simp)
    simpa using h
  have HR2 := Lib.hid hR2
  have HB2 := Lib.hid hb2
  clear hR1 hR2 hg1 hg2 hat1 hat2 hb1 hb2 HR HCw hcl hgb hgl
  go_upto_region 3 with (fail)
  have Hw2 := Lib.hid (putLow_any (some ⟨g, 0, none⟩) cap bs v n w2 hown (by omega) v0 v1)
  go_upto_region 4 with (go_at_call 25; refine Hw2.out.mono ?_; rintro e w3 ⟨uw3, rfl, hRw3, hbw3⟩)
  have Hw3 := Lib.hid (putLow_any (some ⟨g, 0, none⟩) cap bs v n w3 (Kd.C_below hown hbw3) (by omega) v0 v1)
  go_upto_region 5 with (go_at_call 25; refine Hw3.out.mono ?_; rintro e w4 ⟨uw4, rfl, hRw4, hbw4⟩)
  have Hw4 := Lib.hid (refPut_any v n false w4 v0 v1)
  go_upto_region 6 with (go_at_call 26; refine Hw4.out.mono ?_; rintro e w5 ⟨uw5, rfl, hRw5, hbw5⟩)
  have Hw5 := Lib.hid (behind_of w2 w3 w4 w5 uw3 uw4 uw5 bs (putL [] v n lowP) (putE v n) A c (by rw [← putL_all bs v n lowP]; exact hRw3) hbw3 (by rw [← putL_all bs v n lowP]; exact hRw4) hbw4 hRw5 hbw5 (Kd.C_below HC.out HB2.out) hc hl (putL_len _ _ _))
  clear hRw3 hRw4 hRw5 hbw3 hbw4 hbw5 Hw2 Hw3 Hw4
  go_upto_region 7 with (go_at_call 27; refine Hw5.out.mono ?_; rintro e w6 ⟨rfl, hbw6⟩)
  have hown6 : (Kd.int .u8).C w6 (some ⟨g, 0, none⟩) bs.length bs := Kd.C_below hown hbw6
  have HB6 := Lib.hid (bgo HB2.out hbw6)
  have Hw6 := Lib.hid (putHigh_any (some ⟨g, 0, none⟩) cap bs v n w6 hown6 (by omega) v0 v1)
  go_upto_region 8 with (go_at_call 28; refine Hw6.out.mono ?_; rintro e w7 ⟨uw7, rfl, hRw7, hbw7⟩)
  have Hw7 := Lib.hid (putHigh_any (some ⟨g, 0, none⟩) cap bs v n w7 (Kd.C_below hown6 hbw7) (by omega) v0 v1)
  go_upto_region 9 with (go_at_call 28; refine Hw7.out.mono ?_; rintro e w8 ⟨uw8, rfl, hRw8, hbw8⟩)
  have Hw8 := Lib.hid (refPut_any v n true w8 v0 v1)
  go_upto_region 10 with (go_at_call 26; refine Hw8.out.mono ?_; rintro e w9 ⟨uw9, rfl, hRw9, hbw9⟩)
  have Hw9 := Lib.hid (behind_of w6 w7 w8 w9 uw7 uw8 uw9 bs (putL [] v n (highP n.toNat)) (putE v n) A c (by rw [← putL_all bs v n (highP n.toNat)]; exact hRw7) hbw7 (by rw [← putL_all bs v n (highP n.toNat)]; exact hRw8) hbw8 hRw9 hbw9 (Kd.C_below HC.out HB6.out) hc hl (putL_len _ _ _))
  clear hRw7 hRw8 hRw9 hbw7 hbw8 hbw9 Hw6 Hw7 Hw8
  go_upto_region 11 with (go_at_call 27; refine Hw9.out.mono ?_; rintro e w10 ⟨rfl, hbw10⟩)
  have hown10 : (Kd.int .u8).C w10 (some ⟨g, 0, none⟩) bs.length bs := Kd.C_below hown6 hbw10
  have HB10 := Lib.hid (bgo HB6.out hbw10)
  have Hw10 := Lib.hid (putVar_any (some ⟨g, 0, none⟩) cap bs v w10 hown10 (by omega) v0 v1)
  go_upto_region 12 with (go_at_call 29; refine Hw10.out.mono ?_; rintro e w11 ⟨uw11, rfl, hRw11, hbw11⟩)
  have Hw11 := Lib.hid (putVar_any (some ⟨g, 0, none⟩) cap bs v w11 (Kd.C_below hown10 hbw11) (by omega) v0 v1)
  go_upto_region 13 with (go_at_call 29; refine Hw11.out.mono ?_; rintro e w12 ⟨uw12, rfl, hRw12, hbw12⟩)
  have Hw12 := Lib.hid (refVar_any v w12 v0 v1)
  go_upto_region 14 with (go_at_call 30; refine Hw12.out.mono ?_; rintro e w13 ⟨uw13, rfl, hRw13, hbw13⟩)
  have Hw13 := Lib.hid (behind_of w10 w11 w12 w13 uw11 uw12 uw13 bs (varL [] v) (varE v) A c (by rw [← varL_all bs v]; exact hRw11) hbw11 (by rw [← varL_all bs v]; exact hRw12) hbw12 hRw13 hbw13 (Kd.C_below HC.out HB10.out) hc hl (varL_len _))
  clear hRw11 hRw12 hRw13 hbw11 hbw12 hbw13 Hw10 Hw11 Hw12
  have hIn : (Kd.int .u8).C w10 (some ⟨g, 0, none⟩) (bs ++ [90]).length (bs ++ [90]) := Kd.C_below (Kd.C_below (Kd.R_reads' HR2.out).2.2 hbw6) hbw10
  have HIn := Lib.hid hIn
  clear hIn hown hown6 hown10
  have hstr : strOfNums (bs ++ [90]) = strOfNums bs ++ ⟨#[90]⟩ := by
    unfold strOfNums
    rw [List.map_append]
    apply ByteArray.ext
    simp [ByteArray.data_append]
  have hsize : (strOfNums bs).size + 1 ≤ 9223372036854775807 := by
    rw [show (strOfNums bs).size = bs.length by simp [strOfNums, ByteArray.size]]
    omega
  go_wp2_with (first
    | (go_at_call 27; refine Hw13.out.mono ?_; rintro e w14 ⟨rfl, hbw14⟩; have hcv1 := Kd.C_string (P := Try.prog) (A := some ⟨g, 0, none⟩) (c := cap) Try.underlying35 Try.underlying5 Try.underlying9 (Kd.C_below HIn.out hbw14); have hcv2 := Kd.C_string (P := Try.prog) (A := A) (c := c) Try.underlying35 Try.underlying5 Try.underlying9 (Kd.C_below HC.out (bgo HB10.out hbw14)); rw [hstr, List.length_append, List.length_singleton] at hcv1)
    | (go_at_call 31; refine (names_calls _).mono ?_; rintro e w' ⟨rfl, rfl⟩))
  go_ret
  exact ⟨rfl, bgo HB10.out hbw14⟩
theorem walk (a : Option Addr) (len cap : Nat) (zs : List Int) (v n : Int) (w : World) (h0 : IsRow .u8 w a len cap zs) (h1 : len * 1 ≤ 140737488351232) (h2 : (Lit.int .u64 v).wf = true) (_ : (Lit.int .i64 n).wf = true) :
    Calls Try.prog 8 #[.slice a len cap, .int .u64 v, .int .i64 n] w fun e w' => e = .returned (.bool true) ∧ Below w.heap.size w w' := by
  obtain ⟨hC, hlen, hcap⟩ := h0.reads (by omega)
  have hv : 0 ≤ v ∧ v ≤ 18446744073709551615 := by
    simp [Lit.wf, IntKind.min, IntKind.max, IntKind.bits, IntKind.signed] at h2
    omega
  have h := walkRow a cap (zs.take len) v n w hC hcap (by omega) hv.1 hv.2
  rwa [← hlen] at h
end Go.Proofs.Ytmecigllpdeeoaa.By
