/- number.Decimal, number.ReadDecimal; hamperref02's: their calls. -/
import Derived.Test.YtmecigllpdeeoaaDoorDigPlain
import Derived.Test.YtmecigllpdeeoaaDoorDigShelf
import Derived.Test.YtmecigllpdeeoaaDoorReg
import Derived.Lib.AtoiErrMem
import Derived.Lib.AppendIntMem
import Derived.Lib.Hide
set_option linter.unusedVariables false
namespace Go.Proofs.YtmecigllpdeeoaaDoor.Dig
open Go.RowKit Go.Lib Go.Proofs.YtmecigllpdeeoaaDoorW.PrintWords Go.Proofs.YtmecigllpdeeoaaDoorW.PrintLast Go.Proofs.YtmecigllpdeeoaaDoorW.PrintMore

/-- What the library's variables hold. -/
structure Laid (w : World) : Prop where
  tab : Lib.TabIs Tryd.prog w "internal/strconv.uint64pow10" .u64 Lib.pow10Tab
  syn : ∃ te pe, w.cell? ⟨1, 0, none⟩ = some (.iface te pe)
  rng : ∃ te pe, w.cell? ⟨2, 0, none⟩ = some (.iface te pe)
theorem Laid.below {w w1 : World} (h : Laid w) (hb : Below w.heap.size w w1) : Laid w1 := by
  obtain ⟨te, pe, h1⟩ := h.syn
  obtain ⟨tr, pr, h2⟩ := h.rng
  exact ⟨tabBelow_of_tabIs h.tab w1 hb, ⟨te, pe, Reg.bkeep hb h1⟩, ⟨tr, pr, Reg.bkeep hb h2⟩⟩
theorem itoa_calls (n : Int) (h0 : -9223372036854775808 ≤ n) (h1 : n ≤ 9223372036854775807) (w : World) (hL : Laid w) :
    Calls Tryd.prog 35 #[.int .i64 n] w fun e w' => e = .returned (.string (B (Lib.itoa n))) ∧ Below w.heap.size w w' :=
  (Tryd.strconv_Itoa n h0 h1 w hL.tab).mono fun _ _ ⟨a, k, os, hw⟩ => ⟨a, by rw [hw]; exact below_grow _ _ (Nat.le_refl _) k os⟩
theorem decimal_calls (n : Int) (h0 : -9223372036854775808 ≤ n) (h1 : n ≤ 9223372036854775807) (w : World) (hL : Laid w) :
    Calls Tryd.prog 15 #[.int .i64 n] w fun e w' => e = .returned (.string (B (Lib.itoa n))) ∧ Below w.heap.size w w' := by
  have H := Lib.hid (itoa_calls n h0 h1 w hL)
  go_enter Tryd.func15, Tryd.ntmps15
  go_wp2_with (go_at_call 35; refine H.out.mono ?_; rintro e w1 ⟨rfl, hb⟩)
  go_ret
  exact ⟨rfl, hb⟩
theorem atoi_calls (s : ByteArray) (hs : s.size ≤ 281474976710656) (w : World) (hL : Laid w) :
    Calls Tryd.prog 34 #[.string s] w fun e w' => (∃ v ev, e = .returned (.tuple #[.int .i64 v, ev]) ∧ ((atoiAll s.data.toList = .ok v ∧ ev = .nilIface) ∨ ((∀ v', atoiAll s.data.toList ≠ .ok v') ∧ ∃ t p, ev = .iface t p))) ∧ Below w.heap.size w w' := by
  obtain ⟨te, pe, h1⟩ := hL.syn
  obtain ⟨tr, pr, h2⟩ := hL.rng
  rcases h : Lib.atoiAll s.data.toList with v | _ | _
  · refine (Tryd.strconv_Atoi_ok_laid s (by omega) v h w).mono fun e w' ⟨he, hw⟩ => ⟨⟨v, _, he, .inl ⟨rfl, rfl⟩⟩, ?_⟩
    rcases hw with rfl | ⟨t, rfl⟩
    · exact Below.refl _ _
    · exact Lib.bytesWorld_below _ _ _
  · exact (Tryd.strconv_Atoi_form_laid s hs h _ w h1 (.inr ⟨te, pe, rfl⟩)).mono fun e w' ⟨N, he, _, _, hb⟩ => ⟨⟨_, _, he, .inr ⟨fun v' hv => (by cases hv), _, _, rfl⟩⟩, hb⟩
  · exact (Tryd.strconv_Atoi_range_laid s hs h _ w h2 (.inr ⟨tr, pr, rfl⟩)).mono fun e w' ⟨N, he, _, _, hb⟩ => ⟨⟨_, _, he, .inr ⟨fun v' hv => (by cases hv), _, _, rfl⟩⟩, hb⟩
set_option maxHeartbeats 1000000 in
theorem read_calls (s : ByteArray) (hs : s.size ≤ 281474976710656) (w : World) (hL : Laid w) :
    Calls Tryd.prog 13 #[.string s] w fun e w' => e = .returned (.tuple #[.int .i64 (rdec s.data.toList).1, .int .i64 (rdec s.data.toList).2]) ∧ Below w.heap.size w w' := by
  have H := Lib.hid (atoi_calls s hs w hL)
  have HL := Lib.hid hL
  clear hL
  go_enter Tryd.func13, Tryd.ntmps13
  go_upto_region 2 with (go_at_call 34; refine H.out.mono ?_; rintro e w1 ⟨⟨v, ev, rfl, hv⟩, hb⟩)
  have HL1 := Lib.hid (HL.out.below hb)
  rcases hv with ⟨ha, rfl⟩ | ⟨hno, t, p, rfl⟩
  · obtain ⟨b1, b2⟩ := atoiAll_bounds ha
    have H2 := Lib.hid (itoa_calls v b1 b2 w1 HL1.out)
    have HR : Hid (rdec s.data.toList = if itoa v = s.data.toList then (v, 0) else (0, 11)) := Lib.hid (by unfold rdec; rw [ha])
    clear ha
    by_cases he : itoa v = s.data.toList
    · have hs2 : B (itoa v) = s := by rw [he]; exact of_B s
      have HR2 : Hid (rdec s.data.toList = (v, 0)) := Lib.hid (by rw [HR.out, if_pos he])
      clear HR he
      go_wp2_with (go_at_call 35; refine H2.out.mono ?_; rintro e w2 ⟨rfl, hb2⟩; rw [hs2])
      go_ret2
      exact ⟨by rw [HR2.out]; rfl, Reg.bgo hb hb2⟩
    · have HR2 : Hid (rdec s.data.toList = (0, 11)) := Lib.hid (by rw [HR.out, if_neg he])
      have hne : ((B (itoa v)).toList == s.toList) = false := beq_eq_false_iff_ne.mpr (by rw [B_list, ByteArray.toList_eq s]; exact he)
      have hne2 : ((B (itoa v)).toList != s.toList) = true := bne_iff_ne.mpr (by rw [B_list, ByteArray.toList_eq s]; exact he)
      clear HR he
      go_wp2_with (go_at_call 35; refine H2.out.mono ?_; rintro e w2 ⟨rfl, hb2⟩)
      go_ret2
      exact ⟨by rw [HR2.out]; rfl, Reg.bgo hb hb2⟩
  · have HR2 : Hid (rdec s.data.toList = (0, 11)) := Lib.hid (by
      unfold rdec
      rcases ha : atoiAll s.data.toList with v | _ | _
      · exact absurd ha (hno v)
      · rfl
      · rfl)
    clear hno
    go_wp2
    go_ret2
    exact ⟨by rw [HR2.out]; rfl, hb⟩
theorem refDec_calls (n : Int) (h0 : -9223372036854775808 ≤ n) (h1 : n ≤ 9223372036854775807) (w : World) :
    Calls Tryd.prog 16 #[.int .i64 n] w fun e w' => e = .returned (.string (B (Lib.itoa n))) ∧ Below w.heap.size w w' :=
  (PReadDecimal.hamperref02_Decimal.calls 22 n _ w (dec_f n h0 h1 22 (by omega))).mono fun e w' ⟨a, b⟩ => ⟨a, b.below⟩
theorem refRead_calls (s : ByteArray) (hs : s.size ≤ 9223372036854775807) (w : World) :
    Calls Tryd.prog 14 #[.string s] w fun e w' => e = .returned (.tuple #[.int .i64 (rdec s.data.toList).1, .int .i64 (rdec s.data.toList).2]) ∧ Below w.heap.size w w' :=
  (PReadDecimal.hamperref02_ReadDecimal.calls 80 s _ _ w (rd_f s hs)).mono fun e w' ⟨a, b⟩ => ⟨a, b.below⟩
theorem names_calls (w : World) : Calls Tryd.prog 12 #[] w fun e w' => e = .returned (.bool true) ∧ w = w' := by
  go_enter Tryd.func12, Tryd.ntmps12
  go_wp2
  go_ret
  exact ⟨rfl, rfl⟩
set_option maxHeartbeats 2000000 in
theorem digits_walk (v : Int) (s : ByteArray) (w : World) (hL : Laid w) (h0 : -9223372036854775808 ≤ v) (h1 : v ≤ 9223372036854775807) (hs : s.size ≤ 140737488351232) :
    Calls Tryd.prog 4 #[.int .i64 v, .string s] w fun e w' => e = .returned (.bool true) ∧ Below w.heap.size w w' := by
  have H1 := Lib.hid (read_calls s (by omega) w hL)
  have HL := Lib.hid hL
  clear hL
  go_enter Tryd.func4, Tryd.ntmps4
  go_upto_region 2 with (go_at_call 13; refine H1.out.mono ?_; rintro e w1 ⟨rfl, hb1⟩)
  have H2 := Lib.hid (refRead_calls s (by omega) w1)
  go_upto_region 3 with (go_at_call 14; refine H2.out.mono ?_; rintro e w2 ⟨rfl, hb2⟩)
  have hb12 := Reg.bgo hb1 hb2
  have H3 := Lib.hid (decimal_calls v h0 h1 w2 (HL.out.below hb12))
  have HL2 := Lib.hid (HL.out.below hb12)
  generalize (rdec s.data.toList).1 = a
  generalize (rdec s.data.toList).2 = b
  go_wp2_with (first
    | (go_at_call 15; refine H3.out.mono ?_; rintro e w3 ⟨rfl, hb3⟩; have H4 := Lib.hid (refDec_calls v h0 h1 w3))
    | (go_at_call 16; refine H4.out.mono ?_; rintro e w4 ⟨rfl, hb4⟩)
    | (go_at_call 12; refine (names_calls _).mono ?_; rintro e w' ⟨rfl, rfl⟩))
  go_ret
  exact ⟨rfl, Reg.bgo (Reg.bgo hb12 hb3) hb4⟩
end Go.Proofs.YtmecigllpdeeoaaDoor.Dig
