/- tar.record, tar.Said at what was said. -/
import Derived.Test.YtfnncfgdlinmcaaDoorRecW
set_option linter.unusedVariables false
set_option linter.unusedSimpArgs false
namespace Go.Proofs.YtfnncfgdlinmcaaDoor.Rec
open Go.RowKit Go.Lib Go.Proofs.YtfnncfgdlinmcaaDoorW.PrintWords Go.Proofs.YtfnncfgdlinmcaaDoorW.PrintLast Go.Proofs.YtfnncfgdlinmcaaDoorW.PrintMore
theorem indexByte_at (c : UInt8) : ∀ (a r : List UInt8), c ∉ a → indexByte (a ++ c :: r) c = a.length
  | [], r, h => by simp [indexByte]
  | x :: a, r, h => by
    have h1 : ¬ x = c := fun e => h (by rw [e]; exact List.mem_cons_self)
    have h2 := indexByte_at c a r (fun hm => h (List.mem_cons_of_mem _ hm))
    rw [List.cons_append, indexByte, h2]
    simp [h1]
theorem cut_at (c : UInt8) (a r : List UInt8) (h : c ∉ a) : Lib.cut (a ++ c :: r) [c] = (a, r, true) := by
  unfold Lib.cut
  rw [index_one, indexByte_at c a r h, if_pos (by omega)]
  simp
theorem cut_calls (c : UInt8) (s : ByteArray) (a r : List UInt8) (hs : s.data.toList = a ++ c :: r) (h : c ∉ a) (hz : s.size < 4294967281) (w : World) (hL : Laid w) :
    Calls Tryd.prog 42 #[.string s, .string ⟨#[c]⟩] w fun e w' => e = .returned (.tuple #[.string (B a), .string (B r), .bool true]) ∧ Below w.heap.size w w' := by
  obtain ⟨m, hm⟩ := hL.mx
  refine (Tryd.strings_Cut_at s ⟨#[c]⟩ m w hz hm).mono ?_
  rintro e w' ⟨rfl, n, rfl⟩
  rw [hs, show (⟨#[c]⟩ : ByteArray).data.toList = [c] from rfl, cut_at c a r h]
  exact ⟨rfl, (pw_below_drewN (Below.refl _ _) n)⟩
theorem dec_no (c : UInt8) (hc : c.toNat < 48) (u : Nat) : c ∉ decDigits u := by
  induction u using Nat.strongRecOn with
  | _ u ih =>
    rw [decDigits]
    split
    · rename_i h
      simp only [List.mem_singleton]
      intro e
      rw [e, digit_nat u h] at hc
      omega
    · rename_i h
      simp only [List.mem_append, List.mem_singleton]
      rintro (hm | e)
      · exact ih (u / 10) (by omega) hm
      · rw [e, digit_nat _ (Nat.mod_lt _ (by omega))] at hc
        omega
theorem tail_len (k v : List UInt8) : (tailOf k v).length = k.length + v.length + 3 := by
  simp only [tailOf, List.length_cons, List.length_append, List.length_nil]
  omega
theorem rec_split (s : ByteArray) (k v r : List UInt8) (N : Nat) (hs : s.data.toList = decDigits N ++ tailOf k v ++ r) (hN : N = (k.length + v.length + 3) + dl N) :
    s.size = N + r.length ∧ (∀ h : N - 1 < s.size, (((s[N - 1]'h).toNat : Int) != 10) = false) ∧ s.extract (dl N + 1) (N - 1) = B (k ++ 61 :: v) ∧ s.extract N s.size = B r := by
  have h1 : s.data.toList = (decDigits N ++ 32 :: (k ++ 61 :: v)) ++ 10 :: r := by rw [hs]; simp [tailOf]
  have hl : (decDigits N ++ 32 :: (k ++ 61 :: v)).length = N - 1 := by
    have h2 : (decDigits N).length = dl N := rfl
    simp only [List.length_append, List.length_cons, h2]
    omega
  have hz : s.size = N + r.length := by
    have h2 : s.size = s.data.toList.length := by rw [Array.length_toList]; rfl
    rw [h2, h1, List.length_append, hl, List.length_cons]
    omega
  have hN1 : ((N : Int) - 1).toNat = N - 1 := by omega
  refine ⟨hz, ?_, ?_, ?_⟩
  · have hlt : N - 1 < s.size := by omega
    have he : s.data.toList[N - 1]? = some 10 := by
      rw [h1, List.getElem?_append_right (by omega), hl, Nat.sub_self]
      rfl
    intro h
    have h3 : s[N - 1]'h = (10 : UInt8) := by
      have h4 : s.data[N - 1]? = some 10 := by rw [← Array.getElem?_toList]; exact he
      exact (Array.getElem?_eq_some_iff.1 h4).2
    rw [h3]
    rfl
  · apply ByteArray.ext
    apply Array.toList_inj.1
    rw [ByteArray.data_extract, Array.toList_extract, h1]
    simp only [B, List.extract_eq_take_drop]
    have h2 : (decDigits N).length = dl N := rfl
    rw [List.append_assoc, List.drop_append, List.drop_of_length_le (by omega), h2, show dl N + 1 - dl N = 1 by omega, List.nil_append, List.cons_append, List.drop_succ_cons, List.drop_zero]
    rw [show N - 1 - (dl N + 1) = (k ++ 61 :: v).length by simp only [List.length_append, List.length_cons]; omega, List.take_left]
  · apply ByteArray.ext
    apply Array.toList_inj.1
    rw [ByteArray.data_extract, Array.toList_extract, h1]
    simp only [B, List.extract_eq_take_drop]
    rw [List.drop_append, List.drop_of_length_le (by omega), hl, List.nil_append, show N - (N - 1) = 1 by omega, List.drop_succ_cons, List.drop_zero, List.take_of_length_le (by omega)]
set_option maxRecDepth 100000 in
set_option maxHeartbeats 4000000 in
theorem record_calls (s : ByteArray) (k v r : List UInt8) (N : Nat) (hs : s.data.toList = decDigits N ++ tailOf k v ++ r) (hN : SayIs k v N) (hk : k ≠ []) (h61 : (61 : UInt8) ∉ k) (hz : s.size < 4294967281) (w : World) (hL : Laid w) :
    Calls Tryd.prog 26 #[.string s] w fun e w' => e = .returned (.tuple #[.string (B k), .string (B v), .string (B r), .bool true]) ∧ Below w.heap.size w w' := by
  have hs1 : s.data.toList = decDigits N ++ 32 :: (k ++ 61 :: (v ++ [10]) ++ r) := by rw [hs]; simp [tailOf]
  have H1 := Lib.hid (cut_calls 32 s _ _ hs1 (dec_no 32 (by decide) N) hz w hL)
  have HL := Lib.hid hL
  clear hL
  generalize hR : B (k ++ 61 :: (v ++ [10]) ++ r) = R at H1
  obtain ⟨d, hd⟩ : ∃ d, B (decDigits N) = d := ⟨_, rfl⟩
  have hds : d.size = dl N := by rw [← hd, B_size]; rfl
  have hdd : d.data.toList = itoa (N : Int) := by rw [← hd, B_data, itoa_nat]
  rw [hd] at H1
  obtain ⟨hsz, hbt, hx1, hx2⟩ := rec_split s k v r N hs hN.1
  have hk1 : 1 ≤ k.length := by cases k; exact absurd rfl hk; simp
  have hN1 := hN.1
  have c1 : (N : Int) ≤ s.size := by omega
  have c2 : (d.size : Int) + 3 ≤ N := by omega
  rw [← hds] at hx1
  have H3 := Lib.hid (fun w hL => cut_calls 61 (B (k ++ 61 :: v)) k v (B_data _) h61 (by rw [← hx1]; have : (s.extract (d.size + 1) (N - 1)).size ≤ s.size := (by rw [ByteArray.size_extract]; omega); omega) w hL)
  have hsl : ∀ W : World, (Instr.slice 9 (.string s) (some (.int .i64 ((d.size : Int) + 1))) (some (.int .i64 ((N : Int) - 1))) none).run Tryd.prog W = .ok (.string (B (k ++ 61 :: v))) W := by
    intro W
    have h := run_slice_string (P := Tryd.prog) W 9 s .i64 .i64 ((d.size : Int) + 1) ((N : Int) - 1) Tryd.underlying9 (by omega) (by omega) (by omega)
    rw [show ((d.size : Int) + 1).toNat = d.size + 1 by omega, show ((N : Int) - 1).toNat = N - 1 by omega, hx1] at h
    exact h
  have hsl2 : ∀ W : World, (Instr.slice 9 (.string s) (some (.int .i64 (N : Int))) none none).run Tryd.prog W = .ok (.string (B r)) W := by
    intro W
    have h := run_slice_string_from_if (P := Tryd.prog) W 9 s .i64 (N : Int) Tryd.underlying9
    rw [if_pos ⟨by omega, by omega⟩, Int.toNat_natCast, hx2] at h
    exact h
  clear hx1 hx2
  have hd9 : d.size ≤ 9223372036854775807 - 3 := by omega
  have hN9 : (N : Int) ≤ 4294967281 := by omega
  have hdr := rdec_itoa (N : Int) (by omega) (by omega)
  clear hs hs1 hR hd hN1 hN hds hsz
  go_enter Tryd.func26, Tryd.ntmps26
  go_upto_region 2 with (go_at_call 42; refine H1.out.mono ?_; rintro e w1 ⟨rfl, hb1⟩)
  have H2 := Lib.hid (read_calls d (by omega) w1 (HL.out.below hb1))
  rw [hdd, hdr] at H2
  go_upto_region 3 with (go_at_call 43; refine H2.out.mono ?_; rintro e w2 ⟨rfl, hb2⟩)
  have hb12 := Reg.bgo hb1 hb2
  clear hdd hdr
  have hnl : decide (s.size < N) = false := by simp; omega
  go_upto_region 5 with (fail)
  have HL2 := HL.out.below hb12
  go_upto_region 6 with (go_at_call 42; refine (H3.out _ HL2).mono ?_; rintro e w3 ⟨rfl, hb3⟩)
  have hb13 := Reg.bgo hb12 hb3
  have he : (B k).toList.isEmpty = false := by
    rw [B_list]
    cases k
    · exact absurd rfl hk
    · rfl
  have hb14 := Reg.bdrew hb13
  go_region
  go_wp2
  refine bodyPost_ret (v := .tuple #[.string (B k), .string (B v), .string (B r), .bool true]) (by simp [results, Tryd.results26, go_sem]) rfl ⟨rfl, hb14⟩
end Go.Proofs.YtfnncfgdlinmcaaDoor.Rec
