/- number.Decimal, number.ReadDecimal; tar.Say, tar.record walked. -/
import Derived.Test.YtfnncfgdlinmcaaDoorRecP
import Derived.Test.YtfnncfgdlinmcaaDoorRecShelf
import Derived.Test.YtfnncfgdlinmcaaDoorReg
import Derived.Lib.AtoiErrMem
import Derived.Lib.AppendIntMem
import Derived.Lib.Hide
set_option linter.unusedVariables false
namespace Go.Proofs.YtfnncfgdlinmcaaDoor.Rec
open Go.RowKit Go.Lib Go.Proofs.YtfnncfgdlinmcaaDoorW.PrintWords Go.Proofs.YtfnncfgdlinmcaaDoorW.PrintLast Go.Proofs.YtfnncfgdlinmcaaDoorW.PrintMore

/-- What the library's variables hold. -/
structure Laid (w : World) : Prop where
  tab : Lib.TabIs Tryd.prog w "internal/strconv.uint64pow10" .u64 Lib.pow10Tab
  syn : ∃ te pe, w.cell? ⟨6, 0, none⟩ = some (.iface te pe)
  rng : ∃ te pe, w.cell? ⟨7, 0, none⟩ = some (.iface te pe)
  mx : ∃ m, w.cell? ⟨0, 0, none⟩ = some (.int .i64 m)
theorem Laid.below {w w1 : World} (h : Laid w) (hb : Below w.heap.size w w1) : Laid w1 := by
  obtain ⟨te, pe, h1⟩ := h.syn
  obtain ⟨tr, pr, h2⟩ := h.rng
  obtain ⟨m, h3⟩ := h.mx
  exact ⟨tabBelow_of_tabIs h.tab w1 hb, ⟨te, pe, Reg.bkeep hb h1⟩, ⟨tr, pr, Reg.bkeep hb h2⟩, ⟨m, Reg.bkeep hb h3⟩⟩
theorem itoa_calls (n : Int) (h0 : -9223372036854775808 ≤ n) (h1 : n ≤ 9223372036854775807) (w : World) (hL : Laid w) :
    Calls Tryd.prog 41 #[.int .i64 n] w fun e w' => e = .returned (.string (B (Lib.itoa n))) ∧ Below w.heap.size w w' :=
  (Tryd.strconv_Itoa n h0 h1 w hL.tab).mono fun _ _ ⟨a, k, os, hw⟩ => ⟨a, by rw [hw]; exact below_grow _ _ (Nat.le_refl _) k os⟩
theorem decimal_calls (n : Int) (h0 : -9223372036854775808 ≤ n) (h1 : n ≤ 9223372036854775807) (w : World) (hL : Laid w) :
    Calls Tryd.prog 25 #[.int .i64 n] w fun e w' => e = .returned (.string (B (Lib.itoa n))) ∧ Below w.heap.size w w' := by
  have H := Lib.hid (itoa_calls n h0 h1 w hL)
  go_enter Tryd.func25, Tryd.ntmps25
  go_wp2_with (go_at_call 41; refine H.out.mono ?_; rintro e w1 ⟨rfl, hb⟩)
  go_ret
  exact ⟨rfl, hb⟩
theorem atoi_calls (s : ByteArray) (hs : s.size ≤ 281474976710656) (w : World) (hL : Laid w) :
    Calls Tryd.prog 59 #[.string s] w fun e w' => (∃ v ev, e = .returned (.tuple #[.int .i64 v, ev]) ∧ ((atoiAll s.data.toList = .ok v ∧ ev = .nilIface) ∨ ((∀ v', atoiAll s.data.toList ≠ .ok v') ∧ ∃ t p, ev = .iface t p))) ∧ Below w.heap.size w w' := by
  obtain ⟨te, pe, h1⟩ := hL.syn
  obtain ⟨tr, pr, h2⟩ := hL.rng
  rcases h : Lib.atoiAll s.data.toList with v | _ | _
  · refine (Tryd.strconv_Atoi_ok_laid s (by omega) v h w).mono fun e w' ⟨he, hw⟩ => ⟨⟨v, _, he, .inl ⟨rfl, rfl⟩⟩, ?_⟩
    rcases hw with rfl | ⟨t, rfl⟩
    · exact Below.refl _ _
    · exact Lib.bytesWorld_below _ _ _
  · exact (Tryd.strconv_Atoi_form_laid s hs h _ w h1 (.inr ⟨te, pe, rfl⟩)).mono fun e w' ⟨N, he, _, _, hb⟩ => ⟨⟨_, _, he, .inr ⟨fun v' hv => (by cases hv), _, _, rfl⟩⟩, hb⟩
  · exact (Tryd.strconv_Atoi_range_laid s hs h _ w h2 (.inr ⟨tr, pr, rfl⟩)).mono fun e w' ⟨N, he, _, _, hb⟩ => ⟨⟨_, _, he, .inr ⟨fun v' hv => (by cases hv), _, _, rfl⟩⟩, hb⟩
set_option maxHeartbeats 1000000 in
theorem read_calls (s : ByteArray) (hs : s.size ≤ 281474976710656) (w : World) (hL : Laid w) :
    Calls Tryd.prog 43 #[.string s] w fun e w' => e = .returned (.tuple #[.int .i64 (rdec s.data.toList).1, .int .i64 (rdec s.data.toList).2]) ∧ Below w.heap.size w w' := by
  have H := Lib.hid (atoi_calls s hs w hL)
  have HL := Lib.hid hL
  clear hL
  go_enter Tryd.func43, Tryd.ntmps43
  go_upto_region 2 with (go_at_call 59; refine H.out.mono ?_; rintro e w1 ⟨⟨v, ev, rfl, hv⟩, hb⟩)
  have HL1 := Lib.hid (HL.out.below hb)
  rcases hv with ⟨ha, rfl⟩ | ⟨hno, t, p, rfl⟩
  · obtain ⟨b1, b2⟩ := atoiAll_bounds ha
    have H2 := Lib.hid (itoa_calls v b1 b2 w1 HL1.out)
    have HR : Hid (rdec s.data.toList = if itoa v = s.data.toList then (v, 0) else (0, 11)) := Lib.hid (by unfold rdec; rw [ha])
    clear ha
    by_cases he : itoa v = s.data.toList
    · have hs2 : B (itoa v) = s := by rw [he]; exact of_B s
      have HR2 : Hid (rdec s.data.toList = (v, 0)) := Lib.hid (by rw [HR.out, if_pos he])
      clear HR he
      go_wp2_with (go_at_call 41; refine H2.out.mono ?_; rintro e w2 ⟨rfl, hb2⟩; rw [hs2])
      go_ret2
      exact ⟨by rw [HR2.out]; rfl, Reg.bgo hb hb2⟩
    · have HR2 : Hid (rdec s.data.toList = (0, 11)) := Lib.hid (by rw [HR.out, if_neg he])
      have hne : ((B (itoa v)).toList == s.toList) = false := beq_eq_false_iff_ne.mpr (by rw [B_list, ByteArray.toList_eq s]; exact he)
      have hne2 : ((B (itoa v)).toList != s.toList) = true := bne_iff_ne.mpr (by rw [B_list, ByteArray.toList_eq s]; exact he)
      clear HR he
      go_wp2_with (go_at_call 41; refine H2.out.mono ?_; rintro e w2 ⟨rfl, hb2⟩)
      go_ret2
      exact ⟨by rw [HR2.out]; rfl, Reg.bgo hb hb2⟩
  · have HR2 : Hid (rdec s.data.toList = (0, 11)) := Lib.hid (by
      unfold rdec
      rcases ha : atoiAll s.data.toList with v | _ | _
      · exact absurd ha (hno v)
      · rfl
      · rfl)
    clear hno
    go_wp2
    go_ret2
    exact ⟨by rw [HR2.out]; rfl, hb⟩
/-! ### Say -/
def dl (n : Nat) : Nat := (decDigits n).length
theorem itoa_nat (n : Nat) : itoa (n : Int) = decDigits n := by
  unfold itoa
  rw [if_neg (by omega)]
  rfl
theorem dl_step (u : Nat) : dl u = if u < 10 then 1 else dl (u / 10) + 1 := by
  unfold dl
  by_cases h : u < 10
  · rw [decDigits, dif_pos h, if_pos h]; rfl
  · rw [decDigits, dif_neg h, if_neg h, List.length_append]; rfl
theorem dl_of (u : Nat) (h : u ≤ 99999) : dl u = if u < 10 then 1 else if u < 100 then 2 else if u < 1000 then 3 else if u < 10000 then 4 else 5 := by
  rw [dl_step, dl_step (u / 10), dl_step (u / 10 / 10), dl_step (u / 10 / 10 / 10), dl_step (u / 10 / 10 / 10 / 10)]
  repeat' split
  all_goals omega
theorem dl_pos (u : Nat) : 1 ≤ dl u := by rw [dl_step]; split <;> omega
theorem dl_mono (b : Nat) : ∀ a, a ≤ b → dl a ≤ dl b := by
  induction b using Nat.strongRecOn with
  | _ b ih =>
    intro a h
    by_cases h1 : a < 10
    · rw [dl_step a, if_pos h1]; exact dl_pos b
    · have := ih (b / 10) (by omega) (a / 10) (by omega)
      rw [dl_step a, dl_step b, if_neg h1, if_neg (by omega)]
      omega
def tailOf (k v : List UInt8) : List UInt8 := 32 :: (k ++ 61 :: (v ++ [10]))
def SayIs (k v : List UInt8) (N : Nat) : Prop := N = (k.length + v.length + 3) + dl N ∧ (∀ m, k.length + v.length + 4 ≤ m → k.length + v.length + 3 + dl m ≤ m → N ≤ m) ∧ N ≤ k.length + v.length + 8
theorem say_bytes (n : Nat) (k v : ByteArray) : B (itoa (n : Int)) ++ ((⟨#[32]⟩ : ByteArray) ++ k ++ (⟨#[61]⟩ : ByteArray) ++ v ++ (⟨#[10]⟩ : ByteArray)) = B (decDigits n ++ tailOf k.data.toList v.data.toList) := by
  rw [itoa_nat]
  apply ByteArray.ext
  apply Array.toList_inj.1
  simp [B, tailOf, ByteArray.data_append]
set_option maxHeartbeats 2000000 in
theorem say_calls (k v : ByteArray) (hk : k.size ≤ 10000) (hv : v.size ≤ 10000) (w : World) (hL : Laid w) :
    Calls Tryd.prog 12 #[.string k, .string v] w fun e w' => (∃ N : Nat, SayIs k.data.toList v.data.toList N ∧ e = .returned (.string (B (decDigits N ++ tailOf k.data.toList v.data.toList)))) ∧ Below w.heap.size w w' := by
  have HL := Lib.hid hL
  clear hL
  go_enter Tryd.func12, Tryd.ntmps12
  go_wp2
  go_loopw [6] (fun j wr => ∃ n : Nat, j = .int .i64 n ∧ Hid (k.size + v.size + 4 ≤ n ∧ n ≤ k.size + v.size + 3 + dl n ∧ (∀ m, k.size + v.size + 4 ≤ m → k.size + v.size + 3 + dl m ≤ m → n ≤ m) ∧ n ≤ k.size + v.size + 8) ∧ Below w.heap.size w wr) (fun j _ => 100000 - (RowKit.intOf j).toNat)
  case atStart =>
    refine ⟨k.size + v.size + 4, by congr 1; omega, Lib.hid ?_, Below.refl _ _⟩
    have := dl_of (k.size + v.size + 4) (by omega)
    refine ⟨by omega, ?_, fun m h _ => h, by omega⟩
    rw [this]
    repeat' split
    all_goals omega
  case round =>
    obtain ⟨n, rfl, HN, hb⟩ := hrel
    have hn := HN.out
    have hdl := dl_of n (by omega)
    have hd1 : 1 ≤ dl n ∧ dl n ≤ 5 := by
      rw [hdl]
      repeat' split
      all_goals omega
    obtain ⟨d, hd⟩ : ∃ d, B (itoa (n : Int)) = d := ⟨_, rfl⟩
    have hds : d.size = dl n := by rw [← hd, B_size, itoa_nat]; rfl
    have HB := Lib.hid hb
    have H1 := Lib.hid (decimal_calls (n : Int) (by omega) (by omega) wr (HL.out.below hb))
    rw [hd] at H1
    by_cases c : (n : Int) < 1 + ↑k.size + 1 + ↑v.size + 1 + ↑d.size
    · have hnx : Hid (k.size + v.size + 4 ≤ k.size + v.size + 3 + d.size ∧ k.size + v.size + 3 + d.size ≤ k.size + v.size + 3 + dl (k.size + v.size + 3 + d.size) ∧ (∀ m, k.size + v.size + 4 ≤ m → k.size + v.size + 3 + dl m ≤ m → k.size + v.size + 3 + d.size ≤ m) ∧ k.size + v.size + 3 + d.size ≤ k.size + v.size + 8) := by
        refine Lib.hid ⟨by omega, ?_, fun m h1 h2 => ?_, by omega⟩
        · rw [hds]
          have : dl n ≤ dl (k.size + v.size + 3 + dl n) := dl_mono _ _ (by omega)
          omega
        · have h3 := dl_mono m n (hn.2.2.1 m h1 h2)
          omega
      clear hdl
      go_upto_region 4 with (go_at_call 25; refine H1.out.mono ?_; rintro e w1 ⟨rfl, hb1⟩)
      have hbb := Reg.bgo hb hb1
      have H2 := Lib.hid (decimal_calls (n : Int) (by omega) (by omega) w1 (HL.out.below hbb))
      rw [hd] at H2
      go_wp2_with (go_at_call 25; refine H2.out.mono ?_; rintro e w2 ⟨rfl, hb2⟩)
      go_roundw
      case rel => exact ⟨k.size + v.size + 3 + d.size, by congr 1; omega, hnx, Reg.bgo hbb hb2⟩
      case measure => simp [RowKit.intOf]; omega
    · have hS : Hid (SayIs k.data.toList v.data.toList n) := by
        refine Lib.hid ⟨?_, ?_, ?_⟩
        · show n = (k.size + v.size + 3) + dl n
          omega
        · exact hn.2.2.1
        · exact hn.2.2.2
      have hby := say_bytes n k v
      rw [hd] at hby
      have HBY := Lib.hid hby
      clear hdl hby
      go_upto_region 5 with (go_at_call 25; refine H1.out.mono ?_; rintro e w1 ⟨rfl, hb1⟩)
      have hbb := Reg.bgo hb hb1
      have H2 := Lib.hid (decimal_calls (n : Int) (by omega) (by omega) w1 (HL.out.below hbb))
      rw [hd] at H2
      go_wp2_with (go_at_call 25; refine H2.out.mono ?_; rintro e w2 ⟨rfl, hb2⟩)
      go_ret
      exact ⟨⟨n, hS.out, by rw [← HBY.out]; rfl⟩, Reg.bgo hbb hb2⟩
theorem least (P : Nat → Prop) : ∀ n, P n → ∃ m, P m ∧ ∀ j, P j → m ≤ j := by
  intro n
  induction n using Nat.strongRecOn with
  | _ n ih =>
    intro h
    by_cases h1 : ∃ j, j < n ∧ P j
    · obtain ⟨j, h2, h3⟩ := h1
      exact ih j h2 h3
    · exact ⟨n, h, fun j hj => Nat.le_of_not_lt (fun hlt => h1 ⟨j, hlt, hj⟩)⟩
theorem say_exists (k v : List UInt8) (hk : k.length ≤ 10000) (hv : v.length ≤ 10000) : ∃ N, SayIs k v N := by
  have h5 := dl_of (k.length + v.length + 8) (by omega)
  have hd : dl (k.length + v.length + 8) ≤ 5 := by
    rw [h5]
    repeat' split
    all_goals omega
  obtain ⟨N, ⟨h1, h2⟩, h3⟩ := least (fun m => k.length + v.length + 4 ≤ m ∧ k.length + v.length + 3 + dl m ≤ m) (k.length + v.length + 8) ⟨by omega, by omega⟩
  refine ⟨N, ?_, fun m a b => h3 m ⟨a, b⟩, h3 _ ⟨by omega, by omega⟩⟩
  apply Classical.byContradiction
  intro hne
  have hp := dl_pos N
  have h4 := dl_mono N (N - 1) (by omega)
  have h6 := h3 (N - 1) ⟨by omega, by omega⟩
  omega
theorem say_one (k v : List UInt8) (N M : Nat) (h1 : SayIs k v N) (h2 : SayIs k v M) : N = M := by
  have a := h1.2.1 M (by have := h2.1; have := dl_pos M; omega) (by have := h2.1; omega)
  have b := h2.2.1 N (by have := h1.1; have := dl_pos N; omega) (by have := h1.1; omega)
  omega
theorem say_at (k v : ByteArray) (N : Nat) (hN : SayIs k.data.toList v.data.toList N) (hk : k.size ≤ 10000) (hv : v.size ≤ 10000) (w : World) (hL : Laid w) :
    Calls Tryd.prog 12 #[.string k, .string v] w fun e w' => e = .returned (.string (B (decDigits N ++ tailOf k.data.toList v.data.toList))) ∧ Below w.heap.size w w' := by
  refine (say_calls k v hk hv w hL).mono ?_
  rintro e w' ⟨⟨M, hM, rfl⟩, hb⟩
  rw [say_one _ _ _ _ hN hM]
  exact ⟨rfl, hb⟩
end Go.Proofs.YtfnncfgdlinmcaaDoor.Rec
