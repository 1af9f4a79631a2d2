/- RecP, RecW, RecR put together. -/
import Derived.Test.YtkmjbakiippfpaaGreatDoorWLast
import Derived.Test.YtkmjbakiippfpaaGreatDoorWMore
import Derived.Lib.CutLaws
import Derived.Lib.IndexBytes
import Derived.Lib.IndexMore
import Derived.Lib.ItoaMem
import Derived.Lib.ItoaLen
import Derived.Lib.AtoiAllCases
import Derived.Test.YtkmjbakiippfpaaGreatDoorRecShelf
import Derived.Test.YtkmjbakiippfpaaGreatDoorMRout
import Derived.Lib.AtoiErrMem
import Derived.Lib.AppendIntMem
import Derived.Lib.Hide
set_option linter.unusedVariables false
namespace Go.Proofs.YtkmjbakiippfpaaGreatDoor.Rec
open Go.RowKit Go.Proofs.YtkmjbakiippfpaaGreatDoorW.PrintWords Go.Proofs.YtkmjbakiippfpaaGreatDoorW.PrintLast Go.Proofs.YtkmjbakiippfpaaGreatDoorW.PrintMore Go.Lib

def B (l : List UInt8) : ByteArray := ⟨l.toArray⟩
theorem B_app (a b : List UInt8) : B a ++ B b = B (a ++ b) := by
  apply ByteArray.ext
  simp [B, ByteArray.data_append]
theorem B_list (a : List UInt8) : (B a).toList = a := by unfold B; simp
theorem B_data (a : List UInt8) : (B a).data.toList = a := by simp [B]
theorem B_size (a : List UInt8) : (B a).size = a.length := by simp [B, ByteArray.size]
theorem of_B (s : ByteArray) : B s.data.toList = s := by apply ByteArray.ext; simp [B]
theorem wrap64_id (x : Int) (h0 : -9223372036854775808 ≤ x) (h1 : x ≤ 9223372036854775807) : wrap64 x = x := by unfold wrap64; omega
theorem wrap64_in' (x : Int) : -9223372036854775808 ≤ wrap64 x ∧ wrap64 x ≤ 9223372036854775807 := by unfold wrap64; omega

/-! ### Atoi behind Itoa -/
theorem digit_nat (u : Nat) (h : u < 10) : (UInt8.ofNat (48 + u)).toNat = 48 + u := by
  rw [UInt8.toNat_ofNat']
  exact Nat.mod_eq_of_lt (by omega)
theorem parse_dec (u : Nat) : ∀ r, u < 18446744073709551616 → parseUint10 0 (decDigits u ++ r) = parseUint10 u r := by
  induction u using Nat.strongRecOn with
  | _ u ih =>
    intro r hu
    by_cases h : u < 10
    · rw [decDigits, dif_pos h, List.singleton_append, parseUint10, digit_nat u h, if_pos (by omega), if_neg (by omega), if_neg (by omega)]
      congr 1
      omega
    · rw [decDigits, dif_neg h, List.append_assoc, ih (u / 10) (by omega) _ (by omega), List.singleton_append, parseUint10, digit_nat _ (Nat.mod_lt _ (by omega)), if_pos (by omega), if_neg (by omega), if_neg (by omega)]
      congr 1
      omega
theorem dec_head (u : Nat) : ∃ c r, decDigits u = c :: r ∧ 48 ≤ c.toNat ∧ c.toNat ≤ 57 := by
  induction u using Nat.strongRecOn with
  | _ u ih =>
    by_cases h : u < 10
    · exact ⟨_, [], by rw [decDigits, dif_pos h], by rw [digit_nat u h]; omega, by rw [digit_nat u h]; omega⟩
    · obtain ⟨c, r, e, h1, h2⟩ := ih (u / 10) (by omega)
      exact ⟨c, r ++ [UInt8.ofNat (48 + u % 10)], by rw [decDigits, dif_neg h, e]; rfl, h1, h2⟩
theorem mag_dec (u : Nat) (hu : u < 18446744073709551616) : parseMag (decDigits u) = .ok u := by
  obtain ⟨c, r, e, _⟩ := dec_head u
  unfold parseMag
  rw [if_neg (by rw [e]; simp)]
  have h := parse_dec u [] hu
  rw [List.append_nil] at h
  rw [h]
  rfl
theorem atoi_itoa (n : Int) (h0 : -9223372036854775808 ≤ n) (h1 : n ≤ 9223372036854775807) : atoiAll (itoa n) = .ok n := by
  by_cases hn : n < 0
  · unfold itoa
    rw [if_pos hn, atoiAll_minus, mag_dec _ (by omega), signed, if_neg (by omega)]
    congr 1
    omega
  · unfold itoa
    rw [if_neg hn]
    obtain ⟨c, r, e, hc1, hc2⟩ := dec_head n.toNat
    have hm := mag_dec n.toNat (by omega)
    rw [e] at hm ⊢
    rw [atoiAll_plain c r (by omega) (by omega), hm, signless, if_neg (by omega)]
    congr 1
    omega
theorem itoa_inj (m n : Int) (h0 : -9223372036854775808 ≤ m) (h1 : m ≤ 9223372036854775807) (h2 : -9223372036854775808 ≤ n) (h3 : n ≤ 9223372036854775807) (h : itoa m = itoa n) : m = n := by
  have a := atoi_itoa m h0 h1
  rw [h, atoi_itoa n h2 h3] at a
  injection a with a
  exact a.symm
/-- What both ReadDecimals answer. -/
def rdec (s : List UInt8) : Int × Int :=
  match atoiAll s with
  | .ok v => if itoa v = s then (v, 0) else (0, 11)
  | _ => (0, 11)
theorem rdec_itoa (n : Int) (h0 : -9223372036854775808 ≤ n) (h1 : n ≤ 9223372036854775807) : rdec (itoa n) = (n, 0) := by
  unfold rdec
  rw [atoi_itoa n h0 h1]
  exact if_pos rfl
theorem rdec_not (s : List UInt8) (h : ∀ n : Int, -9223372036854775808 ≤ n → n ≤ 9223372036854775807 → itoa n ≠ s) : rdec s = (0, 11) := by
  unfold rdec
  rcases ha : atoiAll s with v | _ | _
  · obtain ⟨b1, b2⟩ := atoiAll_bounds ha
    exact if_neg (h v b1 b2)
  · rfl
  · rfl

end Go.Proofs.YtkmjbakiippfpaaGreatDoor.Rec
set_option linter.unusedVariables false
namespace Go.Proofs.YtkmjbakiippfpaaGreatDoor.Rec
open Go.RowKit Go.Lib Go.Proofs.YtkmjbakiippfpaaGreatDoorW.PrintWords Go.Proofs.YtkmjbakiippfpaaGreatDoorW.PrintLast Go.Proofs.YtkmjbakiippfpaaGreatDoorW.PrintMore

/-- What the library's variables hold. -/
structure Laid (w : World) : Prop where
  tab : Lib.TabIs Tryz.prog w "internal/strconv.uint64pow10" .u64 Lib.pow10Tab
  syn : ∃ te pe, w.cell? ⟨3, 0, none⟩ = some (.iface te pe)
  rng : ∃ te pe, w.cell? ⟨4, 0, none⟩ = some (.iface te pe)
  mx : ∃ m, w.cell? ⟨0, 0, none⟩ = some (.int .i64 m)
theorem Laid.below {w w1 : World} (h : Laid w) (hb : Below w.heap.size w w1) : Laid w1 := by
  obtain ⟨te, pe, h1⟩ := h.syn
  obtain ⟨tr, pr, h2⟩ := h.rng
  obtain ⟨m, h3⟩ := h.mx
  exact ⟨tabBelow_of_tabIs h.tab w1 hb, ⟨te, pe, Reg.bkeep hb h1⟩, ⟨tr, pr, Reg.bkeep hb h2⟩, ⟨m, Reg.bkeep hb h3⟩⟩
theorem itoa_calls (n : Int) (h0 : -9223372036854775808 ≤ n) (h1 : n ≤ 9223372036854775807) (w : World) (hL : Laid w) :
    Calls Tryz.prog 49 #[.int .i64 n] w fun e w' => e = .returned (.string (B (Lib.itoa n))) ∧ Below w.heap.size w w' :=
  (Tryz.strconv_Itoa n h0 h1 w hL.tab).mono fun _ _ ⟨a, k, os, hw⟩ => ⟨a, by rw [hw]; exact below_grow _ _ (Nat.le_refl _) k os⟩
theorem decimal_calls (n : Int) (h0 : -9223372036854775808 ≤ n) (h1 : n ≤ 9223372036854775807) (w : World) (hL : Laid w) :
    Calls Tryz.prog 26 #[.int .i64 n] w fun e w' => e = .returned (.string (B (Lib.itoa n))) ∧ Below w.heap.size w w' := by
  have H := Lib.hid (itoa_calls n h0 h1 w hL)
  go_enter Tryz.func26, Tryz.ntmps26
  go_wp2_with (go_at_call 49; refine H.out.mono ?_; rintro e w1 ⟨rfl, hb⟩)
  go_ret
  exact ⟨rfl, hb⟩
theorem atoi_calls (s : ByteArray) (hs : s.size ≤ 281474976710656) (w : World) (hL : Laid w) :
    Calls Tryz.prog 70 #[.string s] w fun e w' => (∃ v ev, e = .returned (.tuple #[.int .i64 v, ev]) ∧ ((atoiAll s.data.toList = .ok v ∧ ev = .nilIface) ∨ ((∀ v', atoiAll s.data.toList ≠ .ok v') ∧ ∃ t p, ev = .iface t p))) ∧ Below w.heap.size w w' := by
  obtain ⟨te, pe, h1⟩ := hL.syn
  obtain ⟨tr, pr, h2⟩ := hL.rng
  rcases h : Lib.atoiAll s.data.toList with v | _ | _
  · refine (Tryz.strconv_Atoi_ok_laid s (by omega) v h w).mono fun e w' ⟨he, hw⟩ => ⟨⟨v, _, he, .inl ⟨rfl, rfl⟩⟩, ?_⟩
    rcases hw with rfl | ⟨t, rfl⟩
    · exact Below.refl _ _
    · exact Lib.bytesWorld_below _ _ _
  · exact (Tryz.strconv_Atoi_form_laid s hs h _ w h1 (.inr ⟨te, pe, rfl⟩)).mono fun e w' ⟨N, he, _, _, hb⟩ => ⟨⟨_, _, he, .inr ⟨fun v' hv => (by cases hv), _, _, rfl⟩⟩, hb⟩
  · exact (Tryz.strconv_Atoi_range_laid s hs h _ w h2 (.inr ⟨tr, pr, rfl⟩)).mono fun e w' ⟨N, he, _, _, hb⟩ => ⟨⟨_, _, he, .inr ⟨fun v' hv => (by cases hv), _, _, rfl⟩⟩, hb⟩
set_option maxHeartbeats 1000000 in
theorem read_calls (s : ByteArray) (hs : s.size ≤ 281474976710656) (w : World) (hL : Laid w) :
    Calls Tryz.prog 43 #[.string s] w fun e w' => e = .returned (.tuple #[.int .i64 (rdec s.data.toList).1, .int .i64 (rdec s.data.toList).2]) ∧ Below w.heap.size w w' := by
  have H := Lib.hid (atoi_calls s hs w hL)
  have HL := Lib.hid hL
  clear hL
  go_enter Tryz.func43, Tryz.ntmps43
  go_upto_region 2 with (go_at_call 70; refine H.out.mono ?_; rintro e w1 ⟨⟨v, ev, rfl, hv⟩, hb⟩)
  have HL1 := Lib.hid (HL.out.below hb)
  rcases hv with ⟨ha, rfl⟩ | ⟨hno, t, p, rfl⟩
  · obtain ⟨b1, b2⟩ := atoiAll_bounds ha
    have H2 := Lib.hid (itoa_calls v b1 b2 w1 HL1.out)
    have HR : Hid (rdec s.data.toList = if itoa v = s.data.toList then (v, 0) else (0, 11)) := Lib.hid (by unfold rdec; rw [ha])
    clear ha
    by_cases he : itoa v = s.data.toList
    · have hs2 : B (itoa v) = s := by rw [he]; exact of_B s
      have HR2 : Hid (rdec s.data.toList = (v, 0)) := Lib.hid (by rw [HR.out, if_pos he])
      clear HR he
      go_wp2_with (go_at_call 49; refine H2.out.mono ?_; rintro e w2 ⟨rfl, hb2⟩; rw [hs2])
      go_ret2
      exact ⟨by rw [HR2.out]; rfl, Reg.bgo hb hb2⟩
    · have HR2 : Hid (rdec s.data.toList = (0, 11)) := Lib.hid (by rw [HR.out, if_neg he])
      have hne : ((B (itoa v)).toList == s.toList) = false := beq_eq_false_iff_ne.mpr (by rw [B_list, ByteArray.toList_eq s]; exact he)
      have hne2 : ((B (itoa v)).toList != s.toList) = true := bne_iff_ne.mpr (by rw [B_list, ByteArray.toList_eq s]; exact he)
      clear HR he
      go_wp2_with (go_at_call 49; refine H2.out.mono ?_; rintro e w2 ⟨rfl, hb2⟩)
      go_ret2
      exact ⟨by rw [HR2.out]; rfl, Reg.bgo hb hb2⟩
  · have HR2 : Hid (rdec s.data.toList = (0, 11)) := Lib.hid (by
      unfold rdec
      rcases ha : atoiAll s.data.toList with v | _ | _
      · exact absurd ha (hno v)
      · rfl
      · rfl)
    clear hno
    go_wp2
    go_ret2
    exact ⟨by rw [HR2.out]; rfl, hb⟩
/-! ### Say -/
def dl (n : Nat) : Nat := (decDigits n).length
theorem itoa_nat (n : Nat) : itoa (n : Int) = decDigits n := by
  unfold itoa
  rw [if_neg (by omega)]
  rfl
theorem dl_step (u : Nat) : dl u = if u < 10 then 1 else dl (u / 10) + 1 := by
  unfold dl
  by_cases h : u < 10
  · rw [decDigits, dif_pos h, if_pos h]; rfl
  · rw [decDigits, dif_neg h, if_neg h, List.length_append]; rfl
theorem dl_of (u : Nat) (h : u ≤ 99999) : dl u = if u < 10 then 1 else if u < 100 then 2 else if u < 1000 then 3 else if u < 10000 then 4 else 5 := by
  rw [dl_step, dl_step (u / 10), dl_step (u / 10 / 10), dl_step (u / 10 / 10 / 10), dl_step (u / 10 / 10 / 10 / 10)]
  repeat' split
  all_goals omega
theorem dl_pos (u : Nat) : 1 ≤ dl u := by rw [dl_step]; split <;> omega
theorem dl_mono (b : Nat) : ∀ a, a ≤ b → dl a ≤ dl b := by
  induction b using Nat.strongRecOn with
  | _ b ih =>
    intro a h
    by_cases h1 : a < 10
    · rw [dl_step a, if_pos h1]; exact dl_pos b
    · have := ih (b / 10) (by omega) (a / 10) (by omega)
      rw [dl_step a, dl_step b, if_neg h1, if_neg (by omega)]
      omega
def tailOf (k v : List UInt8) : List UInt8 := 32 :: (k ++ 61 :: (v ++ [10]))
def SayIs (k v : List UInt8) (N : Nat) : Prop := N = (k.length + v.length + 3) + dl N ∧ (∀ m, k.length + v.length + 4 ≤ m → k.length + v.length + 3 + dl m ≤ m → N ≤ m) ∧ N ≤ k.length + v.length + 8
theorem say_bytes (n : Nat) (k v : ByteArray) : B (itoa (n : Int)) ++ ((⟨#[32]⟩ : ByteArray) ++ k ++ (⟨#[61]⟩ : ByteArray) ++ v ++ (⟨#[10]⟩ : ByteArray)) = B (decDigits n ++ tailOf k.data.toList v.data.toList) := by
  rw [itoa_nat]
  apply ByteArray.ext
  apply Array.toList_inj.1
  simp [B, tailOf, ByteArray.data_append]
set_option maxHeartbeats 2000000 in
theorem say_calls (k v : ByteArray) (hk : k.size ≤ 10000) (hv : v.size ≤ 10000) (w : World) (hL : Laid w) :
    Calls Tryz.prog 25 #[.string k, .string v] w fun e w' => (∃ N : Nat, SayIs k.data.toList v.data.toList N ∧ e = .returned (.string (B (decDigits N ++ tailOf k.data.toList v.data.toList)))) ∧ Below w.heap.size w w' := by
  have HL := Lib.hid hL
  clear hL
  go_enter Tryz.func25, Tryz.ntmps25
  go_wp2
  go_loopw [6] (fun j wr => ∃ n : Nat, j = .int .i64 n ∧ Hid (k.size + v.size + 4 ≤ n ∧ n ≤ k.size + v.size + 3 + dl n ∧ (∀ m, k.size + v.size + 4 ≤ m → k.size + v.size + 3 + dl m ≤ m → n ≤ m) ∧ n ≤ k.size + v.size + 8) ∧ Below w.heap.size w wr) (fun j _ => 100000 - (RowKit.intOf j).toNat)
  case atStart =>
    refine ⟨k.size + v.size + 4, by congr 1; omega, Lib.hid ?_, Below.refl _ _⟩
    have := dl_of (k.size + v.size + 4) (by omega)
    refine ⟨by omega, ?_, fun m h _ => h, by omega⟩
    rw [this]
    repeat' split
    all_goals omega
  case round =>
    obtain ⟨n, rfl, HN, hb⟩ := hrel
    have hn := HN.out
    have hdl := dl_of n (by omega)
    have hd1 : 1 ≤ dl n ∧ dl n ≤ 5 := by
      rw [hdl]
      repeat' split
      all_goals omega
    obtain ⟨d, hd⟩ : ∃ d, B (itoa (n : Int)) = d := ⟨_, rfl⟩
    have hds : d.size = dl n := by rw [← hd, B_size, itoa_nat]; rfl
    have HB := Lib.hid hb
    have H1 := Lib.hid (decimal_calls (n : Int) (by omega) (by omega) wr (HL.out.below hb))
    rw [hd] at H1
    by_cases c : (n : Int) < 1 + ↑k.size + 1 + ↑v.size + 1 + ↑d.size
    · have hnx : Hid (k.size + v.size + 4 ≤ k.size + v.size + 3 + d.size ∧ k.size + v.size + 3 + d.size ≤ k.size + v.size + 3 + dl (k.size + v.size + 3 + d.size) ∧ (∀ m, k.size + v.size + 4 ≤ m → k.size + v.size + 3 + dl m ≤ m → k.size + v.size + 3 + d.size ≤ m) ∧ k.size + v.size + 3 + d.size ≤ k.size + v.size + 8) := by
        refine Lib.hid ⟨by omega, ?_, fun m h1 h2 => ?_, by omega⟩
        · rw [hds]
          have : dl n ≤ dl (k.size + v.size + 3 + dl n) := dl_mono _ _ (by omega)
          omega
        · have h3 := dl_mono m n (hn.2.2.1 m h1 h2)
          omega
      clear hdl
      go_upto_region 4 with (go_at_call 26; refine H1.out.mono ?_; rintro e w1 ⟨rfl, hb1⟩)
      have hbb := Reg.bgo hb hb1
      have H2 := Lib.hid (decimal_calls (n : Int) (by omega) (by omega) w1 (HL.out.below hbb))
      rw [hd] at H2
      go_wp2_with (go_at_call 26; refine H2.out.mono ?_; rintro e w2 ⟨rfl, hb2⟩)
      go_roundw
      case rel => exact ⟨k.size + v.size + 3 + d.size, by congr 1; omega, hnx, Reg.bgo hbb hb2⟩
      case measure => simp [RowKit.intOf]; omega
    · have hS : Hid (SayIs k.data.toList v.data.toList n) := by
        refine Lib.hid ⟨?_, ?_, ?_⟩
        · show n = (k.size + v.size + 3) + dl n
          omega
        · exact hn.2.2.1
        · exact hn.2.2.2
      have hby := say_bytes n k v
      rw [hd] at hby
      have HBY := Lib.hid hby
      clear hdl hby
      go_upto_region 5 with (go_at_call 26; refine H1.out.mono ?_; rintro e w1 ⟨rfl, hb1⟩)
      have hbb := Reg.bgo hb hb1
      have H2 := Lib.hid (decimal_calls (n : Int) (by omega) (by omega) w1 (HL.out.below hbb))
      rw [hd] at H2
      go_wp2_with (go_at_call 26; refine H2.out.mono ?_; rintro e w2 ⟨rfl, hb2⟩)
      go_ret
      exact ⟨⟨n, hS.out, by rw [← HBY.out]; rfl⟩, Reg.bgo hbb hb2⟩
theorem least (P : Nat → Prop) : ∀ n, P n → ∃ m, P m ∧ ∀ j, P j → m ≤ j := by
  intro n
  induction n using Nat.strongRecOn with
  | _ n ih =>
    intro h
    by_cases h1 : ∃ j, j < n ∧ P j
    · obtain ⟨j, h2, h3⟩ := h1
      exact ih j h2 h3
    · exact ⟨n, h, fun j hj => Nat.le_of_not_lt (fun hlt => h1 ⟨j, hlt, hj⟩)⟩
theorem say_exists (k v : List UInt8) (hk : k.length ≤ 10000) (hv : v.length ≤ 10000) : ∃ N, SayIs k v N := by
  have h5 := dl_of (k.length + v.length + 8) (by omega)
  have hd : dl (k.length + v.length + 8) ≤ 5 := by
    rw [h5]
    repeat' split
    all_goals omega
  obtain ⟨N, ⟨h1, h2⟩, h3⟩ := least (fun m => k.length + v.length + 4 ≤ m ∧ k.length + v.length + 3 + dl m ≤ m) (k.length + v.length + 8) ⟨by omega, by omega⟩
  refine ⟨N, ?_, fun m a b => h3 m ⟨a, b⟩, h3 _ ⟨by omega, by omega⟩⟩
  apply Classical.byContradiction
  intro hne
  have hp := dl_pos N
  have h4 := dl_mono N (N - 1) (by omega)
  have h6 := h3 (N - 1) ⟨by omega, by omega⟩
  omega
theorem say_one (k v : List UInt8) (N M : Nat) (h1 : SayIs k v N) (h2 : SayIs k v M) : N = M := by
  have a := h1.2.1 M (by have := h2.1; have := dl_pos M; omega) (by have := h2.1; omega)
  have b := h2.2.1 N (by have := h1.1; have := dl_pos N; omega) (by have := h1.1; omega)
  omega
theorem say_at (k v : ByteArray) (N : Nat) (hN : SayIs k.data.toList v.data.toList N) (hk : k.size ≤ 10000) (hv : v.size ≤ 10000) (w : World) (hL : Laid w) :
    Calls Tryz.prog 25 #[.string k, .string v] w fun e w' => e = .returned (.string (B (decDigits N ++ tailOf k.data.toList v.data.toList))) ∧ Below w.heap.size w w' := by
  refine (say_calls k v hk hv w hL).mono ?_
  rintro e w' ⟨⟨M, hM, rfl⟩, hb⟩
  rw [say_one _ _ _ _ hN hM]
  exact ⟨rfl, hb⟩
end Go.Proofs.YtkmjbakiippfpaaGreatDoor.Rec
set_option linter.unusedVariables false
set_option linter.unusedSimpArgs false
namespace Go.Proofs.YtkmjbakiippfpaaGreatDoor.Rec
open Go.RowKit Go.Lib Go.Proofs.YtkmjbakiippfpaaGreatDoorW.PrintWords Go.Proofs.YtkmjbakiippfpaaGreatDoorW.PrintLast Go.Proofs.YtkmjbakiippfpaaGreatDoorW.PrintMore
theorem indexByte_at (c : UInt8) : ∀ (a r : List UInt8), c ∉ a → indexByte (a ++ c :: r) c = a.length
  | [], r, h => by simp [indexByte]
  | x :: a, r, h => by
    have h1 : ¬ x = c := fun e => h (by rw [e]; exact List.mem_cons_self)
    have h2 := indexByte_at c a r (fun hm => h (List.mem_cons_of_mem _ hm))
    rw [List.cons_append, indexByte, h2]
    simp [h1]
theorem cut_at (c : UInt8) (a r : List UInt8) (h : c ∉ a) : Lib.cut (a ++ c :: r) [c] = (a, r, true) := by
  unfold Lib.cut
  rw [index_one, indexByte_at c a r h, if_pos (by omega)]
  simp
theorem cut_calls (c : UInt8) (s : ByteArray) (a r : List UInt8) (hs : s.data.toList = a ++ c :: r) (h : c ∉ a) (hz : s.size < 4294967281) (w : World) (hL : Laid w) :
    Calls Tryz.prog 68 #[.string s, .string ⟨#[c]⟩] w fun e w' => e = .returned (.tuple #[.string (B a), .string (B r), .bool true]) ∧ Below w.heap.size w w' := by
  obtain ⟨m, hm⟩ := hL.mx
  refine (Tryz.strings_Cut_at s ⟨#[c]⟩ m w hz hm).mono ?_
  rintro e w' ⟨rfl, n, rfl⟩
  rw [hs, show (⟨#[c]⟩ : ByteArray).data.toList = [c] from rfl, cut_at c a r h]
  exact ⟨rfl, (pw_below_drewN (Below.refl _ _) n)⟩
theorem dec_no (c : UInt8) (hc : c.toNat < 48) (u : Nat) : c ∉ decDigits u := by
  induction u using Nat.strongRecOn with
  | _ u ih =>
    rw [decDigits]
    split
    · rename_i h
      simp only [List.mem_singleton]
      intro e
      rw [e, digit_nat u h] at hc
      omega
    · rename_i h
      simp only [List.mem_append, List.mem_singleton]
      rintro (hm | e)
      · exact ih (u / 10) (by omega) hm
      · rw [e, digit_nat _ (Nat.mod_lt _ (by omega))] at hc
        omega
theorem tail_len (k v : List UInt8) : (tailOf k v).length = k.length + v.length + 3 := by
  simp only [tailOf, List.length_cons, List.length_append, List.length_nil]
  omega
theorem rec_split (s : ByteArray) (k v r : List UInt8) (N : Nat) (hs : s.data.toList = decDigits N ++ tailOf k v ++ r) (hN : N = (k.length + v.length + 3) + dl N) :
    s.size = N + r.length ∧ (∀ h : N - 1 < s.size, (((s[N - 1]'h).toNat : Int) != 10) = false) ∧ s.extract (dl N + 1) (N - 1) = B (k ++ 61 :: v) ∧ s.extract N s.size = B r := by
  have h1 : s.data.toList = (decDigits N ++ 32 :: (k ++ 61 :: v)) ++ 10 :: r := by rw [hs]; simp [tailOf]
  have hl : (decDigits N ++ 32 :: (k ++ 61 :: v)).length = N - 1 := by
    have h2 : (decDigits N).length = dl N := rfl
    simp only [List.length_append, List.length_cons, h2]
    omega
  have hz : s.size = N + r.length := by
    have h2 : s.size = s.data.toList.length := by rw [Array.length_toList]; rfl
    rw [h2, h1, List.length_append, hl, List.length_cons]
    omega
  have hN1 : ((N : Int) - 1).toNat = N - 1 := by omega
  refine ⟨hz, ?_, ?_, ?_⟩
  · have hlt : N - 1 < s.size := by omega
    have he : s.data.toList[N - 1]? = some 10 := by
      rw [h1, List.getElem?_append_right (by omega), hl, Nat.sub_self]
      rfl
    intro h
    have h3 : s[N - 1]'h = (10 : UInt8) := by
      have h4 : s.data[N - 1]? = some 10 := by rw [← Array.getElem?_toList]; exact he
      exact (Array.getElem?_eq_some_iff.1 h4).2
    rw [h3]
    rfl
  · apply ByteArray.ext
    apply Array.toList_inj.1
    rw [ByteArray.data_extract, Array.toList_extract, h1]
    simp only [B, List.extract_eq_take_drop]
    have h2 : (decDigits N).length = dl N := rfl
    rw [List.append_assoc, List.drop_append, List.drop_of_length_le (by omega), h2, show dl N + 1 - dl N = 1 by omega, List.nil_append, List.cons_append, List.drop_succ_cons, List.drop_zero]
    rw [show N - 1 - (dl N + 1) = (k ++ 61 :: v).length by simp only [List.length_append, List.length_cons]; omega, List.take_left]
  · apply ByteArray.ext
    apply Array.toList_inj.1
    rw [ByteArray.data_extract, Array.toList_extract, h1]
    simp only [B, List.extract_eq_take_drop]
    rw [List.drop_append, List.drop_of_length_le (by omega), hl, List.nil_append, show N - (N - 1) = 1 by omega, List.drop_succ_cons, List.drop_zero, List.take_of_length_le (by omega)]
set_option maxRecDepth 100000 in
set_option maxHeartbeats 4000000 in
theorem record_calls (s : ByteArray) (k v r : List UInt8) (N : Nat) (hs : s.data.toList = decDigits N ++ tailOf k v ++ r) (hN : SayIs k v N) (hk : k ≠ []) (h61 : (61 : UInt8) ∉ k) (hz : s.size < 4294967281) (w : World) (hL : Laid w) :
    Calls Tryz.prog 69 #[.string s] w fun e w' => e = .returned (.tuple #[.string (B k), .string (B v), .string (B r), .bool true]) ∧ Below w.heap.size w w' := by
  have hs1 : s.data.toList = decDigits N ++ 32 :: (k ++ 61 :: (v ++ [10]) ++ r) := by rw [hs]; simp [tailOf]
  have H1 := Lib.hid (cut_calls 32 s _ _ hs1 (dec_no 32 (by decide) N) hz w hL)
  have HL := Lib.hid hL
  clear hL
  generalize hR : B (k ++ 61 :: (v ++ [10]) ++ r) = R at H1
  obtain ⟨d, hd⟩ : ∃ d, B (decDigits N) = d := ⟨_, rfl⟩
  have hds : d.size = dl N := by rw [← hd, B_size]; rfl
  have hdd : d.data.toList = itoa (N : Int) := by rw [← hd, B_data, itoa_nat]
  rw [hd] at H1
  obtain ⟨hsz, hbt, hx1, hx2⟩ := rec_split s k v r N hs hN.1
  have hk1 : 1 ≤ k.length := by cases k; exact absurd rfl hk; simp
  have hN1 := hN.1
  have c1 : (N : Int) ≤ s.size := by omega
  have c2 : (d.size : Int) + 3 ≤ N := by omega
  rw [← hds] at hx1
  have H3 := Lib.hid (fun w hL => cut_calls 61 (B (k ++ 61 :: v)) k v (B_data _) h61 (by rw [← hx1]; have : (s.extract (d.size + 1) (N - 1)).size ≤ s.size := (by rw [ByteArray.size_extract]; omega); omega) w hL)
  have hsl : ∀ W : World, (Instr.slice 9 (.string s) (some (.int .i64 ((d.size : Int) + 1))) (some (.int .i64 ((N : Int) - 1))) none).run Tryz.prog W = .ok (.string (B (k ++ 61 :: v))) W := by
    intro W
    have h := run_slice_string (P := Tryz.prog) W 9 s .i64 .i64 ((d.size : Int) + 1) ((N : Int) - 1) Tryz.underlying9 (by omega) (by omega) (by omega)
    rw [show ((d.size : Int) + 1).toNat = d.size + 1 by omega, show ((N : Int) - 1).toNat = N - 1 by omega, hx1] at h
    exact h
  have hsl2 : ∀ W : World, (Instr.slice 9 (.string s) (some (.int .i64 (N : Int))) none none).run Tryz.prog W = .ok (.string (B r)) W := by
    intro W
    have h := run_slice_string_from_if (P := Tryz.prog) W 9 s .i64 (N : Int) Tryz.underlying9
    rw [if_pos ⟨by omega, by omega⟩, Int.toNat_natCast, hx2] at h
    exact h
  clear hx1 hx2
  have hd9 : d.size ≤ 9223372036854775807 - 3 := by omega
  have hN9 : (N : Int) ≤ 4294967281 := by omega
  have hdr := rdec_itoa (N : Int) (by omega) (by omega)
  clear hs hs1 hR hd hN1 hN hds hsz
  go_enter Tryz.func69, Tryz.ntmps69
  go_upto_region 2 with (go_at_call 68; refine H1.out.mono ?_; rintro e w1 ⟨rfl, hb1⟩)
  have H2 := Lib.hid (read_calls d (by omega) w1 (HL.out.below hb1))
  rw [hdd, hdr] at H2
  go_upto_region 3 with (go_at_call 43; refine H2.out.mono ?_; rintro e w2 ⟨rfl, hb2⟩)
  have hb12 := Reg.bgo hb1 hb2
  clear hdd hdr
  have hnl : decide (s.size < N) = false := by simp; omega
  go_upto_region 5 with (fail)
  have HL2 := HL.out.below hb12
  go_upto_region 6 with (go_at_call 68; refine (H3.out _ HL2).mono ?_; rintro e w3 ⟨rfl, hb3⟩)
  have hb13 := Reg.bgo hb12 hb3
  have he : (B k).toList.isEmpty = false := by
    rw [B_list]
    cases k
    · exact absurd rfl hk
    · rfl
  have hb14 := Reg.bdrew hb13
  go_region
  go_wp2
  refine bodyPost_ret (v := .tuple #[.string (B k), .string (B v), .string (B r), .bool true]) (by simp [results, Tryz.results69, go_sem]) rfl ⟨rfl, hb14⟩
end Go.Proofs.YtkmjbakiippfpaaGreatDoor.Rec
