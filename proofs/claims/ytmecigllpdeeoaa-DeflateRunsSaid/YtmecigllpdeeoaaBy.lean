/- Byte slices of the call's own: slices.Clone; number.lay, PutLow, PutHigh, PutVar. -/
import Derived.Test.YtmecigllpdeeoaaPPutx1
import Derived.Test.YtmecigllpdeeoaaReg
import Derived.Test.YtmecigllpdeeoaaShelf
import Derived.Lib.Hide
import Derived.Lib.SliceRun
set_option linter.unusedVariables false
namespace Go.Proofs.Ytmecigllpdeeoaa.By
open Go.RowKit Go.BigFrame Go.Proofs.Ytmecigllpdeeoaa.Reg Go.Proofs.YtmecigllpdeeoaaW.PrintWords Go.Proofs.YtmecigllpdeeoaaW.PrintLast Go.Proofs.YtmecigllpdeeoaaW.PrintMore

theorem infoB : (Try.prog.info? 5).map (fun i => (i.zero, i.size, i.bytes)) = some (some (.int .u8 0), 1, 1) := by kernel_rfl
theorem own_made (w : World) (base : Nat) (ok : Nat → Prop) (hb : base ≤ w.heap.size) (hok : ∀ k, w.heap.size ≤ k → ok k) :
    (Kd.int .u8).R 5 (w.alloc (.cells #[] 5)) base ok (.slice (some ⟨w.heap.size, 0, none⟩) 0 0) [] :=
  Kd.R_of_own (by simpa [encs] using World.ownsRow_made w #[] 0 hb (by simp [maxLen]) (by simp)) (fun k hk => hok k (by simp [Value.ownBlock] at hk; omega))

theorem clone_some (ad : Addr) (n c : Nat) (xs : List Int) (w : World) (hr : (Kd.int .u8).C w (some ad) n xs) (hl : n ≤ 140737488355328) :
    Calls Try.prog 52 #[.slice (some ad) n c] w fun e w' => ∃ v, e = .returned v ∧ (Kd.int .u8).R 5 w' w.heap.size (fun _ => True) v xs ∧ Below w.heap.size w w' := by
  have heq : ∀ W : World, (binOp .eql 35 (.slice (some ad) n c) (.slice none 0 0)).run Try.prog W = .ok (.bool false) W := fun W => Lib.run_eql_slice_nil W _ _ (some ad) _ _ _ _ Try.underlying35
  have hW : (Kd.int .u8).C (w.alloc (.cells #[] 5)) (some ad) n xs := Kd.C_below hr (balloc (Below.refl _ _) _)
  have hR : (Kd.int .u8).R 5 (w.alloc (.cells #[] 5)) w.heap.size (fun _ => True) (.slice (some ⟨w.heap.size, 0, none⟩) 0 0) [] := own_made w _ _ (Nat.le_refl _) (fun _ _ => trivial)
  have HW := Lib.hid hW
  have HR := Lib.hid hR
  clear hW hR
  go_enter Try.func52, Try.ntmps52
  go_wp2_with (at_builtin; refine Kd.R_append_row (Value.int .u8) 0 (w0 := w) w.heap.size rfl (.tmp 5) (.tmp 6) 35 5 (.int .u8 0) 1 rfl Try.underlying35 infoB rfl (by omega) _ [] xs (some ad) n c (fun _ => True) rfl rfl (fun _ _ => trivial) HR.out HW.out (balloc (Below.refl _ _) _) (by simp) (by simp; omega) ?_; intro v1 w1 hR1 hb1 hg1 hat1)
  go_ret
  exact ⟨v1, rfl, hR1, hb1⟩
theorem clone_nil (c : Nat) (w : World) :
    Calls Try.prog 52 #[.slice none 0 c] w fun e w' => ∃ v, e = .returned v ∧ (Kd.int .u8).R 5 w' w.heap.size (fun _ => True) v [] ∧ Below w.heap.size w w' := by
  have heq : ∀ W : World, (binOp .eql 35 (.slice none 0 c) (.slice none 0 0)).run Try.prog W = .ok (.bool true) W := fun W => Lib.run_eql_slice_nil W _ _ none _ _ _ _ Try.underlying35
  go_enter Try.func52, Try.ntmps52
  go_wp2
  go_ret
  exact ⟨_, rfl, Kd.R_nil _ _ _ _ _, Below.refl _ _⟩
theorem clone_any (A : Option Addr) (n c : Nat) (xs : List Int) (w : World) (hr : (Kd.int .u8).C w A n xs) (hl : n ≤ 140737488355328) :
    Calls Try.prog 52 #[.slice A n c] w fun e w' => ∃ v, e = .returned v ∧ (Kd.int .u8).R 5 w' w.heap.size (fun _ => True) v xs ∧ Below w.heap.size w w' := by
  rcases A with _ | ad
  · have h0 : n = 0 := by
      rcases Nat.eq_zero_or_pos n with h | h
      · exact h
      · obtain ⟨ad, h, _⟩ := hr.2.2 h; cases h
    subst h0
    have : xs = [] := List.eq_nil_of_length_eq_zero hr.1
    subst this
    exact clone_nil c w
  · exact clone_some ad n c xs w hr hl

/-! ### the numbers -/
/-- Byte number j of v. -/
def byteAt (v : Int) (j : Nat) : Int := v / 2 ^ (8 * j) % 256
/-- n bytes of v, each at the place that p tells. -/
def laid (v : Int) (p : Nat → Nat) (n : Nat) : List Int := (List.range n).map fun i => byteAt v (p i)
theorem laid_succ (v : Int) (p : Nat → Nat) (n : Nat) : laid v p (n + 1) = laid v p n ++ [byteAt v (p n)] := by simp [laid, List.range_succ]
theorem laid_len (v : Int) (p : Nat → Nat) (n : Nat) : (laid v p n).length = n := by simp [laid]
def lowP (i : Nat) : Nat := i
def highP (n i : Nat) : Nat := n - 1 - i
theorem bitLen_gt (v : Int) (n : Nat) (h0 : 0 ≤ v) (h1 : v ≤ 18446744073709551615) (hn : n ≤ 8) : 8 * n < Lib.bitLen v.toNat ↔ (((2 ^ (8 * n) : Nat)) : Int) ≤ v := by
  constructor
  · intro h
    apply Classical.byContradiction
    intro hlt
    have : Lib.bitLen v.toNat ≤ 8 * n := Lib.bitLen_le v.toNat (8 * n) (by omega) (by omega)
    omega
  · intro h
    rcases Nat.lt_or_ge (8 * n) 64 with h8 | h8
    · have hs := Lib.bitLen_shift (8 * n) v.toNat (by omega) (by omega)
      have hpos : 0 < v.toNat / 2 ^ (8 * n) := Nat.div_pos (by omega) (Nat.two_pow_pos _)
      have : 0 < Lib.bitLen (v.toNat / 2 ^ (8 * n)) := by
        unfold Lib.bitLen
        rw [show (64 : Nat) = 63 + 1 from rfl, Lib.bitLenAux, if_neg (by omega)]
        omega
      omega
    · have : n = 8 := by omega
      subst this
      have : (((2 ^ (8 * 8) : Nat)) : Int) = 18446744073709551616 := by decide
      omega

theorem len64_any (x : Int) (w : World) (h0 : 0 ≤ x) (h1 : x ≤ 18446744073709551615) :
    Calls Try.prog 61 #[.int .u64 x] w fun e w' => e = .returned (.int .i64 (Lib.bitLen x.toNat)) ∧ w = w' :=
  (Try.bits_Len64 x w h0 h1).mono fun _ _ ⟨a, b⟩ => ⟨a, b.symm⟩
theorem lowest_calls (i : Int) (w : World) : Calls Try.prog 48 #[.int .i64 i] w fun e w' => e = .returned (.int .i64 i) ∧ w = w' := by
  go_enter Try.func48, Try.ntmps48
  go_wp2
  go_ret
  exact ⟨rfl, rfl⟩
theorem highest1_calls (i n : Int) (p : Addr) (w : World) (hc : w.cell? p = some (.int .i64 n)) (h0 : 0 ≤ i) (h1 : i < n) (h2 : n ≤ 8) :
    Calls Try.prog 62 #[.int .i64 i, .pointer (some p)] w fun e w' => e = .returned (.int .i64 (n - 1 - i)) ∧ w = w' := by
  go_enter Try.func62, Try.ntmps62
  go_wp2
  go_ret
  exact ⟨rfl, rfl⟩
set_option maxHeartbeats 2000000 in
theorem lay_low (A : Option Addr) (c : Nat) (xs : List Int) (v n : Int) (w : World) (hr : (Kd.int .u8).C w A xs.length xs) (hl : xs.length ≤ 140737488355320) (v0 : 0 ≤ v) (v1 : v ≤ 18446744073709551615) (n0 : 1 ≤ n) (n1 : n ≤ 8) (hv : v < ((2 ^ (8 * n.toNat) : Nat) : Int)) :
    Calls Try.prog 47 #[.slice A xs.length c, .int .u64 v, .int .i64 n, .func (.func 48) #[] #[]] w fun e w' => ∃ u, e = .returned (.tuple #[u, .int .i64 0]) ∧ (Kd.int .u8).R 5 w' w.heap.size (fun _ => True) u (xs ++ laid v lowP n.toNat) ∧ Below w.heap.size w w' := by
  have hbl : ¬ 8 * n < (Lib.bitLen v.toNat : Int) := by
    have := bitLen_gt v n.toNat v0 v1 (by omega)
    intro h
    have h2 := this.1 (by omega)
    omega
  have HV := Lib.hid hv; clear hv
  have hc1 := clone_any A xs.length c xs w hr (by omega)
  have H1 := Lib.hid hc1; clear hc1 hr
  go_enter Try.func47, Try.ntmps47
  go_wp2_with (first
    | (go_at_call 61; refine (len64_any v _ v0 v1).mono ?_; rintro e w' ⟨rfl, rfl⟩)
    | (go_at_call 52; refine H1.out.mono ?_; rintro e w1 ⟨u, rfl, hR, hb1⟩))
  have HR := Lib.hid hR; clear hR
  go_loopw [10, 11, 28] (fun a _ i wr => ∃ (k : Nat) (u : Value), (k : Int) ≤ n ∧ a = u ∧ i = .int .i64 k ∧ Hid ((Kd.int .u8).R 5 wr w.heap.size (fun _ => True) u (xs ++ laid v lowP k)) ∧ Below w.heap.size w wr) (fun _ _ i _ => (n - intOf i).toNat)
  case atStart => exact ⟨0, u, by omega, rfl, rfl, Lib.hid (by simpa [laid] using HR.out), hb1⟩
  case round =>
    obtain ⟨k, u2, hk, rfl, rfl, HR2, hbr⟩ := hrel
    by_cases hlt : (k : Int) < n
    · go_wp2_with fail
      refine (lowest_calls _ _).mono ?_
      rintro e w' ⟨rfl, rfl⟩
      have hlen : (xs ++ laid v lowP k).length + 1 ≤ 140737488355328 := by rw [List.length_append, laid_len]; omega
      go_wp2_with (at_builtin; refine Kd.R_append (Kd.int .u8) (w0 := w) w.heap.size rfl (.tmp 31) (.tmp 39) 35 5 (.int .u8 0) 1 rfl Try.underlying35 infoB rfl (by decide) (by omega) _ _ _ _ (fun _ => True) (fun _ => False) rfl rfl rfl (fun _ hk => hk.elim) (fun _ _ => trivial) HR2.out hbr hbr.size (by rw [Nat.mul_one]; exact hlen) ?_; intro v1 w1 hR1 hb1 hg1 hat1)
      go_roundw
      case rel => exact ⟨k + 1, v1, by omega, rfl, by go_num, Lib.hid (by rw [laid_succ, ← List.append_assoc]; exact hR1), hb1⟩
      case measure => simp [intOf]; omega
    · have hkn : (k : Int) = n := by omega
      have HK := Lib.hid (show n.toNat = k by omega)
      clear hkn
      go_wp2
      go_ret2
      exact ⟨_, rfl, by have h := HR2.out; rw [← HK.out] at h; exact h, hbr⟩
set_option maxHeartbeats 2000000 in
theorem lay_high (A : Option Addr) (c : Nat) (xs : List Int) (v n : Int) (p : Addr) (w : World) (hp : w.cell? p = some (.int .i64 n)) (hr : (Kd.int .u8).C w A xs.length xs) (hl : xs.length ≤ 140737488355320) (v0 : 0 ≤ v) (v1 : v ≤ 18446744073709551615) (n0 : 1 ≤ n) (n1 : n ≤ 8) (hv : v < ((2 ^ (8 * n.toNat) : Nat) : Int)) :
    Calls Try.prog 47 #[.slice A xs.length c, .int .u64 v, .int .i64 n, .func (.func 62) #[] #[.pointer (some p)]] w fun e w' => ∃ u, e = .returned (.tuple #[u, .int .i64 0]) ∧ (Kd.int .u8).R 5 w' w.heap.size (fun _ => True) u (xs ++ laid v (highP n.toNat) n.toNat) ∧ Below w.heap.size w w' := by
  have hbl : ¬ 8 * n < (Lib.bitLen v.toNat : Int) := by
    have := bitLen_gt v n.toNat v0 v1 (by omega)
    intro h
    have h2 := this.1 (by omega)
    omega
  have HV := Lib.hid hv; clear hv
  have HP := Lib.hid hp; clear hp
  have hc1 := clone_any A xs.length c xs w hr (by omega)
  have H1 := Lib.hid hc1; clear hc1 hr
  go_enter Try.func47, Try.ntmps47
  go_wp2_with (first
    | (go_at_call 61; refine (len64_any v _ v0 v1).mono ?_; rintro e w' ⟨rfl, rfl⟩)
    | (go_at_call 52; refine H1.out.mono ?_; rintro e w1 ⟨u, rfl, hR, hb1⟩))
  have HR := Lib.hid hR; clear hR
  go_loopw [10, 11, 28] (fun a _ i wr => ∃ (k : Nat) (u : Value), (k : Int) ≤ n ∧ a = u ∧ i = .int .i64 k ∧ Hid ((Kd.int .u8).R 5 wr w.heap.size (fun _ => True) u (xs ++ laid v (highP n.toNat) k)) ∧ Below w.heap.size w wr) (fun _ _ i _ => (n - intOf i).toNat)
  case atStart => exact ⟨0, u, by omega, rfl, rfl, Lib.hid (by simpa [laid] using HR.out), hb1⟩
  case round =>
    obtain ⟨k, u2, hk, rfl, rfl, HR2, hbr⟩ := hrel
    by_cases hlt : (k : Int) < n
    · go_wp2_with fail
      have hpr : wr.cell? p = some (.int .i64 n) := bkeep hbr HP.out
      refine (highest1_calls k n p _ hpr (by omega) hlt n1).mono ?_
      clear hpr
      rintro e w' ⟨rfl, rfl⟩
      have hlen : (xs ++ laid v (highP n.toNat) k).length + 1 ≤ 140737488355328 := by rw [List.length_append, laid_len]; omega
      go_wp2_with (at_builtin; refine Kd.R_append (Kd.int .u8) (w0 := w) w.heap.size rfl (.tmp 31) (.tmp 39) 35 5 (.int .u8 0) 1 rfl Try.underlying35 infoB rfl (by decide) (by omega) _ _ _ _ (fun _ => True) (fun _ => False) rfl rfl rfl (fun _ hk => hk.elim) (fun _ _ => trivial) HR2.out hbr hbr.size (by rw [Nat.mul_one]; exact hlen) ?_; intro v1 w1 hR1 hb1 hg1 hat1)
      go_roundw
      case rel => exact ⟨k + 1, v1, by omega, rfl, by go_num, Lib.hid (by rw [laid_succ, ← List.append_assoc]; have he : byteAt v (highP n.toNat k) = v / 2 ^ (8 * (n - 1 - (k : Int))).toNat % 256 := (by unfold byteAt highP; congr 3; omega); rw [he]; exact hR1), hb1⟩
      case measure => simp [intOf]; omega
    · have hkn : (k : Int) = n := by omega
      have HK := Lib.hid (show n.toNat = k by omega)
      clear hkn
      go_wp2
      go_ret2
      exact ⟨_, rfl, by have h := HR2.out; rw [← HK.out] at h; exact h, hbr⟩

def putE (v n : Int) : Int := if n < 1 ∨ 8 < n then 2 else if ((2 ^ (8 * n.toNat) : Nat) : Int) ≤ v then 3 else 0
def putL (xs : List Int) (v n : Int) (p : Nat → Nat) : List Int := if putE v n = 0 then xs ++ laid v p n.toNat else []
set_option maxHeartbeats 2000000 in
theorem lay_bad (A : Option Addr) (l c : Nat) (g : Value) (v n : Int) (w : World) (v0 : 0 ≤ v) (v1 : v ≤ 18446744073709551615) (hbad : putE v n ≠ 0) :
    Calls Try.prog 47 #[.slice A l c, .int .u64 v, .int .i64 n, g] w fun e w' => e = .returned (.tuple #[.slice none 0 0, .int .i64 (putE v n)]) ∧ w = w' := by
  by_cases h1 : n < 1
  · have he : Hid (putE v n = 2) := Lib.hid (by unfold putE; rw [if_pos (.inl h1)])
    clear hbad
    go_enter Try.func47, Try.ntmps47
    go_wp2
    go_ret2
    exact ⟨by rw [he.out]; rfl, rfl⟩
  by_cases h2 : 8 < n
  · have he : Hid (putE v n = 2) := Lib.hid (by unfold putE; rw [if_pos (.inr h2)])
    clear hbad
    go_enter Try.func47, Try.ntmps47
    go_wp2
    go_ret2
    exact ⟨by rw [he.out]; rfl, rfl⟩
  by_cases h3 : ((2 ^ (8 * n.toNat) : Nat) : Int) ≤ v
  · have he : Hid (putE v n = 3) := Lib.hid (by unfold putE; rw [if_neg (by omega), if_pos h3])
    have hbl : 8 * n < (Lib.bitLen v.toNat : Int) := by
      have := (bitLen_gt v n.toNat v0 v1 (by omega)).2 h3
      omega
    clear hbad h3
    go_enter Try.func47, Try.ntmps47
    go_wp2_with (go_at_call 61; refine (len64_any v _ v0 v1).mono ?_; rintro e w' ⟨rfl, rfl⟩)
    go_ret2
    exact ⟨by rw [he.out]; rfl, rfl⟩
  exact absurd (by unfold putE; rw [if_neg (by omega), if_neg h3]) hbad
theorem putLow_any (A : Option Addr) (c : Nat) (xs : List Int) (v n : Int) (w : World) (hr : (Kd.int .u8).C w A xs.length xs) (hl : xs.length ≤ 140737488355320) (v0 : 0 ≤ v) (v1 : v ≤ 18446744073709551615) :
    Calls Try.prog 25 #[.slice A xs.length c, .int .u64 v, .int .i64 n] w fun e w' => ∃ u, e = .returned (.tuple #[u, .int .i64 (putE v n)]) ∧ (Kd.int .u8).R 5 w' w.heap.size (fun _ => True) u (putL xs v n lowP) ∧ Below w.heap.size w w' := by
  by_cases hb : putE v n = 0
  · have hin : 1 ≤ n ∧ n ≤ 8 ∧ v < ((2 ^ (8 * n.toNat) : Nat) : Int) := by
      unfold putE at hb
      split at hb
      · simp at hb
      · split at hb
        · simp at hb
        · omega
    have hL : Hid (putL xs v n lowP = xs ++ laid v lowP n.toNat) := Lib.hid (by unfold putL; rw [if_pos hb])
    have hE := Lib.hid hb
    clear hb
    have hc := lay_low A c xs v n w hr hl v0 v1 hin.1 hin.2.1 hin.2.2
    have H := Lib.hid hc
    clear hc hr hin
    go_enter Try.func25, Try.ntmps25
    go_wp2_with (go_at_call 47; refine H.out.mono ?_; rintro e w' ⟨u, rfl, hR, hb1⟩)
    go_ret2
    exact ⟨u, by rw [hE.out]; rfl, by rw [hL.out]; exact hR, hb1⟩
  · have hL : Hid (putL xs v n lowP = []) := Lib.hid (by unfold putL; rw [if_neg hb])
    have hc := lay_bad A xs.length c (.func (.func 48) #[] #[]) v n w v0 v1 hb
    have H := Lib.hid hc
    clear hc hr hb
    go_enter Try.func25, Try.ntmps25
    go_wp2_with (go_at_call 47; refine H.out.mono ?_; rintro e w' ⟨rfl, rfl⟩)
    go_ret2
    exact ⟨_, rfl, by rw [hL.out]; exact Kd.R_nil _ _ _ _ _, Below.refl _ _⟩
theorem highest_calls (n : Int) (w : World) :
    Calls Try.prog 51 #[.int .i64 n] w fun e w' => e = .returned (.func (.func 62) #[] #[.pointer (some ⟨w.heap.size, 0, none⟩)]) ∧ w.alloc (.cells #[.int .i64 n] 3) = w' := by
  go_enter Try.func51, Try.ntmps51
  go_wp2
  go_ret
  exact ⟨rfl, rfl⟩
theorem putHigh_any (A : Option Addr) (c : Nat) (xs : List Int) (v n : Int) (w : World) (hr : (Kd.int .u8).C w A xs.length xs) (hl : xs.length ≤ 140737488355320) (v0 : 0 ≤ v) (v1 : v ≤ 18446744073709551615) :
    Calls Try.prog 28 #[.slice A xs.length c, .int .u64 v, .int .i64 n] w fun e w' => ∃ u, e = .returned (.tuple #[u, .int .i64 (putE v n)]) ∧ (Kd.int .u8).R 5 w' w.heap.size (fun _ => True) u (putL xs v n (highP n.toNat)) ∧ Below w.heap.size w w' := by
  by_cases hb : putE v n = 0
  · have hin : 1 ≤ n ∧ n ≤ 8 ∧ v < ((2 ^ (8 * n.toNat) : Nat) : Int) := by
      unfold putE at hb
      split at hb
      · simp at hb
      · split at hb
        · simp at hb
        · omega
    have hL : Hid (putL xs v n (highP n.toNat) = xs ++ laid v (highP n.toNat) n.toNat) := Lib.hid (by unfold putL; rw [if_pos hb])
    have hE := Lib.hid hb
    clear hb
    have hc := lay_high A c xs v n ⟨w.heap.size, 0, none⟩ (w.alloc (.cells #[.int .i64 n] 3)) (by go_simp) (Kd.C_below hr (balloc (Below.refl _ _) _)) hl v0 v1 hin.1 hin.2.1 hin.2.2
    have H := Lib.hid hc
    clear hc hr hin
    go_enter Try.func28, Try.ntmps28
    go_wp2_with (first
      | (go_at_call 51; refine (highest_calls _ _).mono ?_; rintro e w' ⟨rfl, rfl⟩)
      | (go_at_call 47; refine H.out.mono ?_; rintro e w' ⟨u, rfl, hR, hb1⟩))
    go_ret2
    exact ⟨u, by rw [hE.out]; rfl, by rw [hL.out]; exact Kd.R_lower hR (by simp), bgo (balloc (Below.refl _ _) _) hb1⟩
  · have hL : Hid (putL xs v n (highP n.toNat) = []) := Lib.hid (by unfold putL; rw [if_neg hb])
    have hc := lay_bad A xs.length c (.func (.func 62) #[] #[.pointer (some ⟨w.heap.size, 0, none⟩)]) v n (w.alloc (.cells #[.int .i64 n] 3)) v0 v1 hb
    have H := Lib.hid hc
    clear hc hr hb
    go_enter Try.func28, Try.ntmps28
    go_wp2_with (first
      | (go_at_call 51; refine (highest_calls _ _).mono ?_; rintro e w' ⟨rfl, rfl⟩)
      | (go_at_call 47; refine H.out.mono ?_; rintro e w' ⟨rfl, rfl⟩))
    go_ret2
    exact ⟨_, rfl, by rw [hL.out]; exact Kd.R_nil _ _ _ _ _, balloc (Below.refl _ _) _⟩
end Go.Proofs.Ytmecigllpdeeoaa.By
