/- number.PutVar and hamperref02.PutVar: a number in as many bytes as it needs. -/
import Derived.Test.YtmecigllpdeeoaaBy
set_option linter.unusedVariables false
namespace Go.Proofs.Ytmecigllpdeeoaa.By
open Go.RowKit Go.BigFrame Go.Proofs.Ytmecigllpdeeoaa.Reg Go.Proofs.YtmecigllpdeeoaaW.PrintWords Go.Proofs.YtmecigllpdeeoaaW.PrintLast Go.Proofs.YtmecigllpdeeoaaW.PrintMore

/-- Seven bits each, the lowest first. -/
def varF : Nat → Int → List Int
  | 0, v => [v % 256]
  | k + 1, v => if 127 < v then (v % 128 + 128) :: varF k (v / 128) else [v % 256]
theorem varF_len : ∀ k v, (varF k v).length ≤ k + 1
  | 0, v => by simp [varF]
  | k + 1, v => by
    unfold varF
    split
    · have := varF_len k (v / 128); simp; omega
    · simp
theorem varF_more : ∀ k v, 0 ≤ v → v < ((128 * 128 ^ k : Nat) : Int) → varF (k + 1) v = varF k v
  | 0, v, h0, h => by
    unfold varF
    rw [if_neg (by omega)]
  | k + 1, v, h0, h => by
    rw [show varF (k + 1 + 1) v = if 127 < v then (v % 128 + 128) :: varF (k + 1) (v / 128) else [v % 256] from rfl, show varF (k + 1) v = if 127 < v then (v % 128 + 128) :: varF k (v / 128) else [v % 256] from rfl]
    by_cases h1 : 127 < v
    · rw [if_pos h1, if_pos h1, varF_more k (v / 128) (by omega) (by rw [Nat.pow_succ] at h; push_cast at h ⊢; omega)]
    · rw [if_neg h1, if_neg h1]
def varE (v : Int) : Int := if 9223372036854775807 < v then 3 else 0
def varL (xs : List Int) (v : Int) : List Int := if 9223372036854775807 < v then [] else xs ++ varF 9 v
theorem or128 (x : Int) (h0 : 0 ≤ x) : bits .or .u8 (x % 256) 128 = x % 128 + 128 := by
  have key : ∀ n : Fin 256, bits .or .u8 ((n.val : Nat) : Int) 128 = ((n.val : Nat) : Int) % 128 + 128 := by decide +kernel
  have h := key ⟨(x % 256).toNat, by omega⟩
  have e : (((x % 256).toNat : Nat) : Int) = x % 256 := by omega
  dsimp only at h
  rw [e] at h
  rw [h]
  omega
set_option maxHeartbeats 2000000 in
theorem putVar_ok (A : Option Addr) (c : Nat) (xs : List Int) (v : Int) (w : World) (hr : (Kd.int .u8).C w A xs.length xs) (hl : xs.length ≤ 140737488355310) (v0 : 0 ≤ v) (v1 : v ≤ 9223372036854775807) :
    Calls Try.prog 29 #[.slice A xs.length c, .int .u64 v] w fun e w' => ∃ u, e = .returned (.tuple #[u, .int .i64 0]) ∧ (Kd.int .u8).R 5 w' w.heap.size (fun _ => True) u (xs ++ varF 9 v) ∧ Below w.heap.size w w' := by
  have hc1 := clone_any A xs.length c xs w hr (by omega)
  have H1 := Lib.hid hc1; clear hc1 hr
  go_enter Try.func29, Try.ntmps29
  go_wp2_with (first
    | (go_at_call 52; refine H1.out.mono ?_; rintro e w1 ⟨u, rfl, hR, hb1⟩))
  have HR := Lib.hid hR; clear hR
  go_loopw [1, 6] (fun x a wr => ∃ (y : Int) (k : Nat) (u : Value) (pre : List Int), x = .int .u64 y ∧ a = u ∧ 0 ≤ y ∧ y ≤ v ∧ pre.length ≤ 9 ∧ Hid (pre.length + k = 9) ∧ Hid (y < ((128 * 128 ^ k : Nat) : Int)) ∧ Hid (pre ++ varF k y = varF 9 v) ∧ Hid ((Kd.int .u8).R 5 wr w.heap.size (fun _ => True) u (xs ++ pre)) ∧ Below w.heap.size w wr) (fun x _ _ => (intOf x).toNat)
  case atStart =>
    have hbig : (((128 * 128 ^ 9 : Nat)) : Int) = 1180591620717411303424 := by decide
    exact ⟨v, 9, u, [], rfl, rfl, v0, by omega, by simp, Lib.hid (by simp), Lib.hid (by rw [hbig]; omega), Lib.hid (by simp), Lib.hid (by simpa using HR.out), hb1⟩
  case round =>
    obtain ⟨y, k, u2, pre, rfl, rfl, y0, y1, hp, hk, hy, hv, HR2, hbr⟩ := hrel
    have hlen : (xs ++ pre).length + 1 ≤ 140737488355328 := by rw [List.length_append]; omega
    by_cases hlt : 127 < y
    · go_wp2_with (at_builtin; refine Kd.R_append (Kd.int .u8) (w0 := w) w.heap.size rfl (.tmp 15) (.tmp 19) 35 5 (.int .u8 0) 1 rfl Try.underlying35 infoB rfl (by decide) (by omega) _ _ _ _ (fun _ => True) (fun _ => False) rfl rfl rfl (fun _ hk => hk.elim) (fun _ _ => trivial) HR2.out hbr hbr.size (by rw [Nat.mul_one]; exact hlen) ?_; intro v1 w1 hR1 hb1 hg1 hat1)
      go_roundw
      case rel =>
        obtain ⟨k, rfl⟩ : ∃ j, k = j + 1 := by
          rcases k with _ | k
          · have h := hy.out
            simp at h
            omega
          · exact ⟨k, rfl⟩
        have hstep : varF (k + 1) y = (y % 128 + 128) :: varF k (y / 128) := by
          rw [show varF (k + 1) y = if 127 < y then (y % 128 + 128) :: varF k (y / 128) else [y % 256] from rfl, if_pos hlt]
        have hy2 : y / 128 < ((128 * 128 ^ k : Nat) : Int) := by
          have h := hy.out
          rw [Nat.pow_succ] at h
          push_cast at h ⊢
          omega
        have hpre : (pre ++ [bits .or .u8 (y % 256) 128]) ++ varF k (y / 128) = varF 9 v := by
          rw [or128 y y0, List.append_assoc, List.singleton_append, ← hstep]
          exact hv.out
        have hk2 := hk.out
        exact ⟨y / 128, k, v1, pre ++ [bits .or .u8 (y % 256) 128], rfl, rfl, by omega, by omega, by rw [List.length_append, List.length_singleton]; omega, Lib.hid (by rw [List.length_append, List.length_singleton]; omega), Lib.hid hy2, Lib.hid hpre, Lib.hid (by rw [← List.append_assoc]; exact hR1), hb1⟩
      case measure => simp [intOf]; omega
    · go_wp2_with (at_builtin; refine Kd.R_append (Kd.int .u8) (w0 := w) w.heap.size rfl (.tmp 21) (.tmp 24) 35 5 (.int .u8 0) 1 rfl Try.underlying35 infoB rfl (by decide) (by omega) _ _ _ _ (fun _ => True) (fun _ => False) rfl rfl rfl (fun _ hk => hk.elim) (fun _ _ => trivial) HR2.out hbr hbr.size (by rw [Nat.mul_one]; exact hlen) ?_; intro v1 w1 hR1 hb1 hg1 hat1)
      go_ret2
      have hfin : varF k y = [y] := by
        rcases k with _ | k
        · show [y % 256] = [y]
          rw [Int.emod_eq_of_lt (by omega) (by omega)]
        · rw [show varF (k + 1) y = if 127 < y then (y % 128 + 128) :: varF k (y / 128) else [y % 256] from rfl, if_neg (by omega), Int.emod_eq_of_lt (by omega) (by omega)]
      exact ⟨v1, rfl, by rw [← hv.out, hfin, ← List.append_assoc]; exact hR1, hb1⟩
theorem putVar_any (A : Option Addr) (c : Nat) (xs : List Int) (v : Int) (w : World) (hr : (Kd.int .u8).C w A xs.length xs) (hl : xs.length ≤ 140737488355310) (v0 : 0 ≤ v) (v1 : v ≤ 18446744073709551615) :
    Calls Try.prog 29 #[.slice A xs.length c, .int .u64 v] w fun e w' => ∃ u, e = .returned (.tuple #[u, .int .i64 (varE v)]) ∧ (Kd.int .u8).R 5 w' w.heap.size (fun _ => True) u (varL xs v) ∧ Below w.heap.size w w' := by
  by_cases h : 9223372036854775807 < v
  · have hE : Hid (varE v = 3) := Lib.hid (by unfold varE; rw [if_pos h])
    have hL : Hid (varL xs v = []) := Lib.hid (by unfold varL; rw [if_pos h])
    clear hr
    go_enter Try.func29, Try.ntmps29
    go_wp2
    go_ret2
    exact ⟨_, by rw [hE.out]; rfl, by rw [hL.out]; exact Kd.R_nil _ _ _ _ _, Below.refl _ _⟩
  · have hE : varE v = 0 := by unfold varE; rw [if_neg h]
    have hL : varL xs v = xs ++ varF 9 v := by unfold varL; rw [if_neg h]
    rw [hE, hL]
    exact putVar_ok A c xs v w hr hl v0 (by omega)
end Go.Proofs.Ytmecigllpdeeoaa.By
