/- hamperref02.PutVar walked; hamperref02.Put and hamperlaw02.behind out of the print. -/
import Derived.Test.YtmecigllpdeeoaaByVar
import Derived.Test.YtmecigllpdeeoaaBehind
set_option linter.unusedVariables false
namespace Go.Proofs.Ytmecigllpdeeoaa.By
open Go.RowKit Go.BigFrame Go.Proofs.Ytmecigllpdeeoaa.Reg Go.Proofs.YtmecigllpdeeoaaW.PrintWords Go.Proofs.YtmecigllpdeeoaaW.PrintLast Go.Proofs.YtmecigllpdeeoaaW.PrintMore

set_option maxHeartbeats 2000000 in
theorem refVar_ok (v : Int) (w : World) (v0 : 0 ≤ v) (v1 : v ≤ 9223372036854775807) :
    Calls Try.prog 30 #[.int .u64 v] w fun e w' => ∃ u, e = .returned (.tuple #[u, .int .i64 0]) ∧ (Kd.int .u8).R 5 w' w.heap.size (fun _ => True) u (varF 9 v) ∧ Below w.heap.size w w' := by
  have hsh : (v / 9223372036854775808 != 0) = false := by
    rw [show v / 9223372036854775808 = 0 by omega]
    rfl
  go_enter Try.func30, Try.ntmps30
  go_wp2
  go_loopw [0, 4] (fun x a wr => ∃ (y : Int) (k : Nat) (u : Value) (pre : List Int), x = .int .u64 y ∧ a = u ∧ 0 ≤ y ∧ y ≤ v ∧ pre.length ≤ 9 ∧ Hid (pre.length + k = 9) ∧ Hid (y < ((128 * 128 ^ k : Nat) : Int)) ∧ Hid (pre ++ varF k y = varF 9 v) ∧ Hid ((Kd.int .u8).R 5 wr w.heap.size (fun _ => True) u pre) ∧ Below w.heap.size w wr) (fun x _ _ => (intOf x).toNat)
  case atStart =>
    have hbig : (((128 * 128 ^ 9 : Nat)) : Int) = 1180591620717411303424 := by decide
    exact ⟨v, 9, _, [], rfl, rfl, v0, by omega, by simp, Lib.hid (by simp), Lib.hid (by rw [hbig]; omega), Lib.hid (by simp), Lib.hid (Kd.R_nil _ _ _ _ _), Below.refl _ _⟩
  case round =>
    obtain ⟨y, k, u2, pre, rfl, rfl, y0, y1, hp, hk, hy, hv, HR2, hbr⟩ := hrel
    have hlen : pre.length + 1 ≤ 140737488355328 := by omega
    by_cases hlt : 128 ≤ y
    · go_wp2_with (at_builtin; refine Kd.R_append (Kd.int .u8) (w0 := w) w.heap.size rfl (.tmp 10) (.tmp 15) 35 5 (.int .u8 0) 1 rfl Try.underlying35 infoB rfl (by decide) (by omega) _ _ _ _ (fun _ => True) (fun _ => False) rfl rfl rfl (fun _ hk => hk.elim) (fun _ _ => trivial) HR2.out hbr hbr.size (by rw [Nat.mul_one]; exact hlen) ?_; intro v1 w1 hR1 hb1 hg1 hat1)
      go_roundw
      case rel =>
        obtain ⟨k, rfl⟩ : ∃ j, k = j + 1 := by
          rcases k with _ | k
          · have h := hy.out
            simp at h
            omega
          · exact ⟨k, rfl⟩
        have hstep : varF (k + 1) y = (y % 128 + 128) :: varF k (y / 128) := by
          rw [show varF (k + 1) y = if 127 < y then (y % 128 + 128) :: varF k (y / 128) else [y % 256] from rfl, if_pos (by omega)]
        have hy2 : y / 128 < ((128 * 128 ^ k : Nat) : Int) := by
          have h := hy.out
          rw [Nat.pow_succ] at h
          push_cast at h ⊢
          omega
        have hpre : (pre ++ [y % 128 + 128]) ++ varF k (y / 128) = varF 9 v := by
          rw [List.append_assoc, List.singleton_append, ← hstep]
          exact hv.out
        have hk2 := hk.out
        exact ⟨y / 128, k, v1, pre ++ [y % 128 + 128], rfl, rfl, by omega, by omega, by rw [List.length_append, List.length_singleton]; omega, Lib.hid (by rw [List.length_append, List.length_singleton]; omega), Lib.hid hy2, Lib.hid hpre, Lib.hid hR1, hb1⟩
      case measure => simp [intOf]; omega
    · go_wp2_with (at_builtin; refine Kd.R_append (Kd.int .u8) (w0 := w) w.heap.size rfl (.tmp 19) (.tmp 22) 35 5 (.int .u8 0) 1 rfl Try.underlying35 infoB rfl (by decide) (by omega) _ _ _ _ (fun _ => True) (fun _ => False) rfl rfl rfl (fun _ hk => hk.elim) (fun _ _ => trivial) HR2.out hbr hbr.size (by rw [Nat.mul_one]; exact hlen) ?_; intro v1 w1 hR1 hb1 hg1 hat1)
      go_ret2
      have hfin : varF k y = [y] := by
        rcases k with _ | k
        · show [y % 256] = [y]
          rw [Int.emod_eq_of_lt (by omega) (by omega)]
        · rw [show varF (k + 1) y = if 127 < y then (y % 128 + 128) :: varF k (y / 128) else [y % 256] from rfl, if_neg (by omega), Int.emod_eq_of_lt (by omega) (by omega)]
      exact ⟨v1, rfl, by rw [← hv.out, hfin]; exact hR1, hb1⟩
theorem refVar_any (v : Int) (w : World) (v0 : 0 ≤ v) (v1 : v ≤ 18446744073709551615) :
    Calls Try.prog 30 #[.int .u64 v] w fun e w' => ∃ u, e = .returned (.tuple #[u, .int .i64 (varE v)]) ∧ (Kd.int .u8).R 5 w' w.heap.size (fun _ => True) u (varL [] v) ∧ Below w.heap.size w w' := by
  by_cases h : 9223372036854775807 < v
  · have hE : Hid (varE v = 3) := Lib.hid (by unfold varE; rw [if_pos h])
    have hL : Hid (varL [] v = []) := Lib.hid (by unfold varL; rw [if_pos h])
    have hsh : (v / 9223372036854775808 != 0) = true := by
      rw [show v / 9223372036854775808 = 1 by omega]
      rfl
    go_enter Try.func30, Try.ntmps30
    go_wp2
    go_ret2
    exact ⟨_, by rw [hE.out]; rfl, by rw [hL.out]; exact Kd.R_nil _ _ _ _ _, Below.refl _ _⟩
  · have hE : varE v = 0 := by unfold varE; rw [if_neg h]
    have hL : varL [] v = varF 9 v := by unfold varL; rw [if_neg h]; rfl
    rw [hE, hL]
    exact refVar_ok v w v0 (by omega)

/-! ### ref.Put -/
open Go.Proofs.Ytmecigllpdeeoaa.PPut
theorem wrapu (x : Int) (h0 : 0 ≤ x) (h1 : x ≤ 18446744073709551615) : IntKind.u64.wrap x = x := by
  simp only [IntKind.wrap, IntKind.bits, IntKind.signed, Bool.false_and, Bool.false_eq_true, if_false]
  exact Int.emod_eq_of_lt h0 (by omega)
theorem wrap64_id (x : Int) (h0 : -9223372036854775808 ≤ x) (h1 : x ≤ 9223372036854775807) : wrap64 x = x := by unfold wrap64; omega
theorem pow_pos' (j : Nat) : (0 : Int) < 2 ^ j := by
  have h := Nat.two_pow_pos j
  have : ((2 ^ j : Nat) : Int) = (2 : Int) ^ j := by push_cast; rfl
  omega
theorem bytes_l (v n : Int) (v0 : 0 ≤ v) (v1 : v ≤ 18446744073709551615) (n1 : n ≤ 8) : ∀ (k i : Nat), (i : Int) ≤ n → n - i < k → hamperref02_Bytes.l0 k (v / 2 ^ (8 * i)) n (laid v lowP i) i = some (laid v lowP n.toNat)
  | 0, i, hi, hk => by omega
  | k + 1, i, hi, hk => by
    have hy0 : 0 ≤ v / 2 ^ (8 * i) := Int.ediv_nonneg v0 (Int.le_of_lt (pow_pos' _))
    have hy1 : v / 2 ^ (8 * i) ≤ v := Int.ediv_le_self _ v0
    rw [hamperref02_Bytes.l0]
    by_cases h : (i : Int) < n
    · rw [if_pos h, if_pos (by rw [laid_len]; omega), Int.tdiv_eq_ediv_of_nonneg hy0, wrapu _ (by omega) (by omega), wrap64_id _ (by omega) (by omega)]
      have h1 : v / 2 ^ (8 * i) / 256 = v / 2 ^ (8 * (i + 1)) := by
        rw [Int.ediv_ediv_of_nonneg (Int.le_of_lt (pow_pos' _)), Nat.mul_add, Int.pow_add]
        rfl
      have h2 : laid v lowP i ++ [v / 2 ^ (8 * i) % 256] = laid v lowP (i + 1) := by rw [laid_succ]; rfl
      rw [h1, h2]
      have := bytes_l v n v0 v1 n1 k (i + 1) (by omega) (by omega)
      exact_mod_cast this
    · rw [if_neg h, show n.toNat = i by omega]
theorem turned_l (xs : List Int) (hl : xs.length < 140737488355328) : ∀ (k j : Nat), j ≤ xs.length → j < k → hamperref02_Turned.l0 k xs (xs.drop j).reverse ((j : Int) - 1) = some xs.reverse
  | 0, j, hj, hk => by omega
  | k + 1, 0, hj, hk => by
    rw [hamperref02_Turned.l0, if_neg (by omega)]
    rfl
  | k + 1, j + 1, hj, hk => by
    rw [hamperref02_Turned.l0, if_pos (by omega), if_pos (by omega), if_pos (by omega), if_pos (by rw [List.length_reverse, List.length_drop]; omega), wrap64_id _ (by omega) (by omega)]
    have h1 : (xs.drop (j + 1)).reverse ++ [rd xs (((j + 1 : Nat) : Int) - 1)] = (xs.drop j).reverse := by
      have hd : xs.drop j = xs[j]'(by omega) :: xs.drop (j + 1) := List.drop_eq_getElem_cons (by omega)
      have hr : rd xs (((j + 1 : Nat) : Int) - 1) = xs[j]'(by omega) := by
        unfold rd
        rw [show (((j + 1 : Nat) : Int) - 1).toNat = j by omega, List.getD_eq_getElem?_getD, List.getElem?_eq_getElem (by omega)]
        rfl
      rw [hd, List.reverse_cons, hr]
    rw [h1, show ((j + 1 : Nat) : Int) - 1 - 1 = (j : Int) - 1 by omega]
    exact turned_l xs hl k j (by omega) (by omega)
theorem laid_rev (v : Int) (n : Nat) : (laid v lowP n).reverse = laid v (highP n) n := by
  apply List.ext_getElem
  · rw [List.length_reverse, laid_len, laid_len]
  · intro i h1 h2
    rw [List.getElem_reverse]
    simp [laid, lowP, highP]
def putP (n : Int) (b : Bool) : Nat → Nat := if b then highP n.toNat else lowP
theorem put_f (v n : Int) (b : Bool) (v0 : 0 ≤ v) (v1 : v ≤ 18446744073709551615) : hamperref02_Put.f 12 v n b = some (putL [] v n (putP n b), putE v n) := by
  have hj1 : 1 ≤ n → n ≤ 8 → v < ((2 ^ (8 * n.toNat) : Nat) : Int) → hamperref02_Put.j1 11 v n b false = some (putL [] v n (putP n b), putE v n) := by
    intro h1 h2 h3
    have hE : putE v n = 0 := by unfold putE; rw [if_neg (by omega), if_neg (by omega)]
    have hL : putL [] v n (putP n b) = laid v (putP n b) n.toNat := by unfold putL; rw [if_pos hE]; rfl
    have hB : hamperref02_Bytes.f 10 v n = some (laid v lowP n.toNat) := by
      have h := bytes_l v n v0 v1 h2 10 0 (by omega) (by omega)
      simpa [hamperref02_Bytes.f, laid] using h
    have hT : hamperref02_Turned.f 10 (laid v lowP n.toNat) = some (laid v (highP n.toNat) n.toNat) := by
      have h := turned_l (laid v lowP n.toNat) (by rw [laid_len]; omega) 10 n.toNat (by rw [laid_len]; omega) (by omega)
      unfold hamperref02_Turned.f
      rw [wrap64_id _ (by rw [laid_len]; omega) (by rw [laid_len]; omega), laid_len]
      rw [List.drop_of_length_le (by rw [laid_len]; omega), laid_rev] at h
      exact h
    rw [hamperref02_Put.j1, if_neg (by simp), hB, Option.bind_some, hE, hL]
    cases b
    · rfl
    · rw [if_pos rfl, hT]
      rfl
  unfold hamperref02_Put.f
  by_cases h1 : n < 1
  · rw [if_pos h1, hamperref02_Put.j0, if_pos rfl]
    have hE : putE v n = 2 := by unfold putE; rw [if_pos (.inl h1)]
    unfold putL
    rw [hE, if_neg (by omega)]
  rw [if_neg h1]
  by_cases h2 : n > 8
  · rw [hamperref02_Put.j0, if_pos (by simpa using h2)]
    have hE : putE v n = 2 := by unfold putE; rw [if_pos (.inr h2)]
    unfold putL
    rw [hE, if_neg (by omega)]
  rw [hamperref02_Put.j0, if_neg (by simpa using h2)]
  by_cases h3 : n < 8
  · rw [if_pos h3, wrap64_id _ (by omega) (by omega), wrapu _ (by omega) (by omega), if_pos (by omega)]
    have hs : shr .u64 v (8 * n) = v / ((2 ^ (8 * n.toNat) : Nat) : Int) := by
      unfold shr
      rw [show min (8 * n).toNat IntKind.u64.bits = 8 * n.toNat from by
        rw [Nat.min_eq_left (by simp only [IntKind.bits]; omega)]
        omega]
      push_cast
      rfl
    rw [hs]
    have hpos := Nat.two_pow_pos (8 * n.toNat)
    generalize hp : 2 ^ (8 * n.toNat) = p at *
    by_cases h4 : (p : Int) ≤ v
    · have : v / (p : Int) ≠ 0 := by
        have h5 : 1 ≤ v / (p : Int) := Int.le_ediv_of_mul_le (by omega) (by omega)
        omega
      rw [show (v / (p : Int) != 0) = true from bne_iff_ne.2 this, hamperref02_Put.j1, if_pos rfl]
      have hE : putE v n = 3 := by unfold putE; rw [if_neg (by omega), hp, if_pos h4]
      unfold putL
      rw [hE, if_neg (by omega)]
    · have : v / (p : Int) = 0 := Int.ediv_eq_zero_of_lt v0 (by omega)
      rw [this]
      exact hj1 (by omega) (by omega) (by omega)
  · rw [if_neg h3]
    have h8 : n = 8 := by omega
    subst h8
    exact hj1 (by omega) (by omega) (by
      have : (((2 ^ (8 * (8 : Int).toNat) : Nat)) : Int) = 18446744073709551616 := by decide
      omega)
theorem refPut_any (v n : Int) (b : Bool) (w : World) (v0 : 0 ≤ v) (v1 : v ≤ 18446744073709551615) :
    Calls Try.prog 26 #[.int .u64 v, .int .i64 n, .bool b] w fun e w' => ∃ u, e = .returned (.tuple #[u, .int .i64 (putE v n)]) ∧ (Kd.int .u8).R 5 w' w.heap.size (fun _ => True) u (putL [] v n (putP n b)) ∧ Below w.heap.size w w' :=
  hamperref02_Put.calls 12 v n b _ _ w (put_f v n b v0 v1)

/-! ### behind -/
open Go.Proofs.Ytmecigllpdeeoaa.Behind
theorem behind_l (ys : List Int) (s : ByteArray) : ∀ (k i : Nat) (xs : List Int), xs.length ≤ 140737488355328 → i ≤ xs.length → xs.length - i < k → ∃ r, hamperlaw02_behind.l0 k xs ys s (i : Int) = some ((strOfNums ys).toList == s.toList, r)
  | 0, i, xs, hl, hi, hk => by omega
  | k + 1, i, xs, hl, hi, hk => by
    rw [hamperlaw02_behind.l0]
    by_cases h : i < xs.length
    · rw [if_pos (by omega), if_pos (by omega), wrap64_id _ (by omega) (by omega)]
      have := behind_l ys s k (i + 1) (xs.set (i : Int).toNat ((rd xs i + 1) % 256)) (by rw [List.length_set]; exact hl) (by rw [List.length_set]; omega) (by rw [List.length_set]; omega)
      rw [show (i : Int) + 1 = ((i + 1 : Nat) : Int) by omega]
      exact this
    · rw [if_neg (by omega)]
      exact ⟨_, rfl⟩
theorem behind_f (bs ws : List Int) (e : Int) (hb : bs.length ≤ 140737488355310) (hw : ws.length ≤ 10) : ∃ k r, hamperlaw02_behind.f k (if e = 0 then bs ++ ws else []) (if e = 0 then bs ++ ws else []) e bs ws e = some (true, r) := by
  by_cases h : e = 0
  · rw [if_pos h]
    obtain ⟨r, hr⟩ := behind_l (bs ++ ws) (strOfNums bs ++ strOfNums ws) ((bs ++ ws).length + 1) 0 (bs ++ ws) (by rw [List.length_append]; omega) (by omega) (by omega)
    have hs0 : strOfNums (bs ++ ws) = strOfNums bs ++ strOfNums ws := by
      unfold strOfNums
      rw [List.map_append]
      apply ByteArray.ext
      simp [ByteArray.data_append]
    have hs : (strOfNums (bs ++ ws)).toList = (strOfNums bs ++ strOfNums ws).toList := by rw [hs0]
    have hsz : ∀ l : List Int, (strOfNums l).size = l.length := fun l => by simp [strOfNums, ByteArray.size]
    have hz : (strOfNums bs).size + (strOfNums ws).size ≤ 9223372036854775807 := by
      rw [hsz, hsz]
      omega
    refine ⟨(bs ++ ws).length + 2, r, ?_⟩
    unfold hamperlaw02_behind.f
    rw [if_pos rfl, if_pos h, if_pos hz, hamperlaw02_behind.j0, if_pos hs]
    rw [hs, beq_self_eq_true] at hr
    exact hr
  · rw [if_neg h]
    obtain ⟨r, hr⟩ := behind_l [] (⟨#[]⟩ : ByteArray) 1 0 [] (by simp) (by simp) (by simp)
    refine ⟨2, r, ?_⟩
    unfold hamperlaw02_behind.f
    rw [if_pos rfl, if_neg h, hamperlaw02_behind.j0, if_pos (show (strOfNums []).toList = (⟨#[]⟩ : ByteArray).toList from by rw [show (strOfNums [] : ByteArray) = ⟨#[]⟩ from rfl])]
    have hs : ((strOfNums []).toList == (⟨#[]⟩ : ByteArray).toList) = true := by
      rw [show (strOfNums [] : ByteArray) = ⟨#[]⟩ from rfl]
      exact beq_self_eq_true _
    rw [hs] at hr
    exact hr
theorem behind_of (wa wb wc wd : World) (x y z : Value) (bs ws : List Int) (e : Int) (A : Option Addr) (c : Nat)
    (hx : (Kd.int .u8).R 5 wb wa.heap.size (fun _ => True) x (if e = 0 then bs ++ ws else [])) (hab : Below wa.heap.size wa wb)
    (hy : (Kd.int .u8).R 5 wc wb.heap.size (fun _ => True) y (if e = 0 then bs ++ ws else [])) (hbc : Below wb.heap.size wb wc)
    (hz : (Kd.int .u8).R 5 wd wc.heap.size (fun _ => True) z ws) (hcd : Below wc.heap.size wc wd)
    (hC : (Kd.int .u8).C wa A bs.length bs) (hc : bs.length ≤ c) (hb : bs.length ≤ 140737488355310) (hw : ws.length ≤ 10) :
    Calls Try.prog 27 #[x, y, .int .i64 e, .slice A bs.length c, z, .int .i64 e] wd fun E w' => E = .returned (.bool true) ∧ Below wa.heap.size wa w' := by
  obtain ⟨k, r, hf⟩ := behind_f bs ws e hb hw
  generalize hall : (if e = 0 then bs ++ ws else []) = all at *
  obtain ⟨Ay, cy, rfl, hcy, hCy⟩ := Kd.R_reads hy
  obtain ⟨Az, cz, rfl, hcz, hCz⟩ := Kd.R_reads hz
  have hbd : Below wa.heap.size wa wd := hab.trans ((hbc.trans (hcd.mono hbc.size)).mono hab.size)
  have hX : (Kd.int .u8).R 5 wd wa.heap.size (fun k => k < wb.heap.size) x all := Kd.R_mono (Kd.R_below (Kd.R_bound hx) (hbc.trans (hcd.mono hbc.size))) (fun k hk => hk.2.2.1)
  have hY : (Kd.int .u8).R 5 wd wb.heap.size (fun k => wb.heap.size ≤ k) (.slice Ay all.length cy) all := Kd.R_mono (Kd.R_below (Kd.R_bound hy) hcd) (fun k hk => hk.2.1)
  have hZ : (Kd.int .u8).R 5 wd wc.heap.size (fun k => wc.heap.size ≤ k) (.slice Az ws.length cz) ws := Kd.R_mono (Kd.R_bound hz) (fun k hk => hk.2.1)
  have h := hamperlaw02_behind.calls k (fun k => wa.heap.size ≤ k ∧ k < wb.heap.size) x all Ay cy all e A c bs Az cz ws e true r wa wd hbd
    (by
      have := Kd.R_bound hX
      exact Kd.R_mono this (fun k hk => ⟨hk.2.1, hk.1⟩))
    (Kd.C_kept_own hY (fun k hk hn => by omega)) hcy
    (Kd.C_kept_came (Kd.heap_int _) hC hbd (fun k hk => hk.1)) hc
    (Kd.C_kept_own hZ (fun k hk hn => by have := hbc.size; omega)) hcz hf
  exact h.mono fun E w' ⟨a, _, b, _⟩ => ⟨a, b⟩
end Go.Proofs.Ytmecigllpdeeoaa.By
