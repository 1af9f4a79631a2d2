/- hamperlaw02.NumberOctals walked. -/
import Derived.Test.YtfnncfgdlinmcaaDoorOctQ
import Derived.Test.YtfnncfgdlinmcaaDoorOctE
import Derived.Test.YtfnncfgdlinmcaaDoorPNumberOctalsx3
import Derived.Lib.SliceRun
set_option linter.unusedVariables false
set_option linter.unusedSimpArgs false
namespace Go.Proofs.YtfnncfgdlinmcaaDoor.Oct
open Go.RowKit Go.BigFrame Go.Proofs.YtfnncfgdlinmcaaDoor.Reg Go.Proofs.YtfnncfgdlinmcaaDoorW.PrintWords Go.Proofs.YtfnncfgdlinmcaaDoorW.PrintLast Go.Proofs.YtfnncfgdlinmcaaDoorW.PrintMore
open Go.Proofs.YtfnncfgdlinmcaaDoor.PNumberOctals
theorem behind_l (ys : List Int) (s : ByteArray) : ∀ (k i : Nat) (xs : List Int), xs.length ≤ 140737488355328 → i ≤ xs.length → xs.length - i < k → ∃ r, hamperlaw02_behind.l0 k xs ys s (i : Int) = some ((strOfNums ys).toList == s.toList, r)
  | 0, i, xs, hl, hi, hk => by omega
  | k + 1, i, xs, hl, hi, hk => by
    rw [hamperlaw02_behind.l0]
    by_cases h : i < xs.length
    · rw [if_pos (by omega), if_pos (by omega), wrap_in _ (by omega) (by omega)]
      have := behind_l ys s k (i + 1) (xs.set (i : Int).toNat ((rd xs i + 1) % 256)) (by rw [List.length_set]; exact hl) (by rw [List.length_set]; omega) (by rw [List.length_set]; omega)
      rw [show (i : Int) + 1 = ((i + 1 : Nat) : Int) by omega]
      exact this
    · rw [if_neg (by omega)]
      exact ⟨_, rfl⟩
theorem behind_f (bs ws : List Int) (e : Int) (hb : bs.length ≤ 140737488355200) (hw : ws.length ≤ 64) : ∃ k r, hamperlaw02_behind.f k (if e = 0 then bs ++ ws else []) (if e = 0 then bs ++ ws else []) e bs ws e = some (true, r) := by
  by_cases h : e = 0
  · rw [if_pos h]
    obtain ⟨r, hr⟩ := behind_l (bs ++ ws) (strOfNums bs ++ strOfNums ws) ((bs ++ ws).length + 1) 0 (bs ++ ws) (by rw [List.length_append]; omega) (by omega) (by omega)
    have hs0 : strOfNums (bs ++ ws) = strOfNums bs ++ strOfNums ws := by
      unfold strOfNums
      rw [List.map_append]
      apply ByteArray.ext
      simp [ByteArray.data_append]
    have hs : (strOfNums (bs ++ ws)).toList = (strOfNums bs ++ strOfNums ws).toList := by rw [hs0]
    have hsz : ∀ l : List Int, (strOfNums l).size = l.length := fun l => by simp [strOfNums, ByteArray.size]
    have hz : (strOfNums bs).size + (strOfNums ws).size ≤ 9223372036854775807 := by
      rw [hsz, hsz]
      omega
    refine ⟨(bs ++ ws).length + 2, r, ?_⟩
    unfold hamperlaw02_behind.f
    rw [if_pos rfl, if_pos h, if_pos hz, hamperlaw02_behind.j0, if_pos hs]
    rw [hs, beq_self_eq_true] at hr
    exact hr
  · rw [if_neg h]
    obtain ⟨r, hr⟩ := behind_l [] (⟨#[]⟩ : ByteArray) 1 0 [] (by simp) (by simp) (by simp)
    refine ⟨2, r, ?_⟩
    unfold hamperlaw02_behind.f
    rw [if_pos rfl, if_neg h, hamperlaw02_behind.j0, if_pos (show (strOfNums []).toList = (⟨#[]⟩ : ByteArray).toList from by rw [show (strOfNums [] : ByteArray) = ⟨#[]⟩ from rfl])]
    have hs : ((strOfNums []).toList == (⟨#[]⟩ : ByteArray).toList) = true := by
      rw [show (strOfNums [] : ByteArray) = ⟨#[]⟩ from rfl]
      exact beq_self_eq_true _
    rw [hs] at hr
    exact hr
theorem behind_of (wa wb wc wd : World) (x y z : Value) (bs ws : List Int) (e : Int) (A : Option Addr) (c : Nat)
    (hx : (Kd.int .u8).R 5 wb wa.heap.size (fun _ => True) x (if e = 0 then bs ++ ws else [])) (hab : Below wa.heap.size wa wb)
    (hy : (Kd.int .u8).R 5 wc wb.heap.size (fun _ => True) y (if e = 0 then bs ++ ws else [])) (hbc : Below wb.heap.size wb wc)
    (hz : (Kd.int .u8).R 5 wd wc.heap.size (fun _ => True) z ws) (hcd : Below wc.heap.size wc wd)
    (hC : (Kd.int .u8).C wa A bs.length bs) (hc : bs.length ≤ c) (hb : bs.length ≤ 140737488355200) (hw : ws.length ≤ 64) :
    Calls Tryd.prog 10 #[x, y, .int .i64 e, .slice A bs.length c, z, .int .i64 e] wd fun E w' => E = .returned (.bool true) ∧ Below wa.heap.size wa w' := by
  obtain ⟨k, r, hf⟩ := behind_f bs ws e hb hw
  generalize hall : (if e = 0 then bs ++ ws else []) = all at *
  obtain ⟨Ay, cy, rfl, hcy, hCy⟩ := Kd.R_reads hy
  obtain ⟨Az, cz, rfl, hcz, hCz⟩ := Kd.R_reads hz
  have hbd : Below wa.heap.size wa wd := hab.trans ((hbc.trans (hcd.mono hbc.size)).mono hab.size)
  have hX : (Kd.int .u8).R 5 wd wa.heap.size (fun k => k < wb.heap.size) x all := Kd.R_mono (Kd.R_below (Kd.R_bound hx) (hbc.trans (hcd.mono hbc.size))) (fun k hk => hk.2.2.1)
  have hY : (Kd.int .u8).R 5 wd wb.heap.size (fun k => wb.heap.size ≤ k) (.slice Ay all.length cy) all := Kd.R_mono (Kd.R_below (Kd.R_bound hy) hcd) (fun k hk => hk.2.1)
  have hZ : (Kd.int .u8).R 5 wd wc.heap.size (fun k => wc.heap.size ≤ k) (.slice Az ws.length cz) ws := Kd.R_mono (Kd.R_bound hz) (fun k hk => hk.2.1)
  have h := hamperlaw02_behind.calls k (fun k => wa.heap.size ≤ k ∧ k < wb.heap.size) x all Ay cy all e A c bs Az cz ws e true r wa wd hbd
    (by
      have := Kd.R_bound hX
      exact Kd.R_mono this (fun k hk => ⟨hk.2.1, hk.1⟩))
    (Kd.C_kept_own hY (fun k hk hn => by omega)) hcy
    (Kd.C_kept_came (Kd.heap_int _) hC hbd (fun k hk => hk.1)) hc
    (Kd.C_kept_own hZ (fun k hk hn => by have := hbc.size; omega)) hcz hf
  exact h.mono fun E w' ⟨a, _, b, _⟩ => ⟨a, b⟩

theorem own_made (w : World) (base : Nat) (ok : Nat → Prop) (hb : base ≤ w.heap.size) (hok : ∀ k, w.heap.size ≤ k → ok k) :
    (Kd.int .u8).R 5 (w.alloc (.cells #[] 5)) base ok (.slice (some ⟨w.heap.size, 0, none⟩) 0 0) [] :=
  Kd.R_of_own (by simpa [encs] using World.ownsRow_made w #[] 0 hb (by simp [maxLen]) (by simp)) (fun k hk => hok k (by simp [Value.ownBlock] at hk; omega))
theorem names_calls (w : World) : Calls Tryd.prog 11 #[] w fun e w' => e = .returned (.bool true) ∧ w = w' := by
  go_enter Tryd.func11, Tryd.ntmps11
  go_wp2
  go_ret
  exact ⟨rfl, rfl⟩
theorem octP_all (v n : Int) : (if (octP v n).2 = 0 then [] ++ (octP v n).1 else []) = (octP v n).1 := by
  unfold octP
  split
  · rfl
  · split <;> rfl
theorem octP_len (v n : Int) : (octP v n).1.length ≤ 64 := by
  unfold octP
  split
  · simp
  · split
    · simp
    · simp only [List.length_append, List.length_replicate, List.length_singleton]
      omega
def IsRow (k : IntKind) (w : World) (a : Option Addr) (len cap : Nat) (zs : List Int) : Prop :=
  (a = none ∧ len = 0 ∧ cap = 0 ∧ zs = []) ∨
  ∃ x, a = some x ∧ len ≤ cap ∧ cap ≤ maxLen ∧ zs.length = cap ∧ (∀ i, i < zs.length → w.cell? (x.add i) = some (.int k (zs.getD i 0))) ∧ ∀ n ∈ zs, (Lit.int k n).wf = true
theorem IsRow.reads {k : IntKind} {w : World} {a : Option Addr} {len cap : Nat} {zs : List Int} (h : IsRow k w a len cap zs) (hl : len ≤ 140737488355328) : (Kd.int k).C w a (zs.take len).length (zs.take len) ∧ len = (zs.take len).length ∧ (zs.take len).length ≤ cap := by
  rcases h with ⟨rfl, rfl, rfl, rfl⟩ | ⟨x, rfl, h1, h2, h3, h4, h5⟩
  · exact ⟨⟨rfl, by simp, fun h => absurd h (by simp)⟩, rfl, by simp⟩
  · have hlen : (zs.take len).length = len := by rw [List.length_take]; omega
    refine ⟨?_, hlen.symm, by omega⟩
    rw [hlen]
    refine Kd.C_of_reads (enc := Value.int k) (d := (0 : Int)) (h1 := fun _ => rfl) ⟨hlen, by omega, fun hn => ⟨x, rfl, fun j hj => ?_⟩⟩
    rw [h4 j (by omega), List.getD_eq_getElem?_getD, List.getD_eq_getElem?_getD, List.getElem?_take_of_lt hj]
theorem nil_C (w : World) : (Kd.int .u8).C w none ([] : List Int).length [] := ⟨rfl, by simp, fun h => absurd h (by simp)⟩
set_option maxHeartbeats 4000000 in
theorem walkRow (A : Option Addr) (c : Nat) (bs : List Int) (v n : Int) (w : World) (hT : Tz w) (hC : (Kd.int .u8).C w A bs.length bs) (hc : bs.length ≤ c) (hl : bs.length ≤ 140737488355310) (hv : v ≤ 9223372036854775807) :
    Calls Tryd.prog 3 #[.int .i64 v, .int .i64 n, .slice A bs.length c] w fun e w' => e = .returned (.bool true) ∧ Below w.heap.size w w' := by
  have HC := Lib.hid hC
  clear hC
  have HT := Lib.hid hT
  clear hT
  go_enter Tryd.func3, Tryd.ntmps3
  go_upto_region 2 with (go_at_call 6; refine (putOctal_calls v n hv w HT.out).mono ?_; rintro e w1 ⟨x1, rfl, hR1, hb1⟩)
  have HT1 := Lib.hid (Tz.below HT.out hb1)
  go_upto_region 3 with (go_at_call 6; refine (putOctal_calls v n hv w1 HT1.out).mono ?_; rintro e w2 ⟨x2, rfl, hR2, hb2⟩)
  go_upto_region 4 with (go_at_call 7; refine (refPut_calls v n hv w2).mono ?_; rintro e w3 ⟨x3, rfl, hR3, hb3⟩)
  have hC3 : (Kd.int .u8).C w3 A bs.length bs := Kd.C_below HC.out (bgo (bgo hb1 hb2) hb3)
  have HR := Lib.hid (own_made w3 w3.heap.size (fun _ => True) (Nat.le_refl _) (fun _ _ => trivial))
  have HCw := Lib.hid (Kd.C_below hC3 (balloc (Below.refl _ w3) (.cells #[] 5)))
  have HA := Lib.hid (⟨⟨hR1, hb1⟩, ⟨hR2, hb2⟩, ⟨hR3, hb3⟩, hC3⟩ : ((Kd.int .u8).R 5 w1 w.heap.size (fun _ => True) x1 (octP v n).1 ∧ Below w.heap.size w w1) ∧ ((Kd.int .u8).R 5 w2 w1.heap.size (fun _ => True) x2 (octP v n).1 ∧ Below w1.heap.size w1 w2) ∧ ((Kd.int .u8).R 5 w3 w2.heap.size (fun _ => True) x3 (octP v n).1 ∧ Below w2.heap.size w2 w3) ∧ (Kd.int .u8).C w3 A bs.length bs)
  clear hR1 hb1 hR2 hb2 hR3 hb3 hC3
  go_upto_region 5 with (first
    | (at_builtin; refine Kd.R_append_row (Value.int .u8) 0 (w0 := w3) w3.heap.size rfl (.tmp 36) (.tmp 37) 22 5 (.int .u8 0) 1 rfl Tryd.underlying22 info5 rfl (by omega) _ [] bs A bs.length c (fun _ => True) rfl rfl (fun _ _ => trivial) HR.out HCw.out (balloc (Below.refl _ _) _) (by simp) (by simp; omega) ?_; intro v4 w4 hR4 hb4 hg4 hat4; rw [List.nil_append] at hR4; clear hg4 hat4; obtain ⟨A4, c4, rfl, hc4, hC4⟩ := Kd.R_reads hR4; clear hR4)
    | (go_at_call 8; refine (octal_calls A4 c4 bs w4 hC4 (by omega) hc4).mono ?_; rintro e w5 ⟨rfl, hb5⟩))
  have hb35 := bgo hb4 hb5
  have hC5 : (Kd.int .u8).C w5 A bs.length bs := Kd.C_below HA.out.2.2.2 hb35
  clear hb4 hb5 hC4 hc4
  go_upto_region 6 with (go_at_call 9; refine (refOct_calls A c bs w5 hC5 (by omega) hc).mono ?_; rintro e w6 ⟨rfl, hd6⟩)
  have hb6 : Below w3.heap.size w3 w6 := bgo hb35 hd6.below
  have Hbeh := Lib.hid (behind_of w w1 w2 w6 x1 x2 x3 [] (octP v n).1 (octP v n).2 none 0 (by rw [octP_all]; exact HA.out.1.1) HA.out.1.2 (by rw [octP_all]; exact HA.out.2.1.1) HA.out.2.1.2 (Kd.R_mono (Kd.R_below HA.out.2.2.1.1 hb6) (fun _ _ => trivial)) (bgo HA.out.2.2.1.2 hb6) (nil_C w) (by simp) (by simp) (octP_len v n))
  clear hb35 hb6 hC5 hd6
  go_wp2_with (first
    | (go_at_call 10; refine Hbeh.out.mono ?_; rintro e w7 ⟨rfl, hb7⟩)
    | (go_at_call 11; refine (names_calls _).mono ?_; rintro e w' ⟨rfl, rfl⟩))
  go_ret
  exact ⟨rfl, hb7⟩
theorem walk (v n : Int) (a : Option Addr) (len cap : Nat) (zs : List Int) (w : World) (h0 : (Lit.int .i64 v).wf = true) (_ : (Lit.int .i64 n).wf = true) (h1 : IsRow .u8 w a len cap zs) (h2 : len * 1 ≤ 140737488351232) (hT : Tz w) :
    Calls Tryd.prog 3 #[.int .i64 v, .int .i64 n, .slice a len cap] w fun e w' => e = .returned (.bool true) ∧ Below w.heap.size w w' := by
  obtain ⟨hC, hlen, hcap⟩ := h1.reads (by omega)
  have hv : v ≤ 9223372036854775807 := by
    simp [Lit.wf, IntKind.min, IntKind.max, IntKind.bits, IntKind.signed] at h0
    omega
  have h := walkRow a cap (zs.take len) v n w hT hC hcap (by omega) hv
  rwa [← hlen] at h
end Go.Proofs.YtfnncfgdlinmcaaDoor.Oct
