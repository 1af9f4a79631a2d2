/- deflate.Runs walked. -/
import Derived.Test.YtmecigllpdeeoaaRunC
set_option linter.unusedVariables false
set_option linter.unusedSimpArgs false
namespace Go.Proofs.Ytmecigllpdeeoaa.Run
open Go.RowKit Go.BigFrame Go.Proofs.Ytmecigllpdeeoaa.By Go.Proofs.Ytmecigllpdeeoaa.Reg Go.Proofs.YtmecigllpdeeoaaW.PrintWords Go.Proofs.YtmecigllpdeeoaaW.PrintLast Go.Proofs.YtmecigllpdeeoaaW.PrintMore Go.Proofs.Ytmecigllpdeeoaa.PPut
structure Acd (l : List Int) (w0 w : World) (u v : Value) (i : Nat) (done : List (Int × Int)) : Prop where
  all : done ++ from_ l i = from_ l 0
  st : St w0 w (w0.heap.size + 2) w0.heap.size u v u v (done.map Prod.fst) (done.map Prod.snd)
  len : done.length ≤ i
  il : i ≤ l.length
theorem R_map {w : World} {base : Nat} {v : Value} {f : Int × Int → Int} {done : List (Int × Int)} (h : RI w base v (done.map f)) : ∃ A c, v = .slice A done.length c := by
  obtain ⟨A, c, rfl, _⟩ := Kd.R_reads h
  exact ⟨A, c, by simp⟩
theorem Acd.next {l : List Int} {w0 w w1 : World} {u v u1 v1 : Value} {i : Nat} {done : List (Int × Int)} (h : Acd l w0 w u v i done) (hi : i < l.length)
    (hs : St w0 w1 (w0.heap.size + 2) w0.heap.size u1 v1 u1 v1 (done.map Prod.fst ++ [(one l i).1]) (done.map Prod.snd ++ [(one l i).2.1])) : Acd l w0 w1 u1 v1 (i + (one l i).2.2) (done ++ [((one l i).1, (one l i).2.1)]) := by
  have h1 := one_step l i hi
  have hl := h.len
  refine ⟨?_, by simpa using hs, by simp; omega, h1.2⟩
  rw [← h.all, from_step l i hi]
  simp
theorem Acd.start (l : List Int) (w : World) : Acd l w ((w.alloc (.cells #[.slice none 0 0] 25)).alloc (.cells #[.slice none 0 0] 25)) (.slice none 0 0) (.slice none 0 0) 0 [] :=
  ⟨rfl, ⟨by simp, by simp, by simp, by simp, by simp, Kd.R_nil _ _ _ _ _, Kd.R_nil _ _ _ _ _, fun k hk => by simp [Value.ownBlock] at hk, fun k hk => by simp [Value.ownBlock] at hk, fun k hk => by simp [Value.ownBlock] at hk, by simp, balloc (balloc (Below.refl _ _) _) _, by omega, Nat.le_refl _⟩, by simp, by omega⟩
set_option maxHeartbeats 8000000 in
set_option maxRecDepth 100000 in
theorem runs_calls (A : Option Addr) (c : Nat) (l : List Int) (w : World) (hC : (Kd.int .i64).C w A l.length l) (hl : l.length * 8 ≤ 140737488351232) :
    Calls Try.prog 15 #[.slice A l.length c] w fun e w' => ∃ u v, e = .returned (.tuple #[u, v]) ∧ Acd l w w' u v l.length (from_ l 0) := by
  have HC := Lib.hid hC
  clear hC
  go_enter Try.func15, Try.ntmps15
  go_wp2
  go_loopw [5, 6, 7] (fun a _ _ wr => ∃ (i : Nat) (u v : Value) (done : List (Int × Int)), a = .int .i64 i ∧ Acd l w wr u v i done) (fun a _ _ _ => (l.length - intOf a).toNat)
  case atStart => exact ⟨0, _, _, [], rfl, Acd.start l w⟩
  case round =>
    obtain ⟨i, u, v0, done, rfl, hacc⟩ := hrel
    have HACC := Lib.hid hacc
    have hil := hacc.il
    have hbr := hacc.st.b
    have hcu := hacc.st.cu
    have hcv := hacc.st.cv
    have hfu := hacc.st.fu
    have hfv := hacc.st.fv
    clear hacc
    by_cases hi : i < l.length
    · clear hcu hcv hfu hfv
      obtain ⟨ad, hA, hx⟩ := Kd.at_int (Kd.C_below HC.out hbr) (i : Int) (by omega) (by omega)
      subst hA
      rw [Int.toNat_natCast, rd_get] at hx
      have hld := lead_le (l.getD i 0) (l.drop i)
      rw [List.length_drop] at hld
      have hin : Hid (∀ n : Nat, n < lead (l.getD i 0) (l.drop i) → wr.cell? (ad.add (i + n)) = some (.int .i64 (l.getD i 0))) := Lib.hid (fun n hn => by
        obtain ⟨ad2, hA2, hx2⟩ := Kd.at_int (Kd.C_below HC.out hbr) ((i : Int) + n) (by omega) (by omega)
        obtain rfl := Option.some.inj hA2
        rw [show ((i : Int) + n).toNat = i + n by omega] at hx2
        rw [hx2, rd_get2, ← getD_drop, lead_in _ _ n hn])
      have hpr : Hid (0 < i → wr.cell? (ad.add (i - 1)) = some (.int .i64 (l.getD (i - 1) 0))) := Lib.hid (fun hp => by
        obtain ⟨ad2, hA2, hx2⟩ := Kd.at_int (Kd.C_below HC.out hbr) ((i : Int) - 1) (by omega) (by omega)
        obtain rfl := Option.some.inj hA2
        rw [show ((i : Int) - 1).toNat = i - 1 by omega] at hx2
        rw [hx2, show (i : Int) - 1 = ((i - 1 : Nat) : Int) by omega, rd_get])
      have hou : Hid (i + lead (l.getD i 0) (l.drop i) < l.length → ∃ z, wr.cell? (ad.add (i + lead (l.getD i 0) (l.drop i))) = some (.int .i64 z) ∧ z ≠ l.getD i 0) := Lib.hid (fun hp => by
        obtain ⟨ad2, hA2, hx2⟩ := Kd.at_int (Kd.C_below HC.out hbr) ((i : Int) + lead (l.getD i 0) (l.drop i)) (by omega) (by omega)
        obtain rfl := Option.some.inj hA2
        rw [show ((i : Int) + lead (l.getD i 0) (l.drop i)).toNat = i + lead (l.getD i 0) (l.drop i) by omega] at hx2
        refine ⟨_, hx2, ?_⟩
        rw [rd_get2, ← getD_drop]
        exact lead_out _ _ (by rw [List.length_drop]; omega))
      have hlp := lead_pos l i hi
      have hone : Hid (one l i = told (l.getD i 0) (lead (l.getD i 0) (l.drop i)) (ahead l i)) := Lib.hid rfl
      have hah : Hid (ahead l i = (decide (0 < i) && (l.getD (i - 1) 0 == l.getD i 0))) := Lib.hid rfl
      generalize lead (l.getD i 0) (l.drop i) = K at *
      generalize l.getD i 0 = v at *
      generalize l.getD (i - 1) 0 = y at *
      generalize ahead l i = q at *
      go_wp2
      go_loopw [7] (fun n wr2 => ∃ k : Nat, n = .int .i64 k ∧ 1 ≤ k ∧ k ≤ K ∧ wr2 = wr) (fun n _ => (K - intOf n).toNat)
      case atStart => exact ⟨1, rfl, by omega, hlp, rfl⟩
      case round =>
        obtain ⟨k, rfl, hk1, hk, rfl⟩ := hrel
        by_cases hkK : k < K
        · have hxk := hin.out k hkK
          go_wp2
          go_roundw
          case rel => exact ⟨k + 1, by go_num, by omega, by omega, by first | rfl | trivial⟩
          case measure => simp [intOf]; omega
        · obtain rfl : k = K := by omega
          clear hin
          have hex : (i + k < l.length ∧ ∃ z, wr.cell? (ad.add (i + k)) = some (.int .i64 z) ∧ (z == v) = false) ∨ ¬ i + k < l.length := by
            by_cases hend : i + k < l.length
            · obtain ⟨z, hz, hne⟩ := hou.out hend
              exact .inl ⟨hend, z, hz, beq_eq_false_iff_ne.mpr hne⟩
            · exact .inr hend
          clear hou
          have hq : (q = true ∧ 0 < i ∧ y = v) ∨ (q = false ∧ i = 0) ∨ (q = false ∧ 0 < i ∧ y ≠ v) := by
            rw [hah.out]
            by_cases h0 : 0 < i
            · by_cases h1 : y = v
              · exact .inl ⟨by simp [h0, h1], h0, h1⟩
              · exact .inr (.inr ⟨by simp [h1], h0, h1⟩)
            · exact .inr (.inl ⟨by simp [h0], by omega⟩)
          have HQ := Lib.hid hq
          clear hq hah
          have hT := hone.out
          clear hone
          rcases hex with ⟨hend, z, hz, hne⟩ | hend
          all_goals
            go_upto_region 9 with (fail)
            rcases ways v k q with ⟨k1, k2⟩ | ⟨k1, k2, k3⟩ | ⟨k1, k2, k3⟩ | ⟨k1, k2⟩ | k1 | ⟨k1, k2, k3⟩ | ⟨k1, k2, k3, k4⟩ | ⟨k1, k2, k3⟩ | ⟨k1, k2⟩
            · have hT2 : one l i = (18, 127, 138) := by rw [hT]; unfold told; rw [if_pos ⟨k1, by omega⟩, Nat.min_eq_right (by omega)]; rfl
              have hmin : min (k : Int) 138 = 138 := by omega
              clear hT HQ hpr
              go_wp2_with (go_at_call 39; refine (put_calls w _ (w.heap.size + 2) w.heap.size _ _ _ _ _ _ HACC.out.st (by rw [List.length_map]; have := HACC.out.len; omega) (by rw [List.length_map]; have := HACC.out.len; omega)).mono ?_; rintro e w' ⟨rfl, u1, v1, hst1⟩; have hN := HACC.out.next hi (by rw [hT2]; exact hst1); rw [hT2] at hN; have HN := Lib.hid hN; clear hN hst1)
              go_roundw
              case rel => exact ⟨_, _, _, _, by go_num, HN.out⟩
              case measure => simp [intOf]; omega
            · have hT2 : one l i = (18, (k : Int) - 11, k) := by rw [hT]; unfold told; rw [if_pos ⟨k1, by omega⟩, Nat.min_eq_left (by omega)]
              have hmin : min (k : Int) 138 = k := by omega
              clear hT HQ hpr
              go_wp2_with (go_at_call 39; refine (put_calls w _ (w.heap.size + 2) w.heap.size _ _ _ _ _ _ HACC.out.st (by rw [List.length_map]; have := HACC.out.len; omega) (by rw [List.length_map]; have := HACC.out.len; omega)).mono ?_; rintro e w' ⟨rfl, u1, v1, hst1⟩; have hN := HACC.out.next hi (by rw [hT2]; exact hst1); rw [hT2] at hN; have HN := Lib.hid hN; clear hN hst1)
              go_roundw
              case rel => exact ⟨_, _, _, _, by go_num, HN.out⟩
              case measure => simp [intOf]; omega
            · have hT2 : one l i = (17, (k : Int) - 3, k) := by rw [hT]; unfold told; rw [if_neg (by omega), if_pos ⟨k1, by omega⟩]
              clear hT HQ hpr
              go_wp2_with (go_at_call 39; refine (put_calls w _ (w.heap.size + 2) w.heap.size _ _ _ _ _ _ HACC.out.st (by rw [List.length_map]; have := HACC.out.len; omega) (by rw [List.length_map]; have := HACC.out.len; omega)).mono ?_; rintro e w' ⟨rfl, u1, v1, hst1⟩; have hN := HACC.out.next hi (by rw [hT2]; exact hst1); rw [hT2] at hN; have HN := Lib.hid hN; clear hN hst1)
              go_roundw
              case rel => exact ⟨_, _, _, _, by go_num, HN.out⟩
              case measure => simp [intOf]; omega
            · have hT2 : one l i = (0, 0, 1) := by rw [hT]; unfold told; rw [if_neg (by omega), if_neg (by omega), if_neg (by omega)]; rw [k1]
              clear hT HQ hpr
              go_wp2_with (go_at_call 39; refine (put_calls w _ (w.heap.size + 2) w.heap.size _ _ _ _ _ _ HACC.out.st (by rw [List.length_map]; have := HACC.out.len; omega) (by rw [List.length_map]; have := HACC.out.len; omega)).mono ?_; rintro e w' ⟨rfl, u1, v1, hst1⟩; have hN := HACC.out.next hi (by rw [hT2]; exact hst1); rw [hT2] at hN; have HN := Lib.hid hN; clear hN hst1)
              go_roundw
              case rel => exact ⟨_, _, _, _, by go_num, HN.out⟩
              case measure => simp [intOf]; omega
            · have hT2 : one l i = (v, 0, 1) := by rw [hT]; unfold told; rw [if_neg (by omega), if_neg (by omega), if_neg (by omega)]
              clear hT HQ hpr
              go_wp2_with (go_at_call 39; refine (put_calls w _ (w.heap.size + 2) w.heap.size _ _ _ _ _ _ HACC.out.st (by rw [List.length_map]; have := HACC.out.len; omega) (by rw [List.length_map]; have := HACC.out.len; omega)).mono ?_; rintro e w' ⟨rfl, u1, v1, hst1⟩; have hN := HACC.out.next hi (by rw [hT2]; exact hst1); rw [hT2] at hN; have HN := Lib.hid hN; clear hN hst1)
              go_roundw
              case rel => exact ⟨_, _, _, _, by go_num, HN.out⟩
              case measure => simp [intOf]; omega
            · have hT2 : one l i = (16, 3, 6) := by rw [hT]; unfold told; rw [if_neg (by omega), if_neg (by omega), if_pos ⟨k1, k2, by omega⟩, Nat.min_eq_right (by omega)]; rfl
              have hmin : min (k : Int) 6 = 6 := by omega
              have hpy : 0 < i ∧ y = v := by
                rcases HQ.out with ⟨_, a, b⟩ | ⟨a, _⟩ | ⟨a, _⟩
                · exact ⟨a, b⟩
                · rw [k2] at a; cases a
                · rw [k2] at a; cases a
              obtain ⟨hp0, rfl⟩ := hpy
              have hxp := hpr.out hp0
              clear hT HQ hpr
              go_wp2_with (go_at_call 39; refine (put_calls w _ (w.heap.size + 2) w.heap.size _ _ _ _ _ _ HACC.out.st (by rw [List.length_map]; have := HACC.out.len; omega) (by rw [List.length_map]; have := HACC.out.len; omega)).mono ?_; rintro e w' ⟨rfl, u1, v1, hst1⟩; have hN := HACC.out.next hi (by rw [hT2]; exact hst1); rw [hT2] at hN; have HN := Lib.hid hN; clear hN hst1)
              go_roundw
              case rel => exact ⟨_, _, _, _, by go_num, HN.out⟩
              case measure => simp [intOf]; omega
            · have hT2 : one l i = (16, (k : Int) - 3, k) := by rw [hT]; unfold told; rw [if_neg (by omega), if_neg (by omega), if_pos ⟨k1, k2, by omega⟩, Nat.min_eq_left (by omega)]
              have hmin : min (k : Int) 6 = k := by omega
              have hpy : 0 < i ∧ y = v := by
                rcases HQ.out with ⟨_, a, b⟩ | ⟨a, _⟩ | ⟨a, _⟩
                · exact ⟨a, b⟩
                · rw [k2] at a; cases a
                · rw [k2] at a; cases a
              obtain ⟨hp0, rfl⟩ := hpy
              have hxp := hpr.out hp0
              clear hT HQ hpr
              go_wp2_with (go_at_call 39; refine (put_calls w _ (w.heap.size + 2) w.heap.size _ _ _ _ _ _ HACC.out.st (by rw [List.length_map]; have := HACC.out.len; omega) (by rw [List.length_map]; have := HACC.out.len; omega)).mono ?_; rintro e w' ⟨rfl, u1, v1, hst1⟩; have hN := HACC.out.next hi (by rw [hT2]; exact hst1); rw [hT2] at hN; have HN := Lib.hid hN; clear hN hst1)
              go_roundw
              case rel => exact ⟨_, _, _, _, by go_num, HN.out⟩
              case measure => simp [intOf]; omega
            · have hT2 : one l i = (v, 0, 1) := by rw [hT]; unfold told; rw [if_neg (by omega), if_neg (by omega), if_neg (by omega)]
              have hpy : 0 < i ∧ y = v := by
                rcases HQ.out with ⟨_, a, b⟩ | ⟨a, _⟩ | ⟨a, _⟩
                · exact ⟨a, b⟩
                · rw [k2] at a; cases a
                · rw [k2] at a; cases a
              obtain ⟨hp0, rfl⟩ := hpy
              have hxp := hpr.out hp0
              clear hT HQ hpr
              go_wp2_with (go_at_call 39; refine (put_calls w _ (w.heap.size + 2) w.heap.size _ _ _ _ _ _ HACC.out.st (by rw [List.length_map]; have := HACC.out.len; omega) (by rw [List.length_map]; have := HACC.out.len; omega)).mono ?_; rintro e w' ⟨rfl, u1, v1, hst1⟩; have hN := HACC.out.next hi (by rw [hT2]; exact hst1); rw [hT2] at hN; have HN := Lib.hid hN; clear hN hst1)
              go_roundw
              case rel => exact ⟨_, _, _, _, by go_num, HN.out⟩
              case measure => simp [intOf]; omega
            · have hT2 : one l i = (v, 0, 1) := by rw [hT]; unfold told; rw [if_neg (by omega), if_neg (by omega), if_neg (by rw [k2]; simp)]
              have hpy : i = 0 ∨ (0 < i ∧ (y == v) = false) := by
                rcases HQ.out with ⟨a, _⟩ | ⟨_, a⟩ | ⟨_, a, b⟩
                · rw [k2] at a; cases a
                · exact .inl a
                · exact .inr ⟨a, beq_eq_false_iff_ne.mpr b⟩
              rcases hpy with rfl | ⟨hp0, hyv⟩
              · clear hT HQ hpr
                go_wp2_with (go_at_call 39; refine (put_calls w _ (w.heap.size + 2) w.heap.size _ _ _ _ _ _ HACC.out.st (by rw [List.length_map]; have := HACC.out.len; omega) (by rw [List.length_map]; have := HACC.out.len; omega)).mono ?_; rintro e w' ⟨rfl, u1, v1, hst1⟩; have hN := HACC.out.next hi (by rw [hT2]; exact hst1); rw [hT2] at hN; have HN := Lib.hid hN; clear hN hst1)
                go_roundw
                case rel => exact ⟨_, _, _, _, by go_num, HN.out⟩
                case measure => simp [intOf]; omega
              · have hxp := hpr.out hp0
                clear hT HQ hpr
                go_wp2_with (go_at_call 39; refine (put_calls w _ (w.heap.size + 2) w.heap.size _ _ _ _ _ _ HACC.out.st (by rw [List.length_map]; have := HACC.out.len; omega) (by rw [List.length_map]; have := HACC.out.len; omega)).mono ?_; rintro e w' ⟨rfl, u1, v1, hst1⟩; have hN := HACC.out.next hi (by rw [hT2]; exact hst1); rw [hT2] at hN; have HN := Lib.hid hN; clear hN hst1)
                go_roundw
                case rel => exact ⟨_, _, _, _, by go_num, HN.out⟩
                case measure => simp [intOf]; omega
    · obtain ⟨Au, cu, rfl⟩ := R_map HACC.out.st.ru
      obtain ⟨Av, cv, rfl⟩ := R_map HACC.out.st.rv
      have n2 := HACC.out.st.hB
      have n1 := Nat.lt_of_succ_lt n2
      have hz : l.length = i := by omega
      have hE : Hid (Acd l w wr _ _ l.length (from_ l 0)) := Lib.hid (by
        have h := HACC.out
        have ha := h.all
        rw [from_end l i (by omega), List.append_nil] at ha
        rw [← ha, hz]
        exact h)
      clear HACC
      go_wp2
      go_region
      all_goals go_wp2
      all_goals
        refine bodyPost_ret (v := .tuple #[.slice Au done.length cu, .slice Av done.length cv]) (by simp [results, Try.results15, go_sem, hcu, hcv]) rfl ⟨_, _, rfl, hE.out.all, ?_, hE.out.len, hE.out.il⟩
        first | exact hE.out.st.drew.both.1 | exact hE.out.st.drew.both.2
end Go.Proofs.Ytmecigllpdeeoaa.Run
