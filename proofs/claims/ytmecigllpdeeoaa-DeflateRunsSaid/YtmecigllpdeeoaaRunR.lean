/- hamperref08.Runs walked. -/
import Derived.Test.YtmecigllpdeeoaaRunP
import Derived.Test.YtmecigllpdeeoaaByRef
set_option linter.unusedVariables false
set_option linter.unusedSimpArgs false
namespace Go.Proofs.Ytmecigllpdeeoaa.Run
open Go.RowKit Go.BigFrame Go.Proofs.Ytmecigllpdeeoaa.By Go.Proofs.Ytmecigllpdeeoaa.Reg Go.Proofs.YtmecigllpdeeoaaW.PrintWords Go.Proofs.YtmecigllpdeeoaaW.PrintLast Go.Proofs.YtmecigllpdeeoaaW.PrintMore Go.Proofs.Ytmecigllpdeeoaa.PPut
theorem infoI : (Try.prog.info? 3).map (fun i => (i.zero, i.size, i.bytes)) = some (some (.int .i64 0), 1, 8) := by kernel_rfl
abbrev RI (w : World) (base : Nat) (v : Value) (xs : List Int) : Prop := (Kd.int .i64).R 3 w base (fun _ => True) v xs
/-- The symbols and their mores, told so far, and what is still to tell. -/
structure Acc (l : List Int) (w0 w : World) (base : Nat) (u v : Value) (i : Nat) (done : List (Int × Int)) : Prop where
  all : done ++ from_ l i = from_ l 0
  ru : RI w base u (done.map Prod.fst)
  rv : RI w base v (done.map Prod.snd)
  ap : ∀ k, u.ownBlock = some k → some k ≠ v.ownBlock
  len : done.length ≤ i
  il : i ≤ l.length
  b : Below w0.heap.size w0 w
theorem rd_get (l : List Int) (i : Nat) : rd l (i : Int) = l.getD i 0 := by
  unfold rd
  rw [Int.toNat_natCast]
theorem rd_get2 (l : List Int) (i n : Nat) : rd l ((i : Int) + n) = l.getD (i + n) 0 := by
  rw [show (i : Int) + n = ((i + n : Nat) : Int) by omega, rd_get]
/-- What the round tells, and what it leaves. -/
theorem Acc.next {l : List Int} {w0 w w1 w2 : World} {base : Nat} {u v u1 v1 : Value} {i : Nat} {done : List (Int × Int)} (h : Acc l w0 w base u v i done) (hi : i < l.length)
    (hu : RI w1 base u1 (done.map Prod.fst ++ [(one l i).1])) (hv : RI w2 base v1 (done.map Prod.snd ++ [(one l i).2.1])) (hu2 : RI w2 base u1 (done.map Prod.fst ++ [(one l i).1])) (hap : ∀ k, u1.ownBlock = some k → some k ≠ v1.ownBlock) (hb : Below w0.heap.size w0 w2) :
    Acc l w0 w2 base u1 v1 (i + (one l i).2.2) (done ++ [((one l i).1, (one l i).2.1)]) := by
  have hs := one_step l i hi
  have hl := h.len
  refine ⟨?_, by simpa using hu2, by simpa using hv, hap, by simp; omega, hs.2, hb⟩
  rw [← h.all, from_step l i hi]
  simp
theorem R_lt {w : World} {base : Nat} {v : Value} {xs : List Int} (h : RI w base v xs) (k : Nat) (hk : v.ownBlock = some k) : k < w.heap.size := by
  obtain ⟨_, _, hown, _⟩ := h
  exact (hown.lt k hk).2
theorem apart_next {w0 w1 : World} {base : Nat} {u v u1 v1 : Value} {xs ys xs1 : List Int} (hu : RI w0 base u xs) (hv : RI w0 base v ys) (hu1 : RI w1 base u1 xs1) (hap : ∀ k, u.ownBlock = some k → some k ≠ v.ownBlock)
    (hat1 : u1.ownBlock = u.ownBlock ∨ ∃ b, u1.ownBlock = some b ∧ w0.heap.size ≤ b) (hat2 : v1.ownBlock = v.ownBlock ∨ ∃ b, v1.ownBlock = some b ∧ w1.heap.size ≤ b) :
    (∀ k, v.ownBlock = some k → some k ≠ u1.ownBlock) ∧ ∀ k, u1.ownBlock = some k → some k ≠ v1.ownBlock := by
  have h1 : ∀ k, v.ownBlock = some k → some k ≠ u1.ownBlock := fun k hk he => by
    rcases hat1 with h | ⟨b, hb, hle⟩
    · exact hap k (by rw [← h, he]) hk.symm
    · have := R_lt hv k hk
      rw [hb] at he
      injection he with he
      omega
  refine ⟨h1, fun k hk he => ?_⟩
  rcases hat2 with h | ⟨b, hb, hle⟩
  · exact h1 k (by rw [← h, he]) hk.symm
  · have := R_lt hu1 k hk
    rw [hb] at he
    injection he with he
    omega
/-- The ways of a round. -/
theorem ways (v : Int) (k : Nat) (p : Bool) : (v = 0 ∧ 138 < k) ∨ (v = 0 ∧ 11 ≤ k ∧ k ≤ 138) ∨ (v = 0 ∧ 3 ≤ k ∧ k < 11) ∨ (v = 0 ∧ k < 3) ∨ v < 0 ∨ (0 < v ∧ p = true ∧ 6 < k) ∨ (0 < v ∧ p = true ∧ 3 ≤ k ∧ k ≤ 6) ∨ (0 < v ∧ p = true ∧ k < 3) ∨ (0 < v ∧ p = false) := by
  rcases Int.lt_trichotomy v 0 with h | h | h
  · exact .inr (.inr (.inr (.inr (.inl h))))
  · by_cases h1 : 138 < k
    · exact .inl ⟨h, h1⟩
    by_cases h2 : 11 ≤ k
    · exact .inr (.inl ⟨h, h2, by omega⟩)
    by_cases h3 : 3 ≤ k
    · exact .inr (.inr (.inl ⟨h, h3, by omega⟩))
    · exact .inr (.inr (.inr (.inl ⟨h, by omega⟩)))
  · cases p
    · exact .inr (.inr (.inr (.inr (.inr (.inr (.inr (.inr ⟨h, rfl⟩)))))))
    · by_cases h1 : 6 < k
      · exact .inr (.inr (.inr (.inr (.inr (.inl ⟨h, rfl, h1⟩)))))
      by_cases h2 : 3 ≤ k
      · exact .inr (.inr (.inr (.inr (.inr (.inr (.inl ⟨h, rfl, h2, by omega⟩))))))
      · exact .inr (.inr (.inr (.inr (.inr (.inr (.inr (.inl ⟨h, rfl, by omega⟩)))))))
set_option maxHeartbeats 8000000 in
set_option maxRecDepth 100000 in
theorem refRuns_calls (A : Option Addr) (c : Nat) (l : List Int) (w : World) (hC : (Kd.int .i64).C w A l.length l) (hl : l.length * 8 ≤ 140737488351232) :
    Calls Try.prog 16 #[.slice A l.length c] w fun e w' => ∃ u v, e = .returned (.tuple #[u, v]) ∧ Acc l w w' w.heap.size u v l.length (from_ l 0) := by
  have HC := Lib.hid hC
  clear hC
  go_enter Try.func16, Try.ntmps16
  go_wp2
  go_loopw [4, 5, 6, 7, 8, 9, 10] (fun u v a _ _ _ _ wr => ∃ (i : Nat) (done : List (Int × Int)), a = .int .i64 i ∧ Acc l w wr w.heap.size u v i done) (fun _ _ a _ _ _ _ _ => (l.length - intOf a).toNat)
  case atStart => exact ⟨0, [], rfl, ⟨rfl, Kd.R_nil _ _ _ _ _, Kd.R_nil _ _ _ _ _, fun k hk => by simp [Value.ownBlock] at hk, by simp, by omega, Below.refl _ _⟩⟩
  case round =>
    obtain ⟨i, done, rfl, hacc⟩ := hrel
    have HACC := Lib.hid hacc
    have hil := hacc.il
    have hbr := hacc.b
    clear hacc
    by_cases hi : i < l.length
    · obtain ⟨ad, hA, hx⟩ := Kd.at_int (Kd.C_below HC.out hbr) (i : Int) (by omega) (by omega)
      subst hA
      rw [Int.toNat_natCast, rd_get] at hx
      have hld := lead_le (l.getD i 0) (l.drop i)
      rw [List.length_drop] at hld
      have hin : Hid (∀ n : Nat, n < lead (l.getD i 0) (l.drop i) → wr.cell? (ad.add (i + n)) = some (.int .i64 (l.getD i 0))) := Lib.hid (fun n hn => by
        obtain ⟨ad2, hA2, hx2⟩ := Kd.at_int (Kd.C_below HC.out hbr) ((i : Int) + n) (by omega) (by omega)
        obtain rfl := Option.some.inj hA2
        rw [show ((i : Int) + n).toNat = i + n by omega] at hx2
        rw [hx2, rd_get2, ← getD_drop, lead_in _ _ n hn])
      have hpr : Hid (0 < i → wr.cell? (ad.add (i - 1)) = some (.int .i64 (l.getD (i - 1) 0))) := Lib.hid (fun hp => by
        obtain ⟨ad2, hA2, hx2⟩ := Kd.at_int (Kd.C_below HC.out hbr) ((i : Int) - 1) (by omega) (by omega)
        obtain rfl := Option.some.inj hA2
        rw [show ((i : Int) - 1).toNat = i - 1 by omega] at hx2
        rw [hx2, show (i : Int) - 1 = ((i - 1 : Nat) : Int) by omega, rd_get])
      have hou : Hid (i + lead (l.getD i 0) (l.drop i) < l.length → ∃ z, wr.cell? (ad.add (i + lead (l.getD i 0) (l.drop i))) = some (.int .i64 z) ∧ z ≠ l.getD i 0) := Lib.hid (fun hp => by
        obtain ⟨ad2, hA2, hx2⟩ := Kd.at_int (Kd.C_below HC.out hbr) ((i : Int) + lead (l.getD i 0) (l.drop i)) (by omega) (by omega)
        obtain rfl := Option.some.inj hA2
        rw [show ((i : Int) + lead (l.getD i 0) (l.drop i)).toNat = i + lead (l.getD i 0) (l.drop i) by omega] at hx2
        refine ⟨_, hx2, ?_⟩
        rw [rd_get2, ← getD_drop]
        exact lead_out _ _ (by rw [List.length_drop]; omega))
      have hlp := lead_pos l i hi
      have hone : Hid (one l i = told (l.getD i 0) (lead (l.getD i 0) (l.drop i)) (ahead l i)) := Lib.hid rfl
      have hah : Hid (ahead l i = (decide (0 < i) && (l.getD (i - 1) 0 == l.getD i 0))) := Lib.hid rfl
      generalize lead (l.getD i 0) (l.drop i) = K at *
      generalize l.getD i 0 = v at *
      generalize l.getD (i - 1) 0 = y at *
      generalize ahead l i = q at *
      go_wp2
      go_loopw [8] (fun n wr2 => ∃ k : Nat, n = .int .i64 k ∧ k ≤ K ∧ wr2 = wr) (fun n _ => (K - intOf n).toNat)
      case atStart => exact ⟨0, rfl, by omega, rfl⟩
      case round =>
        obtain ⟨k, rfl, hk, rfl⟩ := hrel
        by_cases hkK : k < K
        · have hxk := hin.out k hkK
          go_wp2
          go_roundw
          case rel => exact ⟨k + 1, by go_num, by omega, by first | rfl | trivial⟩
          case measure => simp [intOf]; omega
        · obtain rfl : k = K := by omega
          clear hin
          have hex : (i + k < l.length ∧ ∃ z, wr.cell? (ad.add (i + k)) = some (.int .i64 z) ∧ (z == v) = false) ∨ ¬ i + k < l.length := by
            by_cases hend : i + k < l.length
            · obtain ⟨z, hz, hne⟩ := hou.out hend
              exact .inl ⟨hend, z, hz, beq_eq_false_iff_ne.mpr hne⟩
            · exact .inr hend
          clear hou
          have hq : (q = true ∧ 0 < i ∧ y = v) ∨ (q = false ∧ i = 0) ∨ (q = false ∧ 0 < i ∧ y ≠ v) := by
            rw [hah.out]
            by_cases h0 : 0 < i
            · by_cases h1 : y = v
              · exact .inl ⟨by simp [h0, h1], h0, h1⟩
              · exact .inr (.inr ⟨by simp [h1], h0, h1⟩)
            · exact .inr (.inl ⟨by simp [h0], by omega⟩)
          have HQ := Lib.hid hq
          clear hq hah
          have hT := hone.out
          clear hone
          rcases hex with ⟨hend, z, hz, hne⟩ | hend
          all_goals
            go_upto_region 11 with (fail)
            rcases ways v k q with ⟨k1, k2⟩ | ⟨k1, k2, k3⟩ | ⟨k1, k2, k3⟩ | ⟨k1, k2⟩ | k1 | ⟨k1, k2, k3⟩ | ⟨k1, k2, k3, k4⟩ | ⟨k1, k2, k3⟩ | ⟨k1, k2⟩
            · have hT2 : one l i = (18, 127, 138) := by rw [hT]; unfold told; rw [if_pos ⟨k1, by omega⟩, Nat.min_eq_right (by omega)]; rfl
              clear hT HQ hpr
              go_upto_region 24 with (fail)
              go_upto_region 26 with (first
                | (at_builtin; refine Kd.R_append (Kd.int .i64) (w0 := w) w.heap.size rfl (.tmp 86) (.tmp 88) 25 3 (.int .i64 0) 8 rfl Try.underlying25 infoI rfl (by decide) (by omega) _ _ _ _ (fun _ => True) (fun _ => False) rfl rfl rfl (fun _ hk => hk.elim) (fun _ _ => trivial) hRv hb1 hb1.size (by rw [List.length_map]; have := HACC.out.len; omega) ?_; intro v1 w2 hR2 hb2 hg2 hat2)
                | (at_builtin; refine Kd.R_append (Kd.int .i64) (w0 := w) w.heap.size rfl (.tmp 82) (.tmp 84) 25 3 (.int .i64 0) 8 rfl Try.underlying25 infoI rfl (by decide) (by omega) _ _ _ _ (fun _ => True) (fun _ => False) rfl rfl rfl (fun _ hk => hk.elim) (fun _ _ => trivial) HACC.out.ru hbr hbr.size (by rw [List.length_map]; have := HACC.out.len; omega) ?_; intro u1 w1 hR1 hb1 hg1 hat1; have hRv := Kd.R_grown2 HACC.out.rv rfl hg1 HACC.out.ap))
              have hX := apart_next HACC.out.ru HACC.out.rv hR1 HACC.out.ap hat1 hat2
              have hN := HACC.out.next hi (u1 := u1) (v1 := v1) (w1 := w1) (w2 := w2) (by rw [hT2]; exact hR1) (by rw [hT2]; exact hR2) (by rw [hT2]; exact Kd.R_grown2 hR1 rfl hg2 hX.1) hX.2 hb2
              rw [hT2] at hN
              have HN := Lib.hid hN
              clear hN hX hR1 hR2 hg1 hg2 hat1 hat2 hRv
              go_wp2
              go_roundw
              case rel => exact ⟨_, _, by go_num, HN.out⟩
              case measure => simp [intOf]; omega
            · have hT2 : one l i = (18, (k : Int) - 11, k) := by rw [hT]; unfold told; rw [if_pos ⟨k1, by omega⟩, Nat.min_eq_left (by omega)]
              clear hT HQ hpr
              go_upto_region 24 with (fail)
              go_upto_region 26 with (first
                | (at_builtin; refine Kd.R_append (Kd.int .i64) (w0 := w) w.heap.size rfl (.tmp 86) (.tmp 88) 25 3 (.int .i64 0) 8 rfl Try.underlying25 infoI rfl (by decide) (by omega) _ _ _ _ (fun _ => True) (fun _ => False) rfl rfl rfl (fun _ hk => hk.elim) (fun _ _ => trivial) hRv hb1 hb1.size (by rw [List.length_map]; have := HACC.out.len; omega) ?_; intro v1 w2 hR2 hb2 hg2 hat2)
                | (at_builtin; refine Kd.R_append (Kd.int .i64) (w0 := w) w.heap.size rfl (.tmp 82) (.tmp 84) 25 3 (.int .i64 0) 8 rfl Try.underlying25 infoI rfl (by decide) (by omega) _ _ _ _ (fun _ => True) (fun _ => False) rfl rfl rfl (fun _ hk => hk.elim) (fun _ _ => trivial) HACC.out.ru hbr hbr.size (by rw [List.length_map]; have := HACC.out.len; omega) ?_; intro u1 w1 hR1 hb1 hg1 hat1; have hRv := Kd.R_grown2 HACC.out.rv rfl hg1 HACC.out.ap))
              have hX := apart_next HACC.out.ru HACC.out.rv hR1 HACC.out.ap hat1 hat2
              have hN := HACC.out.next hi (u1 := u1) (v1 := v1) (w1 := w1) (w2 := w2) (by rw [hT2]; exact hR1) (by rw [hT2]; exact hR2) (by rw [hT2]; exact Kd.R_grown2 hR1 rfl hg2 hX.1) hX.2 hb2
              rw [hT2] at hN
              have HN := Lib.hid hN
              clear hN hX hR1 hR2 hg1 hg2 hat1 hat2 hRv
              go_wp2
              go_roundw
              case rel => exact ⟨_, _, by go_num, HN.out⟩
              case measure => simp [intOf]; omega
            · have hT2 : one l i = (17, (k : Int) - 3, k) := by rw [hT]; unfold told; rw [if_neg (by omega), if_pos ⟨k1, by omega⟩]
              clear hT HQ hpr
              go_upto_region 24 with (fail)
              go_upto_region 26 with (first
                | (at_builtin; refine Kd.R_append (Kd.int .i64) (w0 := w) w.heap.size rfl (.tmp 86) (.tmp 88) 25 3 (.int .i64 0) 8 rfl Try.underlying25 infoI rfl (by decide) (by omega) _ _ _ _ (fun _ => True) (fun _ => False) rfl rfl rfl (fun _ hk => hk.elim) (fun _ _ => trivial) hRv hb1 hb1.size (by rw [List.length_map]; have := HACC.out.len; omega) ?_; intro v1 w2 hR2 hb2 hg2 hat2)
                | (at_builtin; refine Kd.R_append (Kd.int .i64) (w0 := w) w.heap.size rfl (.tmp 82) (.tmp 84) 25 3 (.int .i64 0) 8 rfl Try.underlying25 infoI rfl (by decide) (by omega) _ _ _ _ (fun _ => True) (fun _ => False) rfl rfl rfl (fun _ hk => hk.elim) (fun _ _ => trivial) HACC.out.ru hbr hbr.size (by rw [List.length_map]; have := HACC.out.len; omega) ?_; intro u1 w1 hR1 hb1 hg1 hat1; have hRv := Kd.R_grown2 HACC.out.rv rfl hg1 HACC.out.ap))
              have hX := apart_next HACC.out.ru HACC.out.rv hR1 HACC.out.ap hat1 hat2
              have hN := HACC.out.next hi (u1 := u1) (v1 := v1) (w1 := w1) (w2 := w2) (by rw [hT2]; exact hR1) (by rw [hT2]; exact hR2) (by rw [hT2]; exact Kd.R_grown2 hR1 rfl hg2 hX.1) hX.2 hb2
              rw [hT2] at hN
              have HN := Lib.hid hN
              clear hN hX hR1 hR2 hg1 hg2 hat1 hat2 hRv
              go_wp2
              go_roundw
              case rel => exact ⟨_, _, by go_num, HN.out⟩
              case measure => simp [intOf]; omega
            · have hT2 : one l i = (0, 0, 1) := by rw [hT]; unfold told; rw [if_neg (by omega), if_neg (by omega), if_neg (by omega)]; rw [k1]
              clear hT HQ hpr
              go_upto_region 24 with (fail)
              go_upto_region 26 with (first
                | (at_builtin; refine Kd.R_append (Kd.int .i64) (w0 := w) w.heap.size rfl (.tmp 86) (.tmp 88) 25 3 (.int .i64 0) 8 rfl Try.underlying25 infoI rfl (by decide) (by omega) _ _ _ _ (fun _ => True) (fun _ => False) rfl rfl rfl (fun _ hk => hk.elim) (fun _ _ => trivial) hRv hb1 hb1.size (by rw [List.length_map]; have := HACC.out.len; omega) ?_; intro v1 w2 hR2 hb2 hg2 hat2)
                | (at_builtin; refine Kd.R_append (Kd.int .i64) (w0 := w) w.heap.size rfl (.tmp 82) (.tmp 84) 25 3 (.int .i64 0) 8 rfl Try.underlying25 infoI rfl (by decide) (by omega) _ _ _ _ (fun _ => True) (fun _ => False) rfl rfl rfl (fun _ hk => hk.elim) (fun _ _ => trivial) HACC.out.ru hbr hbr.size (by rw [List.length_map]; have := HACC.out.len; omega) ?_; intro u1 w1 hR1 hb1 hg1 hat1; have hRv := Kd.R_grown2 HACC.out.rv rfl hg1 HACC.out.ap))
              have hX := apart_next HACC.out.ru HACC.out.rv hR1 HACC.out.ap hat1 hat2
              have hN := HACC.out.next hi (u1 := u1) (v1 := v1) (w1 := w1) (w2 := w2) (by rw [hT2]; exact hR1) (by rw [hT2]; exact hR2) (by rw [hT2]; exact Kd.R_grown2 hR1 rfl hg2 hX.1) hX.2 hb2
              rw [hT2] at hN
              have HN := Lib.hid hN
              clear hN hX hR1 hR2 hg1 hg2 hat1 hat2 hRv
              go_wp2
              go_roundw
              case rel => exact ⟨_, _, by go_num, HN.out⟩
              case measure => simp [intOf]; omega
            · have hT2 : one l i = (v, 0, 1) := by rw [hT]; unfold told; rw [if_neg (by omega), if_neg (by omega), if_neg (by omega)]
              clear hT HQ hpr
              go_upto_region 24 with (fail)
              go_upto_region 26 with (first
                | (at_builtin; refine Kd.R_append (Kd.int .i64) (w0 := w) w.heap.size rfl (.tmp 86) (.tmp 88) 25 3 (.int .i64 0) 8 rfl Try.underlying25 infoI rfl (by decide) (by omega) _ _ _ _ (fun _ => True) (fun _ => False) rfl rfl rfl (fun _ hk => hk.elim) (fun _ _ => trivial) hRv hb1 hb1.size (by rw [List.length_map]; have := HACC.out.len; omega) ?_; intro v1 w2 hR2 hb2 hg2 hat2)
                | (at_builtin; refine Kd.R_append (Kd.int .i64) (w0 := w) w.heap.size rfl (.tmp 82) (.tmp 84) 25 3 (.int .i64 0) 8 rfl Try.underlying25 infoI rfl (by decide) (by omega) _ _ _ _ (fun _ => True) (fun _ => False) rfl rfl rfl (fun _ hk => hk.elim) (fun _ _ => trivial) HACC.out.ru hbr hbr.size (by rw [List.length_map]; have := HACC.out.len; omega) ?_; intro u1 w1 hR1 hb1 hg1 hat1; have hRv := Kd.R_grown2 HACC.out.rv rfl hg1 HACC.out.ap))
              have hX := apart_next HACC.out.ru HACC.out.rv hR1 HACC.out.ap hat1 hat2
              have hN := HACC.out.next hi (u1 := u1) (v1 := v1) (w1 := w1) (w2 := w2) (by rw [hT2]; exact hR1) (by rw [hT2]; exact hR2) (by rw [hT2]; exact Kd.R_grown2 hR1 rfl hg2 hX.1) hX.2 hb2
              rw [hT2] at hN
              have HN := Lib.hid hN
              clear hN hX hR1 hR2 hg1 hg2 hat1 hat2 hRv
              go_wp2
              go_roundw
              case rel => exact ⟨_, _, by go_num, HN.out⟩
              case measure => simp [intOf]; omega
            · have hT2 : one l i = (16, 3, 6) := by rw [hT]; unfold told; rw [if_neg (by omega), if_neg (by omega), if_pos ⟨k1, k2, by omega⟩, Nat.min_eq_right (by omega)]; rfl
              have hpy : 0 < i ∧ y = v := by
                rcases HQ.out with ⟨_, a, b⟩ | ⟨a, _⟩ | ⟨a, _⟩
                · exact ⟨a, b⟩
                · rw [k2] at a; cases a
                · rw [k2] at a; cases a
              obtain ⟨hp0, rfl⟩ := hpy
              have hxp := hpr.out hp0
              clear hT HQ hpr
              go_upto_region 24 with (fail)
              go_upto_region 26 with (first
                | (at_builtin; refine Kd.R_append (Kd.int .i64) (w0 := w) w.heap.size rfl (.tmp 86) (.tmp 88) 25 3 (.int .i64 0) 8 rfl Try.underlying25 infoI rfl (by decide) (by omega) _ _ _ _ (fun _ => True) (fun _ => False) rfl rfl rfl (fun _ hk => hk.elim) (fun _ _ => trivial) hRv hb1 hb1.size (by rw [List.length_map]; have := HACC.out.len; omega) ?_; intro v1 w2 hR2 hb2 hg2 hat2)
                | (at_builtin; refine Kd.R_append (Kd.int .i64) (w0 := w) w.heap.size rfl (.tmp 82) (.tmp 84) 25 3 (.int .i64 0) 8 rfl Try.underlying25 infoI rfl (by decide) (by omega) _ _ _ _ (fun _ => True) (fun _ => False) rfl rfl rfl (fun _ hk => hk.elim) (fun _ _ => trivial) HACC.out.ru hbr hbr.size (by rw [List.length_map]; have := HACC.out.len; omega) ?_; intro u1 w1 hR1 hb1 hg1 hat1; have hRv := Kd.R_grown2 HACC.out.rv rfl hg1 HACC.out.ap))
              have hX := apart_next HACC.out.ru HACC.out.rv hR1 HACC.out.ap hat1 hat2
              have hN := HACC.out.next hi (u1 := u1) (v1 := v1) (w1 := w1) (w2 := w2) (by rw [hT2]; exact hR1) (by rw [hT2]; exact hR2) (by rw [hT2]; exact Kd.R_grown2 hR1 rfl hg2 hX.1) hX.2 hb2
              rw [hT2] at hN
              have HN := Lib.hid hN
              clear hN hX hR1 hR2 hg1 hg2 hat1 hat2 hRv
              go_wp2
              go_roundw
              case rel => exact ⟨_, _, by go_num, HN.out⟩
              case measure => simp [intOf]; omega
            · have hT2 : one l i = (16, (k : Int) - 3, k) := by rw [hT]; unfold told; rw [if_neg (by omega), if_neg (by omega), if_pos ⟨k1, k2, by omega⟩, Nat.min_eq_left (by omega)]
              have hpy : 0 < i ∧ y = v := by
                rcases HQ.out with ⟨_, a, b⟩ | ⟨a, _⟩ | ⟨a, _⟩
                · exact ⟨a, b⟩
                · rw [k2] at a; cases a
                · rw [k2] at a; cases a
              obtain ⟨hp0, rfl⟩ := hpy
              have hxp := hpr.out hp0
              clear hT HQ hpr
              go_upto_region 24 with (fail)
              go_upto_region 26 with (first
                | (at_builtin; refine Kd.R_append (Kd.int .i64) (w0 := w) w.heap.size rfl (.tmp 86) (.tmp 88) 25 3 (.int .i64 0) 8 rfl Try.underlying25 infoI rfl (by decide) (by omega) _ _ _ _ (fun _ => True) (fun _ => False) rfl rfl rfl (fun _ hk => hk.elim) (fun _ _ => trivial) hRv hb1 hb1.size (by rw [List.length_map]; have := HACC.out.len; omega) ?_; intro v1 w2 hR2 hb2 hg2 hat2)
                | (at_builtin; refine Kd.R_append (Kd.int .i64) (w0 := w) w.heap.size rfl (.tmp 82) (.tmp 84) 25 3 (.int .i64 0) 8 rfl Try.underlying25 infoI rfl (by decide) (by omega) _ _ _ _ (fun _ => True) (fun _ => False) rfl rfl rfl (fun _ hk => hk.elim) (fun _ _ => trivial) HACC.out.ru hbr hbr.size (by rw [List.length_map]; have := HACC.out.len; omega) ?_; intro u1 w1 hR1 hb1 hg1 hat1; have hRv := Kd.R_grown2 HACC.out.rv rfl hg1 HACC.out.ap))
              have hX := apart_next HACC.out.ru HACC.out.rv hR1 HACC.out.ap hat1 hat2
              have hN := HACC.out.next hi (u1 := u1) (v1 := v1) (w1 := w1) (w2 := w2) (by rw [hT2]; exact hR1) (by rw [hT2]; exact hR2) (by rw [hT2]; exact Kd.R_grown2 hR1 rfl hg2 hX.1) hX.2 hb2
              rw [hT2] at hN
              have HN := Lib.hid hN
              clear hN hX hR1 hR2 hg1 hg2 hat1 hat2 hRv
              go_wp2
              go_roundw
              case rel => exact ⟨_, _, by go_num, HN.out⟩
              case measure => simp [intOf]; omega
            · have hT2 : one l i = (v, 0, 1) := by rw [hT]; unfold told; rw [if_neg (by omega), if_neg (by omega), if_neg (by omega)]
              have hpy : 0 < i ∧ y = v := by
                rcases HQ.out with ⟨_, a, b⟩ | ⟨a, _⟩ | ⟨a, _⟩
                · exact ⟨a, b⟩
                · rw [k2] at a; cases a
                · rw [k2] at a; cases a
              obtain ⟨hp0, rfl⟩ := hpy
              have hxp := hpr.out hp0
              clear hT HQ hpr
              go_upto_region 24 with (fail)
              go_upto_region 26 with (first
                | (at_builtin; refine Kd.R_append (Kd.int .i64) (w0 := w) w.heap.size rfl (.tmp 86) (.tmp 88) 25 3 (.int .i64 0) 8 rfl Try.underlying25 infoI rfl (by decide) (by omega) _ _ _ _ (fun _ => True) (fun _ => False) rfl rfl rfl (fun _ hk => hk.elim) (fun _ _ => trivial) hRv hb1 hb1.size (by rw [List.length_map]; have := HACC.out.len; omega) ?_; intro v1 w2 hR2 hb2 hg2 hat2)
                | (at_builtin; refine Kd.R_append (Kd.int .i64) (w0 := w) w.heap.size rfl (.tmp 82) (.tmp 84) 25 3 (.int .i64 0) 8 rfl Try.underlying25 infoI rfl (by decide) (by omega) _ _ _ _ (fun _ => True) (fun _ => False) rfl rfl rfl (fun _ hk => hk.elim) (fun _ _ => trivial) HACC.out.ru hbr hbr.size (by rw [List.length_map]; have := HACC.out.len; omega) ?_; intro u1 w1 hR1 hb1 hg1 hat1; have hRv := Kd.R_grown2 HACC.out.rv rfl hg1 HACC.out.ap))
              have hX := apart_next HACC.out.ru HACC.out.rv hR1 HACC.out.ap hat1 hat2
              have hN := HACC.out.next hi (u1 := u1) (v1 := v1) (w1 := w1) (w2 := w2) (by rw [hT2]; exact hR1) (by rw [hT2]; exact hR2) (by rw [hT2]; exact Kd.R_grown2 hR1 rfl hg2 hX.1) hX.2 hb2
              rw [hT2] at hN
              have HN := Lib.hid hN
              clear hN hX hR1 hR2 hg1 hg2 hat1 hat2 hRv
              go_wp2
              go_roundw
              case rel => exact ⟨_, _, by go_num, HN.out⟩
              case measure => simp [intOf]; omega
            · have hT2 : one l i = (v, 0, 1) := by rw [hT]; unfold told; rw [if_neg (by omega), if_neg (by omega), if_neg (by rw [k2]; simp)]
              have hpy : i = 0 ∨ (0 < i ∧ (y == v) = false) := by
                rcases HQ.out with ⟨a, _⟩ | ⟨_, a⟩ | ⟨_, a, b⟩
                · rw [k2] at a; cases a
                · exact .inl a
                · exact .inr ⟨a, beq_eq_false_iff_ne.mpr b⟩
              rcases hpy with rfl | ⟨hp0, hyv⟩
              · clear hT HQ hpr
                go_upto_region 24 with (fail)
                go_upto_region 26 with (first
                  | (at_builtin; refine Kd.R_append (Kd.int .i64) (w0 := w) w.heap.size rfl (.tmp 86) (.tmp 88) 25 3 (.int .i64 0) 8 rfl Try.underlying25 infoI rfl (by decide) (by omega) _ _ _ _ (fun _ => True) (fun _ => False) rfl rfl rfl (fun _ hk => hk.elim) (fun _ _ => trivial) hRv hb1 hb1.size (by rw [List.length_map]; have := HACC.out.len; omega) ?_; intro v1 w2 hR2 hb2 hg2 hat2)
                  | (at_builtin; refine Kd.R_append (Kd.int .i64) (w0 := w) w.heap.size rfl (.tmp 82) (.tmp 84) 25 3 (.int .i64 0) 8 rfl Try.underlying25 infoI rfl (by decide) (by omega) _ _ _ _ (fun _ => True) (fun _ => False) rfl rfl rfl (fun _ hk => hk.elim) (fun _ _ => trivial) HACC.out.ru hbr hbr.size (by rw [List.length_map]; have := HACC.out.len; omega) ?_; intro u1 w1 hR1 hb1 hg1 hat1; have hRv := Kd.R_grown2 HACC.out.rv rfl hg1 HACC.out.ap))
                have hX := apart_next HACC.out.ru HACC.out.rv hR1 HACC.out.ap hat1 hat2
                have hN := HACC.out.next hi (u1 := u1) (v1 := v1) (w1 := w1) (w2 := w2) (by rw [hT2]; exact hR1) (by rw [hT2]; exact hR2) (by rw [hT2]; exact Kd.R_grown2 hR1 rfl hg2 hX.1) hX.2 hb2
                rw [hT2] at hN
                have HN := Lib.hid hN
                clear hN hX hR1 hR2 hg1 hg2 hat1 hat2 hRv
                go_wp2
                go_roundw
                case rel => exact ⟨_, _, by go_num, HN.out⟩
                case measure => simp [intOf]; omega
              · have hxp := hpr.out hp0
                clear hT HQ hpr
                go_upto_region 24 with (fail)
                go_upto_region 26 with (first
                  | (at_builtin; refine Kd.R_append (Kd.int .i64) (w0 := w) w.heap.size rfl (.tmp 86) (.tmp 88) 25 3 (.int .i64 0) 8 rfl Try.underlying25 infoI rfl (by decide) (by omega) _ _ _ _ (fun _ => True) (fun _ => False) rfl rfl rfl (fun _ hk => hk.elim) (fun _ _ => trivial) hRv hb1 hb1.size (by rw [List.length_map]; have := HACC.out.len; omega) ?_; intro v1 w2 hR2 hb2 hg2 hat2)
                  | (at_builtin; refine Kd.R_append (Kd.int .i64) (w0 := w) w.heap.size rfl (.tmp 82) (.tmp 84) 25 3 (.int .i64 0) 8 rfl Try.underlying25 infoI rfl (by decide) (by omega) _ _ _ _ (fun _ => True) (fun _ => False) rfl rfl rfl (fun _ hk => hk.elim) (fun _ _ => trivial) HACC.out.ru hbr hbr.size (by rw [List.length_map]; have := HACC.out.len; omega) ?_; intro u1 w1 hR1 hb1 hg1 hat1; have hRv := Kd.R_grown2 HACC.out.rv rfl hg1 HACC.out.ap))
                have hX := apart_next HACC.out.ru HACC.out.rv hR1 HACC.out.ap hat1 hat2
                have hN := HACC.out.next hi (u1 := u1) (v1 := v1) (w1 := w1) (w2 := w2) (by rw [hT2]; exact hR1) (by rw [hT2]; exact hR2) (by rw [hT2]; exact Kd.R_grown2 hR1 rfl hg2 hX.1) hX.2 hb2
                rw [hT2] at hN
                have HN := Lib.hid hN
                clear hN hX hR1 hR2 hg1 hg2 hat1 hat2 hRv
                go_wp2
                go_roundw
                case rel => exact ⟨_, _, by go_num, HN.out⟩
                case measure => simp [intOf]; omega
    · have hz : l.length = i := by omega
      have hE : Hid (Acc l w wr w.heap.size _ _ l.length (from_ l 0)) := Lib.hid (by
        have h := HACC.out
        have ha := h.all
        rw [from_end l i (by omega), List.append_nil] at ha
        rw [← ha, hz]
        exact h)
      clear HACC
      go_wp2
      go_ret2
      exact ⟨_, _, rfl, hE.out⟩
end Go.Proofs.Ytmecigllpdeeoaa.Run
