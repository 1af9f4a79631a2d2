/- hamperlaw18.TreeAgain walked. -/
import Derived.Test.YtoiffnoiliknnaaDoorTreeA0
set_option linter.unusedVariables false
namespace Go.Proofs.YtoiffnoiliknnaaDoor.Tree
open Go.RowKit Go.BigFrame Go.Maps Go.Proofs.YtoiffnoiliknnaaDoor.Reg Go.Proofs.YtoiffnoiliknnaaDoor.Rout Go.Proofs.YtoiffnoiliknnaaDoor.Node Go.Proofs.YtoiffnoiliknnaaDoor.Tim Go.Proofs.YtoiffnoiliknnaaDoorW.PrintWords Go.Proofs.YtoiffnoiliknnaaDoorW.PrintLast Go.Proofs.YtoiffnoiliknnaaDoorW.PrintMore
set_option maxRecDepth 100000 in
set_option maxHeartbeats 16000000 in
theorem again_law (A : Option Addr) (c : Nat) (l : List Nd) (fmt : Int) (w : World) (hC : kN.C w A l.length l) (hok : ∀ x ∈ l, Ok x) (hl : l.length * 64 ≤ 140737488355328) :
    Calls Tryd.prog 4 #[.slice A l.length c, .int .i64 fmt] w fun e w' => e = .returned (.bool true) ∧ Below w.heap.size w w' := by
  have HC := Lib.hid hC
  have HOK := Lib.hid hok
  have HPR := Lib.hid (fun W (h : Below w.heap.size w W) => project_calls A c l fmt W (Kd.C_below HC.out h) hok hl)
  clear hC hok
  by_cases he : (projF l fmt).2 = 0
  · obtain ⟨hm, hag, hck⟩ := proj_again l fmt he
    have hlen : (projF l fmt).1.length = l.length := by rw [hm, List.length_map]
    have hrow : ∀ k, k < l.length → (rdN (projF l fmt).1 k).f0 = (rdN l k).f0 ∧ (rdN (projF l fmt).1 k).f1 = (rdN l k).f1 ∧ (rdN (projF l fmt).1 k).f2 = (rdN l k).f2 := fun k hk => by
      rw [hm, rdN_map _ l k hk]
      exact kept_same _ _
    have hokm : ∀ x ∈ (projF l fmt).1, Ok x := fun x hx => by
      rw [hm] at hx
      obtain ⟨z, hz, rfl⟩ := List.mem_map.1 hx
      exact (HOK.out z hz).kept fmt
    have HROW := Lib.hid hrow
    have HOKM := Lib.hid hokm
    have HCK := Lib.hid hck
    rw [he] at HPR
    have HAG := Lib.hid hag
    clear hrow hokm hck hm hag he
    generalize (projF l fmt).1 = m at *
    have HPR2 := Lib.hid (fun W A c (h : kN.C W A m.length m) => project_calls A c m fmt W h HOKM.out (by omega))
    rw [HAG.out] at HPR2
    have HSA := Lib.hid (fun W A B c d (h : kN.C W A m.length m) (h2 : kN.C W B m.length m) => same_calls A B c d m m W h h2 HOKM.out HOKM.out (by omega) (by omega))
    rw [sameB_refl] at HSA
    have HCH := Lib.hid (fun W A c (h : kN.C W A m.length m) => check_calls A c m W h HOKM.out (by omega))
    rw [HCK.out] at HCH
    have HL := Lib.hid hlen
    have hne : ((m.length : Int) != (l.length : Int)) = false := by simp; omega
    clear HCK HAG hlen
    go_enter Tryd.func4, Tryd.ntmps4
    go_wp2_with (first
      | (go_at_call 8; with_reducible refine (probe_at w _ rfl).mono ?_; rintro e w1 ⟨g0, c0, rfl, hz, hb1⟩; have HB1 := Lib.hid hb1; clear hb1)
      | (go_at_call 8; with_reducible refine (HPR.out _ HB1.out).mono ?_; rintro e w2 ⟨v, rfl, hR, hb2⟩; obtain ⟨A1, c1, rfl, hc1, hC1⟩ := Kd.R_reads hR; have HC1 := Lib.hid hC1; have HB2 := Lib.hid (bgo HB1.out hb2); clear hR hC1 hb2)
      | (go_at_call 8; with_reducible refine (HPR2.out _ _ _ HC1.out).mono ?_; rintro e w3 ⟨v, rfl, hR, hb3⟩; obtain ⟨A2, c2, rfl, hc2, hC2⟩ := Kd.R_reads hR; have HC2 := Lib.hid hC2; have HC12 := Lib.hid (Kd.C_below HC1.out hb3); have HB3 := Lib.hid (bgo HB2.out hb3); clear hR hC2 hb3)
      | (go_at_call 14; refine (HSA.out _ _ _ _ _ HC12.out HC2.out).mono ?_; rintro e w4 ⟨rfl, hb4⟩; have HC4 := Lib.hid (Kd.C_below HC12.out hb4); have HB4 := Lib.hid (bgo HB3.out hb4); clear hb4))
    have cst := fun (n : World) (A2 : Option Addr) (k c2 : Nat) (xs : List Int) (h : (Kd.int .u8).C n A2 k xs) => Kd.C_string (P := Tryd.prog) (w := n) (src := 33) (dst := 9) (c := c2) Tryd.underlying33 Tryd.underlying5 Tryd.underlying9 h
    have HCS := Lib.hid cst
    clear cst hz
    go_loopw [10] (fun i wr => ∃ k : Nat, i = .int .i64 k ∧ k ≤ m.length ∧ Below w4.heap.size w4 wr) (fun i _ => (m.length - intOf i).toNat)
    case atStart => exact ⟨0, rfl, by omega, Below.refl _ _⟩
    case round =>
      obtain ⟨k, rfl, hk, hbr⟩ := hrel
      have HC5 := Lib.hid (Kd.C_below HC4.out hbr)
      have HB5 := Lib.hid (bgo HB4.out hbr)
      by_cases hlt : k < m.length
      · have hlt2 : k < l.length := by have := HL.out; omega
        have HCA := Lib.hid (Kd.C_below HC.out HB5.out)
        obtain ⟨ad, D1, d1, hA', a0, a1, a2, a3, a4, _, hd⟩ := atN HC5.out (k : Int) (by omega) (by omega)
        obtain ⟨ad2, D2, d2, hB', b0, b1, b2, b3, b4, _, hd2⟩ := atN HCA.out (k : Int) (by omega) (by omega)
        obtain ⟨r0, r1, r2⟩ := HROW.out k hlt2
        rw [Int.toNat_natCast] at a0 a1 a2 a3 a4 b0 b1 b2 b3 b4
        rw [r0] at a0
        rw [r1] at a1
        rw [r2] at a2 hd
        clear r0 r1 r2 a3 a4 b3 b4
        generalize rdN l (k : Int) = x at *
        have k0 : (0 : Int) ≤ (k : Int) := by omega
        have k1 : (k : Int) < m.length := by omega
        have k2 : (k : Int) < l.length := by omega
        subst hA' hB'
        go_wp2
        refine wp_world ?_
        intro W1 hW1
        obtain rfl := hW1
        refine wp_region_above (by kernel_rfl) (by kernel_rfl) ?_
        intro ne
        have na0 := fun n : Abv W1 => n.cell a0
        have na1 := fun n : Abv W1 => n.cell a1
        have na2 := fun n : Abv W1 => n.cell a2
        have nb0 := fun n : Abv W1 => n.cell b0
        have nb1 := fun n : Abv W1 => n.cell b1
        have nb2 := fun n : Abv W1 => n.cell b2
        have nc1 : ∀ n : Abv W1, (convert 33 9 (.slice D1 x.f2.length d1)).run Tryd.prog n.w = .ok (.string (strOfNums x.f2)) n.w := fun n => HCS.out n.w D1 _ d1 _ (Kd.C_below hd n.bel)
        have nc2 : ∀ n : Abv W1, (convert 33 9 (.slice D2 x.f2.length d2)).run Tryd.prog n.w = .ok (.string (strOfNums x.f2)) n.w := fun n => HCS.out n.w D2 _ d2 _ (Kd.C_below hd2 n.bel)
        clear a0 a1 a2 b0 b1 b2 hd hd2
        repeat (go_big_quiet_step (fail))
        refine quiet_above ?_
        intro w6 hb6
        clear na0 na1 na2 nb0 nb1 nb2 nc1 nc2
        have HB7 := Lib.hid (bgo hbr hb6)
        clear hbr hb6 HC5 HCA HB5
        go_wp2
        go_roundw
        case rel => exact ⟨k + 1, by go_num, by omega, HB7.out⟩
        case measure => simp [intOf]; omega
      · go_wp2_with (go_at_call 15; refine (HCH.out _ _ _ HC5.out).mono ?_; rintro e w5 ⟨rfl, hb5⟩; have HB6 := Lib.hid (bgo HB5.out hb5); clear hb5)
        go_ret
        exact ⟨ret_bool rfl, HB6.out⟩
  · have hno := proj_no l fmt he
    have hne : ((projF l fmt).2 != 0) = true := by simpa using he
    rw [hno] at HPR
    clear hno he
    generalize (projF l fmt).2 = er at *
    go_enter Tryd.func4, Tryd.ntmps4
    go_wp2_with (first
      | (go_at_call 8; with_reducible refine (probe_at w _ rfl).mono ?_; rintro e w1 ⟨g0, c0, rfl, hz, hb1⟩; have HB1 := Lib.hid hb1; clear hb1)
      | (go_at_call 8; with_reducible refine (HPR.out _ HB1.out).mono ?_; rintro e w2 ⟨v, rfl, hR, hb2⟩; obtain ⟨A1, c1, rfl, _, _⟩ := Kd.R_reads hR; have HB2 := Lib.hid (bgo HB1.out hb2); clear hR hb2))
    go_ret
    exact ⟨ret_bool rfl, HB2.out⟩
end Go.Proofs.YtoiffnoiliknnaaDoor.Tree
