/- hamperlaw19.TarRecords walked. -/
import Derived.Test.YtfnncfgdlinmcaaDoorRecS
import Derived.Deep.CutBlock
set_option linter.unusedVariables false
set_option linter.unusedSimpArgs false
namespace Go.Proofs.YtfnncfgdlinmcaaDoor.Rec
open Go.BigFrame Go.Proofs.YtfnncfgdlinmcaaDoor.Reg Go.RowKit Go.Lib Go.Proofs.YtfnncfgdlinmcaaDoorW.PrintWords Go.Proofs.YtfnncfgdlinmcaaDoorW.PrintLast Go.Proofs.YtfnncfgdlinmcaaDoorW.PrintMore
theorem sayPath_calls (w : World) (hL : Laid w) :
    Calls Tryd.prog 12 #[.string ⟨#[112, 97, 116, 104]⟩, .string ⟨#[97]⟩] w fun e w' => e = .returned (.string ⟨#[57, 32, 112, 97, 116, 104, 61, 97, 10]⟩) ∧ Below w.heap.size w w' := by
  refine (say_calls ⟨#[112, 97, 116, 104]⟩ ⟨#[97]⟩ (by decide) (by decide) w hL).mono ?_
  rintro e w' ⟨⟨N, hN, rfl⟩, hb⟩
  have h9 : N = 9 := by
    have h1 := hN.1
    have h2 := dl_pos N
    have h3 := hN.2.1 9 (by decide) (by rw [dl_of _ (by decide)]; decide)
    have h4 : ([112, 97, 116, 104] : List UInt8).length = 4 := rfl
    have h5 : ([97] : List UInt8).length = 1 := rfl
    simp only [h4, h5] at h1
    omega
  subst h9
  refine ⟨?_, hb⟩
  rw [show decDigits 9 = [57] by rw [decDigits, dif_pos (by decide)]; decide]
  rfl
attribute [local go_sem] max2_int min2_int max_two min_two max_three min_three
/-- The first m pairs, said. -/
def Upto (ks vs : List ByteArray) (m : Nat) (s : ByteArray) : Prop := m ≤ ks.length ∧ m ≤ vs.length ∧ m ≤ 50 ∧ Saids ((ks.zip vs).take m) s.data.toList ∧ s.size ≤ m * 20020
theorem rdOf_at (xs : List ByteArray) (i : Nat) (h : i < xs.length) : rdOf ByteArray.empty xs (i : Int) = xs[i] := by
  unfold rdOf
  rw [Int.toNat_natCast, List.getD_eq_getElem?_getD, List.getElem?_eq_getElem h]
  rfl
theorem upto_next (ks vs : List ByteArray) (i : Nat) (s1 key val sy : ByteArray) (N : Nat) (h : Upto ks vs i s1) (h1 : i < ks.length) (h2 : i < vs.length) (h3 : i < 50) (hk : rdOf ByteArray.empty ks (i : Int) = key) (hv : rdOf ByteArray.empty vs (i : Int) = val) (hN : SayIs key.data.toList val.data.toList N) (he : key.toList.isEmpty = false) (h61 : (61 : UInt8) ∉ key.data.toList) (hs : B (decDigits N ++ tailOf key.data.toList val.data.toList) = sy) (hz : sy.size ≤ 20020) : Upto ks vs (i + 1) (s1 ++ sy) := by
  obtain ⟨a, b, c, d, e⟩ := h
  refine ⟨by omega, by omega, by omega, ?_, ?_⟩
  · have hl : i < (ks.zip vs).length := by rw [List.length_zip]; omega
    have hp : (ks.zip vs)[i] = (key, val) := by rw [List.getElem_zip, ← hk, ← hv, rdOf_at ks i h1, rdOf_at vs i h2]
    rw [List.take_succ_eq_append_getElem hl, hp, ByteArray.data_append, Array.toList_append]
    refine saids_app _ _ _ _ d ⟨N, [], hN, ?_, h61, rfl, ?_⟩
    · rw [ByteArray.toList_eq key] at he
      intro h0
      rw [h0] at he
      cases he
    · rw [← hs, B_data, List.append_nil]
  · rw [ByteArray.size_append]; omega
theorem zip_fst : ∀ (ks vs : List ByteArray) (m : Nat), m ≤ ks.length → m ≤ vs.length → ((ks.zip vs).take m).map (·.1) = ks.take m
  | _, _, 0, _, _ => by simp
  | [], _, m + 1, h1, _ => by simp at h1
  | _ :: _, [], m + 1, _, h2 => by simp at h2
  | k :: ks, v :: vs, m + 1, h1, h2 => by
    have := zip_fst ks vs m (by simpa using h1) (by simpa using h2)
    rw [List.zip_cons_cons, List.take_succ_cons, List.take_succ_cons, List.map_cons, this]
theorem zip_snd : ∀ (ks vs : List ByteArray) (m : Nat), m ≤ ks.length → m ≤ vs.length → ((ks.zip vs).take m).map (·.2) = vs.take m
  | _, _, 0, _, _ => by simp
  | [], _, m + 1, h1, _ => by simp at h1
  | _ :: _, [], m + 1, _, h2 => by simp at h2
  | k :: ks, v :: vs, m + 1, h1, h2 => by
    have := zip_snd ks vs m (by simpa using h1) (by simpa using h2)
    rw [List.zip_cons_cons, List.take_succ_cons, List.take_succ_cons, List.map_cons, this]
theorem rd_take (xs : List ByteArray) (m i : Nat) (h : i < m) : rdOf ByteArray.empty (xs.take m) (i : Int) = rdOf ByteArray.empty xs (i : Int) := by
  unfold rdOf
  rw [List.getD_eq_getElem?_getD, List.getD_eq_getElem?_getD, Int.toNat_natCast, List.getElem?_take, if_pos h]
set_option maxRecDepth 100000 in
set_option maxHeartbeats 8000000 in
theorem records_walk (A1 A2 : Option Addr) (c1 c2 : Nat) (ks vs : List ByteArray) (w : World) (hk : Kd.string.C w A1 ks.length ks) (hv : Kd.string.C w A2 vs.length vs) (hL : Laid w) :
    Calls Tryd.prog 4 #[.slice A1 ks.length c1, .slice A2 vs.length c2] w fun e w' => e = .returned (.bool true) ∧ Below w.heap.size w w' := by
  have HK := Lib.hid hk
  have HV := Lib.hid hv
  have HL := Lib.hid hL
  clear hk hv hL
  go_enter Tryd.func4, Tryd.ntmps4
  go_upto_region 2 with (fail)
  go_cut [6] (fun n wc => ∃ n0 : Nat, n = .int .i64 n0 ∧ Hid (n0 ≤ ks.length ∧ n0 ≤ vs.length ∧ n0 ≤ 50) ∧ w = wc)
  case first =>
    go_wp2
    all_goals (go_meet)
    all_goals first
      | (exact ⟨50, rfl, Lib.hid (by omega), rfl⟩)
      | (exact ⟨ks.length, rfl, Lib.hid (by omega), rfl⟩)
      | (exact ⟨vs.length, rfl, Lib.hid (by omega), rfl⟩)
  case rest =>
    obtain ⟨n0, rfl, HN0, rfl⟩ := hcut
    go_upto_block 0 with (fail)
    go_cut [5, 6] (fun s n w1 => ∃ (m : Nat) (s1 : ByteArray), s = .string s1 ∧ n = .int .i64 m ∧ Hid (Upto ks vs m s1) ∧ Below w.heap.size w w1)
    case first =>
      go_wp2
      go_loopw [5, 6, 7] (fun s n j wr => ∃ (i : Nat) (s1 : ByteArray), s = .string s1 ∧ n = .int .i64 n0 ∧ j = .int .i64 i ∧ i ≤ n0 ∧ Hid (Upto ks vs i s1) ∧ Below w.heap.size w wr) (fun _ _ j _ => n0 - (RowKit.intOf j).toNat)
      case atStart => exact ⟨0, ⟨#[]⟩, rfl, rfl, rfl, by omega, Lib.hid ⟨by omega, by omega, by omega, rfl, by decide⟩, Below.refl _ _⟩
      case round =>
        obtain ⟨i, s1, rfl, rfl, rfl, hi, HS, hb⟩ := hrel
        by_cases hlt : i < n0
        · obtain ⟨ad1, hA1, hx1⟩ := Kd.at_string (Kd.C_below HK.out hb) (i : Int) (by omega) (by have := HN0.out.1; omega)
          subst hA1
          obtain ⟨ad2, hA2, hx2⟩ := Kd.at_string (Kd.C_below HV.out hb) (i : Int) (by omega) (by have := HN0.out.2.1; omega)
          subst hA2
          rw [Int.toNat_natCast] at hx1 hx2
          have hin : Hid (i < ks.length ∧ i < vs.length) := Lib.hid (by have := HN0.out; omega)
          have HKey := Lib.hid (rfl : rdOf ByteArray.empty ks (i : Int) = rdOf ByteArray.empty ks (i : Int))
          obtain ⟨key, hkey⟩ : ∃ key, rdOf ByteArray.empty ks (i : Int) = key := ⟨_, rfl⟩
          obtain ⟨val, hval⟩ : ∃ val, rdOf ByteArray.empty vs (i : Int) = val := ⟨_, rfl⟩
          rw [hkey] at hx1
          rw [hval] at hx2
          have HKE := Lib.hid hkey
          have HVA := Lib.hid hval
          clear hkey hval HKey
          have c0 : (i : Int) < ks.length := by have := hin.out.1; omega
          have c9 : (i : Int) < vs.length := by have := hin.out.2; omega
          cases he : key.toList.isEmpty
          · by_cases c1 : 10000 < key.size
            · go_wp2
              go_meet
              case rel => exact ⟨i, s1, rfl, rfl, HS, hb⟩
            by_cases c2 : 10000 < val.size
            · go_wp2
              go_meet
              case rel => exact ⟨i, s1, rfl, rfl, HS, hb⟩
            go_wp2
            have HB := Lib.hid hb
            clear hb
            go_loopw [8] (fun j w2 => ∃ t : Nat, j = .int .i64 t ∧ t ≤ key.size ∧ Hid (∀ q, q < t → key.data.toList[q]? ≠ some 61) ∧ wr = w2) (fun j _ => key.size - (RowKit.intOf j).toNat)
            case atStart => exact ⟨0, rfl, by omega, Lib.hid (fun q hq => absurd hq (by omega)), rfl⟩
            case round =>
              obtain ⟨t, rfl, htk, HQ, rfl⟩ := hrel
              by_cases ht : t < key.size
              · have hget : ∀ h : t < key.size, key.data.toList[t]? = some (key[t]'h) := fun h => by
                  rw [List.getElem?_eq_getElem (by rw [Array.length_toList]; exact h)]
                  rfl
                by_cases h6 : key.data.toList[t]? = some 61
                · have hq : ∀ h : t < key.size, (((key[t]'h).toNat : Int) == 61) = true := fun h => by
                    have h7 := hget h
                    rw [h6] at h7
                    rw [← Option.some.inj h7]
                    rfl
                  have H1 := Lib.hid (sayPath_calls wr (HL.out.below HB.out))
                  clear hget h6
                  go_wp2_with (go_at_call 12; refine H1.out.mono ?_; rintro e w3 ⟨rfl, hb3⟩)
                  go_ret
                  exact ⟨by first | rfl | simp, Reg.bgo HB.out hb3⟩
                · have hq : ∀ h : t < key.size, (((key[t]'h).toNat : Int) == 61) = false := fun h => by
                    have h7 := hget h
                    refine beq_eq_false_iff_ne.2 (fun h8 => h6 ?_)
                    rw [h7]
                    congr 1
                    apply UInt8.toNat_inj.1
                    show (key[t]'h).toNat = 61
                    omega
                  have HQ2 : Hid (∀ q, q < t + 1 → key.data.toList[q]? ≠ some 61) := Lib.hid (fun q hq2 => by
                    rcases Nat.lt_or_ge q t with h | h
                    · exact HQ.out q h
                    · obtain rfl : q = t := by omega
                      exact h6)
                  clear hget h6
                  go_wp2
                  go_roundw
                  case rel => exact ⟨t + 1, by go_num, by omega, HQ2, by trivial⟩
                  case measure => simp [RowKit.intOf]; omega
              · obtain rfl : t = key.size := by omega
                have h61 : Hid ((61 : UInt8) ∉ key.data.toList) := Lib.hid (fun hm => by
                  obtain ⟨q, hq1, hq2⟩ := List.mem_iff_getElem.1 hm
                  have h8 : q < key.size := by rw [Array.length_toList] at hq1; exact hq1
                  exact HQ.out q h8 (by rw [List.getElem?_eq_getElem hq1, hq2]))
                obtain ⟨N, hN⟩ := say_exists key.data.toList val.data.toList (by rw [Array.length_toList]; exact Nat.le_of_not_lt c1) (by rw [Array.length_toList]; exact Nat.le_of_not_lt c2)
                obtain ⟨sy, hsy⟩ : ∃ sy, B (decDigits N ++ tailOf key.data.toList val.data.toList) = sy := ⟨_, rfl⟩
                have hszy : sy.size ≤ 20020 := by
                  rw [← hsy, B_size, List.length_append, tail_len]
                  have e1 : key.data.toList.length = key.data.size := Array.length_toList
                  have e2 : val.data.toList.length = val.data.size := Array.length_toList
                  have h1 := hN.2.2
                  have h2 := hN.1
                  have h3 : (decDigits N).length = dl N := rfl
                  have c1' : key.data.size ≤ 10000 := Nat.le_of_not_lt c1
                  have c2' : val.data.size ≤ 10000 := Nat.le_of_not_lt c2
                  omega
                have hsz1 : s1.size ≤ 1001000 := by have h1 := HS.out.2.2.2.2; have h2 := HS.out.2.2.1; omega
                have HSay : Hid (∀ w, Laid w → Calls Tryd.prog 12 #[.string key, .string val] w fun e w' => e = .returned (.string sy) ∧ Below w.heap.size w w') := Lib.hid (fun w hL => by rw [← hsy]; exact say_at key val N hN (Nat.le_of_not_lt c1) (Nat.le_of_not_lt c2) w hL)
                have HSY := Lib.hid hsy
                have HNN := Lib.hid hN
                clear hsy hN
                have HUp : Hid (Upto ks vs (i + 1) (s1 ++ sy)) := Lib.hid (upto_next ks vs i s1 key val sy N HS.out hin.out.1 hin.out.2 (Nat.lt_of_lt_of_le hlt HN0.out.2.2) HKE.out HVA.out HNN.out he h61.out HSY.out hszy)
                have i50 : i ≤ 50 := Nat.le_trans hi HN0.out.2.2
                go_upto_region 13 with (fail)
                refine wp_world ?_
                intro w1 hw1
                rw [← hw1] at hx1 hx2
                have HB1 : Hid (Below w.heap.size w w1) := Lib.hid (by rw [hw1]; exact HB.out)
                clear HB hw1
                refine wp_region_above (by kernel_rfl) (by kernel_rfl) ?_
                intro ne
                have q1 : ∀ n : Abv w1, n.w.cell? (ad1.add i) = some (.string key) := fun n => n.cell hx1
                have q2 : ∀ n : Abv w1, n.w.cell? (ad2.add i) = some (.string val) := fun n => n.cell hx2
                repeat (go_big_quiet_step ((go_at_call 12; exact Abv.call _ (HSay.out _ (HL.out.below (Reg.bgo HB1.out (Abv.bel _)))))))
                refine quiet_above ?_
                intro w2 hb2
                go_wp2
                go_roundw
                case rel => exact ⟨i + 1, s1 ++ sy, rfl, rfl, by go_num, hlt, HUp, Reg.bgo HB1.out hb2⟩
                case measure => simp [RowKit.intOf]; omega
          · go_wp2
            go_meet
            case rel => exact ⟨i, s1, rfl, rfl, HS, hb⟩
        · obtain rfl : i = n0 := by omega
          go_wp2
          go_meet
          case rel => exact ⟨i, s1, rfl, rfl, HS, hb⟩
    case rest =>
      obtain ⟨m, s1, rfl, rfl, HU, hb⟩ := hcut
      have H1 := Lib.hid (said_calls ((ks.zip vs).take m) s1 HU.out.2.2.2.1 (by rw [List.length_take]; have := HU.out.2.2.1; omega) (by have := HU.out.2.2.2.2; have := HU.out.2.2.1; omega) wc (HL.out.below hb))
      rw [zip_fst ks vs m HU.out.1 HU.out.2.1, zip_snd ks vs m HU.out.1 HU.out.2.1] at H1
      have hla : (ks.take m).length = m := by rw [List.length_take]; have := HU.out.1; omega
      have hlb : (vs.take m).length = m := by rw [List.length_take]; have := HU.out.2.1; omega
      have HRA : Hid (∀ i : Nat, i < m → rdOf ByteArray.empty (ks.take m) (i : Int) = rdOf ByteArray.empty ks (i : Int)) := Lib.hid (fun i hi => rd_take ks m i hi)
      have HRB : Hid (∀ i : Nat, i < m → rdOf ByteArray.empty (vs.take m) (i : Int) = rdOf ByteArray.empty vs (i : Int)) := Lib.hid (fun i hi => rd_take vs m i hi)
      generalize ks.take m = ka at *
      generalize vs.take m = va at *
      go_upto_region 15 with (go_at_call 13; refine H1.out.mono ?_; rintro e w2 ⟨u, v, rfl, hRu, hRv, hb2⟩)
      obtain ⟨Au, cu, rfl, hcu, hCu⟩ := Kd.R_reads hRu
      obtain ⟨Av, cv, rfl, hcv, hCv⟩ := Kd.R_reads hRv
      clear hRu hRv hcu hcv
      have hbb := Reg.bgo hb hb2
      have H2 := Lib.hid (sayPath_calls w2 (HL.out.below hbb))
      rw [hla] at hCu ⊢
      rw [hlb] at hCv ⊢
      go_upto_region 17 with (go_at_call 12; refine H2.out.mono ?_; rintro e w3 ⟨rfl, hb3⟩)
      have hb23 := Reg.bgo hbb hb3
      have HCu := Lib.hid (Kd.C_below hCu hb3)
      have HCv := Lib.hid (Kd.C_below hCv hb3)
      have HK3 := Lib.hid (Kd.C_below HK.out hb23)
      have HV3 := Lib.hid (Kd.C_below HV.out hb23)
      have HM := Lib.hid HU.out
      clear hb hb2 hb3 hbb hCu hCv hla hlb HU H1 H2
      go_wp2
      go_loopw [12] (fun j wr => ∃ i : Nat, j = .int .i64 i ∧ i ≤ m ∧ Below w3.heap.size w3 wr) (fun j _ => m - (RowKit.intOf j).toNat)
      case atStart => exact ⟨0, rfl, by omega, Below.refl _ _⟩
      case round =>
        obtain ⟨i, rfl, hi, hbr⟩ := hrel
        have i50 : i ≤ 50 := Nat.le_trans hi HM.out.2.2.1
        by_cases him : i < m
        · obtain ⟨ad1, hA1, hx1⟩ := Kd.at_string (Kd.C_below HCu.out hbr) (i : Int) (by omega) (by omega)
          subst hA1
          obtain ⟨ad2, hA2, hx2⟩ := Kd.at_string (Kd.C_below HCv.out hbr) (i : Int) (by omega) (by omega)
          subst hA2
          obtain ⟨ad3, hA3, hx3⟩ := Kd.at_string (Kd.C_below HK3.out hbr) (i : Int) (by omega) (by have := HM.out.1; omega)
          subst hA3
          obtain ⟨ad4, hA4, hx4⟩ := Kd.at_string (Kd.C_below HV3.out hbr) (i : Int) (by omega) (by have := HM.out.2.1; omega)
          subst hA4
          rw [HRA.out i him] at hx1
          rw [HRB.out i him] at hx2
          rw [Int.toNat_natCast] at hx1 hx2 hx3 hx4
          have c0 : (i : Int) < ks.length := by have := HM.out.1; omega
          have c9 : (i : Int) < vs.length := by have := HM.out.2.1; omega
          generalize rdOf ByteArray.empty ks (i : Int) = key at *
          generalize rdOf ByteArray.empty vs (i : Int) = val at *
          have hne1 : (key.toList != key.toList) = false := by simp
          have hne2 : (val.toList != val.toList) = false := by simp
          go_upto_region 20 with (fail)
          go_region
          go_wp2
          go_roundw
          case rel => exact ⟨i + 1, by go_num, by omega, Reg.bdrew hbr⟩
          case measure => simp [RowKit.intOf]; omega
        · go_wp2
          go_ret
          exact ⟨rfl, Reg.bgo hb23 hbr⟩
end Go.Proofs.YtfnncfgdlinmcaaDoor.Rec
