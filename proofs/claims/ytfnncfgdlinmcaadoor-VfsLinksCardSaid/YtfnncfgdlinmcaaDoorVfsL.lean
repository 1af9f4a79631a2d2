/- hamperlaw23.VfsLinks walked. -/
import Derived.Test.YtfnncfgdlinmcaaDoorVfsT
import Derived.Lib.SlBytesConst
set_option linter.unusedVariables false
set_option linter.unusedSimpArgs false
namespace Go.Proofs.YtfnncfgdlinmcaaDoor.Vfs
open Go.RowKit Go.BigFrame Go.Maps Go.Proofs.YtfnncfgdlinmcaaDoor.Reg Go.Proofs.YtfnncfgdlinmcaaDoor.Rout Go.Proofs.YtfnncfgdlinmcaaDoor.Node Go.Proofs.YtfnncfgdlinmcaaDoor.Tree Go.Proofs.YtfnncfgdlinmcaaDoorW.PrintWords Go.Proofs.YtfnncfgdlinmcaaDoorW.PrintLast Go.Proofs.YtfnncfgdlinmcaaDoorW.PrintMore
attribute [local go_sem ↓] Go.wp_at_zero Go.wp_at_succ
theorem fine_tree (l : List Nd) (T : IsTree l) : Fine (mapL l) := by
  have hm : ∀ p x, mapL l p = some x → validB x.f1 = true ∧ mayB x = true := fun p x h => ⟨T.valid x (mapL_f1 _ _ _ h).2, T.may x (mapL_f1 _ _ _ h).2⟩
  refine ⟨small_tree l T, fun p x h => valid_size _ (hm p x h).1, fun p x h => ?_, fun p x h => ?_⟩
  · by_cases h1 : x.f0 = 1
    · exact .inl h1
    by_cases h2 : x.f0 = 2
    · exact .inr (.inl h2)
    exact .inr (.inr (may_link x (hm p x h).2 h1 h2).1)
  · have h3 := (hm p x h).2
    unfold mayB kindB at h3
    by_cases h1 : x.f0 = 1
    · rw [if_pos h1] at h3; simp at h3; rw [h3.2]; simp
    by_cases h2 : x.f0 = 2
    · rw [if_neg h1, if_pos h2] at h3; simp at h3; omega
    have := (may_link x (hm p x h).2 h1 h2).2
    omega
theorem one_ok : ∀ x ∈ one, Ok x := by
  intro x hx
  simp only [one, List.mem_cons, List.mem_nil_iff, or_false] at hx
  rcases hx with rfl | rfl
  · exact ⟨fun b hb => absurd hb (by simp), by decide, by decide⟩
  · exact ⟨fun b hb => by simp at hb; omega, by decide, by decide⟩
theorem keep3 {P : Program} {f : FuncId} {args : Array Value} {v : Ending} {wr W : World} {a0 a1 a2 : Addr} {v0 v1 v2 : Value} (h : Calls P f args W fun e w' => e = v ∧ Below W.heap.size W w') (hb : Below wr.heap.size wr W) (h0 : wr.cell? a0 = some v0) (h1 : wr.cell? a1 = some v1) (h2 : wr.cell? a2 = some v2) :
    Calls P f args W fun e w' => e = v ∧ w'.cell? a0 = some v0 ∧ w'.cell? a1 = some v1 ∧ w'.cell? a2 = some v2 ∧ Hid (Below wr.heap.size wr w') :=
  h.mono fun _ _ ⟨he, hb2⟩ => ⟨he, bkeep (bgo hb hb2) h0, bkeep (bgo hb hb2) h1, bkeep (bgo hb hb2) h2, Lib.hid (bgo hb hb2)⟩
theorem NodeR.form {w : World} {base : Nat} {o : Option Nd} {V : Value} (h : NodeR w base o V) : ∃ (kd : Int) (s1 : ByteArray) (A : Option Addr) (n c : Nat) (m tm : Int), V = .agg #[.int .i64 kd, .string s1, .slice A n c, .int .i64 m, .int .i64 tm] := by
  cases o with
  | none => exact ⟨0, ⟨#[]⟩, none, 0, 0, 0, 0, h⟩
  | some x =>
    obtain ⟨v2, rfl, hR⟩ := h
    obtain ⟨A, c, rfl, _, _⟩ := Kd.R_reads hR
    exact ⟨_, _, _, _, _, _, _, rfl⟩
theorem one_in (W : World) (g q : Nat) (hq : W.cell? ⟨q, 0, none⟩ = some (.int .u8 97)) (h : ∀ k : Nat, W.cell? ⟨g, k, none⟩ = #[Value.int .i64 1, .string ⟨#[97]⟩, .slice none 0 0, .int .i64 0, .int .i64 0, .int .i64 3, .string ⟨#[98]⟩, .slice (some ⟨q, 0, none⟩) 1 1, .int .i64 0, .int .i64 0][k]?) : kN.C W (some ⟨g, 0, none⟩) one.length one := by
  refine ⟨rfl, by decide, fun _ => ⟨⟨g, 0, none⟩, rfl, fun j p hp => ?_⟩⟩
  have hadd : ∀ k, (Addr.mk g 0 none).add k = ⟨g, k, none⟩ := add_plain g
  have hd : (Kd.int .u8).C W (some ⟨q, 0, none⟩) [(97 : Int)].length [97] := by
    refine ⟨rfl, by decide, fun _ => ⟨⟨q, 0, none⟩, rfl, fun j p hp => ?_⟩⟩
    cases j with
    | zero =>
      obtain rfl : (97 : Int) = p := by simpa using hp
      refine ⟨[.int .u8 97], rfl, rfl, fun i u hu => ?_⟩
      cases i with
      | zero => rw [add_plain]; simp at hu; subst hu; exact hq
      | succ i => simp at hu
    | succ j => simp at hp
  cases j with
  | zero =>
    obtain rfl : (⟨1, ⟨#[97]⟩, [], 0, 0⟩ : Nd) = p := by simpa [one] using hp
    refine ⟨_, rfl, kN_mk W ⟨1, ⟨#[97]⟩, [], 0, 0⟩ (A2 := none) (c2 := 0) (Nat.le_refl _) ⟨rfl, by decide, fun h => absurd h (by decide)⟩, fun i u hu => ?_⟩
    rw [hadd, h, ← hu]
    match i, hu with
    | 0, _ => rfl
    | 1, _ => rfl
    | 2, _ => rfl
    | 3, _ => rfl
    | 4, _ => rfl
    | i + 5, hu => simp at hu
  | succ j =>
    cases j with
    | zero =>
      obtain rfl : (⟨3, ⟨#[98]⟩, [97], 0, 0⟩ : Nd) = p := by simpa [one] using hp
      refine ⟨_, rfl, kN_mk W ⟨3, ⟨#[98]⟩, [97], 0, 0⟩ (A2 := some ⟨q, 0, none⟩) (c2 := 1) (Nat.le_refl _) hd, fun i u hu => ?_⟩
      rw [hadd, h, ← hu]
      match i, hu with
      | 0, _ => rfl
      | 1, _ => rfl
      | 2, _ => rfl
      | 3, _ => rfl
      | 4, _ => rfl
      | i + 5, hu => simp at hu
    | succ j => simp [one] at hp
abbrev oneW (w : World) : World := (w.alloc (.cells #[.int .u8 97] 5 (1, 2))).alloc (.cells #[Value.int .i64 1, .string ⟨#[97]⟩, .slice none 0 0, .int .i64 0, .int .i64 0, .int .i64 3, .string ⟨#[98]⟩, .slice (some ⟨w.heap.size, 0, none⟩) 1 1, .int .i64 0, .int .i64 0] 45)
theorem new_one (w : World) : Calls Tryd.prog 14 #[.slice (some ⟨w.heap.size + 1, 0, none⟩) 2 2] (oneW w) fun e w' => ∃ b base, e = .returned (.tuple #[.pointer (some ⟨b + 1, 0, none⟩), .int .i64 0]) ∧ w'.cell? ⟨b + 1, 0, none⟩ = some (.map (some b)) ∧ MapAt w' base b 2 (fun q => q ≠ b + 1 ∧ q ≠ b) (mapL one) ∧ Below w.heap.size w w' := by
  have hq : (oneW w).cell? ⟨w.heap.size, 0, none⟩ = some (.int .u8 97) := by
    refine bkeep (balloc (Below.refl (w.alloc (.cells #[.int .u8 97] 5 (1, 2))).heap.size (w.alloc (.cells #[.int .u8 97] 5 (1, 2)))) _) ?_
    have h := (MapKept.heap_alloc w (.cells #[.int .u8 97] 5 (1, 2))).1
    unfold World.cell?
    dsimp only
    rw [h]
    rfl
  refine (new_good (some ⟨w.heap.size + 1, 0, none⟩) 2 one (oneW w) (one_in _ _ w.heap.size hq (fun k => ?_)) one_ok (by decide) (by rw [one_tree])).mono fun e w' ⟨b, he, _, hF, hM, hb⟩ => ⟨b, _, he, ?_, hM, bgo (balloc (balloc (Below.refl _ _) _) _) hb⟩
  · exact World.cell?_alloc_at _ _ _ _ (by rw [World.size_alloc])
  · unfold FsNew at hF
    simp [World.cell?, hF]
theorem real_one (b base : Nat) (w : World) (hg : w.cell? ⟨b + 1, 0, none⟩ = some (.map (some b))) (hM : MapAt w base b 2 (fun q => q ≠ b + 1 ∧ q ≠ b) (mapL one)) :
    Calls Tryd.prog 15 #[.pointer (some ⟨b + 1, 0, none⟩), .string ⟨#[98, 47, 99]⟩] w fun e w' => e = .returned (.tuple #[.string ⟨#[97, 47, 99]⟩, .int .i64 0]) ∧ Below w.heap.size w w' := by
  have h := Real_calls (b + 1) base b 2 _ (mapL one) ⟨#[98, 47, 99]⟩ w hg hM (fine_tree one (tree_is one (by rw [one_tree]))) (by decide)
  rw [one_real] at h
  exact h
set_option maxRecDepth 100000 in
set_option maxHeartbeats 4000000 in
theorem links_calls (A : Option Addr) (c : Nat) (l : List Nd) (nm : ByteArray) (w : World) (hC : kN.C w A l.length l) (hok : ∀ x ∈ l, Ok x) (hl : l.length * 64 ≤ 140737488351232) (hnm : nm.size ≤ 140737488351232) :
    Calls Tryd.prog 5 #[.slice A l.length c, .string nm] w fun e w' => e = .returned (.bool true) ∧ Below w.heap.size w w' := by
  by_cases hb : (chk l).2 = 0
  · have T := Lib.hid (tree_is l hb)
    have HNEW := Lib.hid (new_good A c l w hC hok (by omega) hb)
    have HC := Lib.hid hC
    have HOK := Lib.hid hok
    clear hC hok
    have kc := fun (w : World) (C : Array Value) (n c : Nat) => Lib.run_convert_bytes_const (P := Tryd.prog) w 22 5 C n c Tryd.underlying22 Tryd.underlying5
    go_enter Tryd.func5, Tryd.ntmps5
    go_upto_region 4 with (go_at_call 14; refine HNEW.out.mono ?_; rintro e w1 ⟨b, rfl, hbb, hF, hM, hb1⟩)
    have HM := Lib.hid hM
    have hg : w1.cell? ⟨b + 1, 0, none⟩ = some (.map (some b)) := by unfold FsNew at hF; simp [World.cell?, hF]
    clear hF hM
    have HG := Lib.hid hg
    clear hg
    go_upto_region 5 with (go_at_call 14; refine (new_one w1).mono ?_; rintro e w2 ⟨b2, base2, rfl, hg2, hM2, hb2⟩)
    have HRO := Lib.hid (real_one b2 base2 w2 hg2 hM2)
    clear hg2 hM2
    have HB2 := Lib.hid (bgo hb1 hb2)
    have HB12 := Lib.hid hb2
    clear hb1 hb2
    go_wp2_with (go_at_call 15; refine HRO.out.mono ?_; rintro e w3 ⟨rfl, hb3⟩)
    have HB3 := Lib.hid (bgo HB2.out hb3)
    have hs3 := hb3.size
    have HRE := Lib.hid (fun W (h : Below w3.heap.size w3 W) s (hs : s.size ≤ 140737488351232) => Real_calls (b + 1) w.heap.size b l.length _ (mapL l) s W (bkeep (bgo HB12.out (bgo hb3 h)) HG.out) (HM.out.below (bgo HB12.out (bgo hb3 h))) (fine_tree l T.out) hs)
    have HST := Lib.hid (fun W (h : Below w3.heap.size w3 W) s (hs : s.size ≤ 140737488351232) => Stat_calls (b + 1) w.heap.size b l.length _ (mapL l) s W (bkeep (bgo HB12.out (bgo hb3 h)) HG.out) (HM.out.below (bgo HB12.out (bgo hb3 h))) (fine_tree l T.out) hs)
    clear hb3 HRO HNEW kc
    go_loopw [11, 12, 13, 14, 15, 16, 17, 18, 19] (fun i _ _ _ _ _ _ _ _ wr => ∃ k : Nat, i = .int .i64 k ∧ k ≤ l.length ∧ Below w3.heap.size w3 wr) (fun i _ _ _ _ _ _ _ _ _ => (l.length - intOf i).toNat)
    case atStart => exact ⟨0, rfl, by omega, Below.refl _ _⟩
    case round =>
      obtain ⟨k, rfl, hk, hbr⟩ := hrel
      by_cases hlt : k < l.length
      · obtain ⟨ad, A2, c2, hA, c0, c1, c2', _, _, hl2, hd⟩ := atN (Kd.C_below HC.out (bgo HB3.out hbr)) (k : Int) (by omega) (by omega)
        subst hA
        have hxm := rdN_mem l k hlt
        have HXM := Lib.hid hxm
        have hps := (HOK.out _ hxm).ds
        have hv := valid_size _ (T.out.valid _ hxm)
        rw [Int.toNat_natCast] at c0 c1 c2'
        generalize hx : rdN l (k : Int) = x at *
        clear hxm hx
        have k0 : (0 : Int) ≤ (k : Int) := by omega
        have k1 : (k : Int) < l.length := by omega
        have hcv : ∀ W, Hid (Below wr.heap.size wr W) → (convert 22 9 (.slice A2 x.f2.length c2)).run Tryd.prog W = .ok (.string (strOfNums x.f2)) W := fun W h => Kd.C_string (P := Tryd.prog) (w := W) (src := 22) (dst := 9) (c := c2) Tryd.underlying22 Tryd.underlying5 Tryd.underlying9 (Kd.C_below hd h.out)
        have HCV := Lib.hid hcv
        have HK0 := Lib.hid (Below.refl wr.heap.size wr)
        have hcv0 := hcv wr HK0
        clear hcv hd
        by_cases h3 : x.f0 = 3
        · rw [h3] at c0
          have hdz : (strOfNums x.f2).size ≤ 140737488351232 := by rw [strOfNums_size]; exact hps
          have HVD := Lib.hid (keep3 (valid_calls (strOfNums x.f2) wr (by omega)) HK0.out c0 c1 c2')
          cases hvd : validB (strOfNums x.f2)
          · rw [hvd] at HVD
            clear hvd
            go_wp2_with (go_at_call 16; refine HVD.out.mono ?_; rintro e w4 ⟨rfl, d0, d1, d2, HK4⟩)
            go_roundw
            case rel => exact ⟨k + 1, by go_num, by omega, bgo hbr HK4.out⟩
            case measure => simp [intOf]; omega
          · rw [hvd] at HVD
            have HVX := Lib.hid hvd
            have hdz2 := valid_size _ hvd
            clear hvd
            have HPC := Lib.hid (fun W (h : Below wr.heap.size wr W) => keep3 (parent_calls x.f1 W (by omega)) h c0 c1 c2')
            go_upto_region 13 with (first
              | (go_at_call 16; refine HVD.out.mono ?_; rintro e w4 ⟨rfl, d0, d1, d2, HK4⟩)
              | (go_at_call 17; refine (HPC.out _ HK4.out).mono ?_; rintro e w5 ⟨rfl, e0, e1, e2, HK5⟩))
            clear d0 d1 d2 hcv0
            have hcv5 := HCV.out w5 HK5
            have hpz := parB_le x.f1 hv
            have HSV := Lib.hid (fun W (h : Below wr.heap.size wr W) => show Calls Tryd.prog 18 #[.pointer (some ⟨b + 1, 0, none⟩), .string (toOf x)] W fun e w' => ∃ (kd : Int) (s1 : ByteArray) (A : Option Addr) (n c : Nat) (m tm : Int), e = .returned (.tuple #[.agg #[.int .i64 kd, .string s1, .slice A n c, .int .i64 m, .int .i64 tm], .int .i64 (statT (mapL l) (toOf x)).2]) ∧ w'.cell? (ad.add (k * 5)) = some (.int .i64 3) ∧ w'.cell? ⟨(ad.add (k * 5)).block, (ad.add (k * 5)).off + 1, none⟩ = some (.string x.f1) ∧ w'.cell? ⟨(ad.add (k * 5)).block, (ad.add (k * 5)).off + 2, none⟩ = some (.slice A2 x.f2.length c2) ∧ Hid (Below wr.heap.size wr w') from by
              refine (HST.out W (bgo hbr h) (toOf x) (by unfold toOf; split; omega; rw [ByteArray.size_append, ByteArray.size_append, show slash.size = 1 from rfl]; omega)).mono fun e w' ⟨V, he, hV, hb⟩ => ?_
              obtain ⟨kd, s1, A, n, c, m, tm, rfl⟩ := hV.form
              exact ⟨kd, s1, A, n, c, m, tm, he, bkeep (bgo h hb) c0, bkeep (bgo h hb) c1, bkeep (bgo h hb) c2', Lib.hid (bgo h hb)⟩)
            have htz : (toOf x).size ≤ 2049 := by unfold toOf; split; omega; rw [ByteArray.size_append, ByteArray.size_append, show slash.size = 1 from rfl]; omega
            have HLAW := Lib.hid (links_law l T.out x HXM.out h3 HVX.out nm)
            rcases Nat.eq_zero_or_pos (parB x.f1).1.size with hp | hp
            all_goals
              first
                | (have hpe := toList_nil _ hp; have HTO := Lib.hid (show toOf x = strOfNums x.f2 by unfold toOf; rw [if_pos hp]); clear hp; rw [HTO.out] at HSV HLAW htz; go_upto_region 17 with (go_at_call 18; refine (HSV.out _ HK5.out).mono ?_; rintro e w6 ⟨kd, s1, A6, n6, c6, m6, tm6, rfl, f0, f1, f2, HK6⟩); generalize strOfNums x.f2 = t at *; clear HTO hpe hdz2 hdz)
                | (have hpe := toList_ne _ (show ¬ (parB x.f1).1.size = 0 by omega); have HTO := Lib.hid (show toOf x = (parB x.f1).1 ++ ⟨#[47]⟩ ++ strOfNums x.f2 by unfold toOf; rw [if_neg (by omega)]; rfl); clear hp; rw [HTO.out] at HSV HLAW htz; go_upto_region 17 with (go_at_call 18; refine (HSV.out _ HK5.out).mono ?_; rintro e w6 ⟨kd, s1, A6, n6, c6, m6, tm6, rfl, f0, f1, f2, HK6⟩); generalize (parB x.f1).1 ++ ⟨#[47]⟩ ++ strOfNums x.f2 = t at *; clear HTO hpe hdz2 hdz)
            all_goals
              generalize (statT (mapL l) t).2 = er at *
              have hsz1 : (t ++ ⟨#[47]⟩ ++ nm).size ≤ 140737488355328 := by rw [ByteArray.size_append, ByteArray.size_append, show (⟨#[47]⟩ : ByteArray).size = 1 from rfl]; omega
              have hsz2 : (x.f1 ++ ⟨#[47]⟩ ++ nm).size ≤ 140737488355328 := by rw [ByteArray.size_append, ByteArray.size_append, show (⟨#[47]⟩ : ByteArray).size = 1 from rfl]; omega
              have HV1 := Lib.hid (fun W (h : Below wr.heap.size wr W) => keep3 (valid_calls (t ++ ⟨#[47]⟩ ++ nm) W hsz1) h c0 c1 c2')
              have HV2 := Lib.hid (fun W (h : Below wr.heap.size wr W) => keep3 (valid_calls (x.f1 ++ ⟨#[47]⟩ ++ nm) W hsz2) h c0 c1 c2')
              by_cases her : er = 0
              · subst her
                by_cases hkd : kd = 1
                · subst hkd
                  cases hv1 : validB (t ++ ⟨#[47]⟩ ++ nm)
                  · rw [hv1] at HV1
                    clear hv1
                    go_wp2_with (go_at_call 16; with_reducible refine (HV1.out _ (balloc HK6.out _)).mono ?_; rintro e w7 ⟨rfl, g0, g1, g2, HK7⟩)
                    go_roundw
                    case rel => exact ⟨k + 1, by go_num, by omega, bgo hbr HK7.out⟩
                    case measure => simp [intOf]; omega
                  · rw [hv1] at HV1
                    cases hv2 : validB (x.f1 ++ ⟨#[47]⟩ ++ nm)
                    · rw [hv2] at HV2
                      clear hv1 hv2
                      go_wp2_with (first | (go_at_call 16; with_reducible refine (HV1.out _ (balloc HK6.out _)).mono ?_; rintro e w7 ⟨rfl, g0, g1, g2, HK7⟩) | (go_at_call 16; with_reducible refine (HV2.out _ HK7.out).mono ?_; rintro e w8 ⟨rfl, i0, i1, i2, HK8⟩))
                      go_roundw
                      case rel => exact ⟨k + 1, by go_num, by omega, bgo hbr HK8.out⟩
                      case measure => simp [intOf]; omega
                    · rw [hv2] at HV2
                      have hz1 := valid_size _ hv1
                      have hz2 := valid_size _ hv2
                      have HR1 := Lib.hid (fun W (h : Below wr.heap.size wr W) => keep3 (HRE.out W (bgo hbr h) (t ++ ⟨#[47]⟩ ++ nm) (by omega)) h c0 c1 c2')
                      have HR2 := Lib.hid (fun W (h : Below wr.heap.size wr W) => keep3 (HRE.out W (bgo hbr h) (x.f1 ++ ⟨#[47]⟩ ++ nm) (by omega)) h c0 c1 c2')
                      have HLW := Lib.hid (show (realF (mapL l) (t ++ ⟨#[47]⟩ ++ nm)).2 = 0 → ((realF (mapL l) (x.f1 ++ ⟨#[47]⟩ ++ nm)).2 = 0 ∧ (realF (mapL l) (x.f1 ++ ⟨#[47]⟩ ++ nm)).1 = (realF (mapL l) (t ++ ⟨#[47]⟩ ++ nm)).1) ∨ (realF (mapL l) (x.f1 ++ ⟨#[47]⟩ ++ nm)).2 = 34 from HLAW.out hv1 hv2)
                      clear hv1 hv2 HLAW hz1 hz2
                      generalize realF (mapL l) (t ++ ⟨#[47]⟩ ++ nm) = R1 at *
                      generalize realF (mapL l) (x.f1 ++ ⟨#[47]⟩ ++ nm) = R2 at *
                      obtain ⟨p1, e1⟩ := R1
                      obtain ⟨p2, e2⟩ := R2
                      by_cases he1 : e1 = 0
                      · subst he1
                        rcases HLW.out rfl with ⟨h5, h6⟩ | h5
                        · dsimp only at h5 h6
                          subst h5 h6
                          clear HLW
                          dsimp only at HR1 HR2
                          go_wp2_with (first | (go_at_call 16; with_reducible refine (HV1.out _ (balloc HK6.out _)).mono ?_; rintro e w7 ⟨rfl, g0, g1, g2, HK7⟩) | (go_at_call 16; with_reducible refine (HV2.out _ HK7.out).mono ?_; rintro e w8 ⟨rfl, i0, i1, i2, HK8⟩) | (go_at_call 15; with_reducible refine (HR1.out _ HK8.out).mono ?_; rintro e w9 ⟨rfl, j0, j1, j2, HK9⟩) | (go_at_call 15; with_reducible refine (HR2.out _ HK9.out).mono ?_; rintro e w10 ⟨rfl, m0, m1, m2, HK10⟩))
                          go_roundw
                          case rel => exact ⟨k + 1, by go_num, by omega, bgo hbr HK10.out⟩
                          case measure => simp [intOf]; omega
                        · dsimp only at h5
                          subst h5
                          clear HLW
                          dsimp only at HR1 HR2
                          go_wp2_with (first | (go_at_call 16; with_reducible refine (HV1.out _ (balloc HK6.out _)).mono ?_; rintro e w7 ⟨rfl, g0, g1, g2, HK7⟩) | (go_at_call 16; with_reducible refine (HV2.out _ HK7.out).mono ?_; rintro e w8 ⟨rfl, i0, i1, i2, HK8⟩) | (go_at_call 15; with_reducible refine (HR1.out _ HK8.out).mono ?_; rintro e w9 ⟨rfl, j0, j1, j2, HK9⟩) | (go_at_call 15; with_reducible refine (HR2.out _ HK9.out).mono ?_; rintro e w10 ⟨rfl, m0, m1, m2, HK10⟩))
                          go_roundw
                          case rel => exact ⟨k + 1, by go_num, by omega, bgo hbr HK10.out⟩
                          case measure => simp [intOf]; omega
                      · have he2 : (e1 == 0) = false := beq_eq_false_iff_ne.mpr he1
                        clear HLW he1
                        dsimp only at HR1 HR2
                        go_wp2_with (first | (go_at_call 16; with_reducible refine (HV1.out _ (balloc HK6.out _)).mono ?_; rintro e w7 ⟨rfl, g0, g1, g2, HK7⟩) | (go_at_call 16; with_reducible refine (HV2.out _ HK7.out).mono ?_; rintro e w8 ⟨rfl, i0, i1, i2, HK8⟩) | (go_at_call 15; with_reducible refine (HR1.out _ HK8.out).mono ?_; rintro e w9 ⟨rfl, j0, j1, j2, HK9⟩) | (go_at_call 15; with_reducible refine (HR2.out _ HK9.out).mono ?_; rintro e w10 ⟨rfl, m0, m1, m2, HK10⟩))
                        go_roundw
                        case rel => exact ⟨k + 1, by go_num, by omega, bgo hbr HK10.out⟩
                        case measure => simp [intOf]; omega
                · have hkd1 : (kd != 1) = true := by simpa using hkd
                  clear HLAW
                  go_wp2
                  go_roundw
                  case rel => exact ⟨k + 1, by go_num, by omega, bgo hbr (balloc HK6.out _)⟩
                  case measure => simp [intOf]; omega
              · have her1 : (er != 0) = true := by simpa using her
                clear HLAW
                go_wp2
                go_roundw
                case rel => exact ⟨k + 1, by go_num, by omega, bgo hbr (balloc HK6.out _)⟩
                case measure => simp [intOf]; omega
        · have h3b : (x.f0 != 3) = true := by simpa using h3
          go_wp2
          go_roundw
          case rel => exact ⟨k + 1, by go_num, by omega, bgo hbr HK0.out⟩
          case measure => simp [intOf]; omega
      · obtain rfl : k = l.length := by omega
        go_wp2
        go_ret
        exact ⟨ret_bool rfl, bgo HB3.out hbr⟩
  · have HNEW := Lib.hid (new_bad A c l w hC hok (by omega) hb)
    clear hC hok
    go_enter Tryd.func5, Tryd.ntmps5
    go_wp2_with (go_at_call 14; refine HNEW.out.mono ?_; rintro e w1 ⟨rfl, hb1⟩)
    go_ret
    exact ⟨ret_bool rfl, hb1⟩
end Go.Proofs.YtfnncfgdlinmcaaDoor.Vfs
