/- (*FS).none, Real walked. -/
import Derived.Test.YtfnncfgdlinmcaaDoorVfsW
import Derived.Test.YtfnncfgdlinmcaaDoorVfsQ
import Derived.WalkSpells
set_option linter.unusedVariables false
set_option linter.unusedSimpArgs false
namespace Go.Proofs.YtfnncfgdlinmcaaDoor.Vfs
open Go.RowKit Go.BigFrame Go.Maps Go.Proofs.YtfnncfgdlinmcaaDoor.Reg Go.Proofs.YtfnncfgdlinmcaaDoor.Rout Go.Proofs.YtfnncfgdlinmcaaDoor.Node Go.Proofs.YtfnncfgdlinmcaaDoor.Tree Go.Proofs.YtfnncfgdlinmcaaDoorW.PrintWords Go.Proofs.YtfnncfgdlinmcaaDoorW.PrintLast Go.Proofs.YtfnncfgdlinmcaaDoorW.PrintMore
attribute [local go_sem ↓] Go.wp_at_zero Go.wp_at_succ
set_option maxRecDepth 100000 in
theorem none_calls (g b : Nat) (w : World) (hg : w.cell? ⟨g, 0, none⟩ = some (.map (some b))) :
    Calls Tryd.prog 29 #[.pointer (some ⟨g, 0, none⟩)] w fun e w' => e = .returned (.bool false) ∧ w = w' := by
  have qT : ∀ (w : World) (r : Option Nat), (binOp .eql 63 (.map r) (.map none)).run Tryd.prog w = .ok (.bool r.isNone) w := fun w r => run_eql_map_nil w _ _ _ r Tryd.underlying63
  go_enter Tryd.func29, Tryd.ntmps29
  go_wp2
  go_ret
  exact ⟨rfl, rfl⟩
theorem wayN_size (M : NMap) (hM : Fine M) : ∀ (k : Nat) (a : ByteArray) (fl : Nat) (t : List ByteArray), a.size ≤ 1024 → (wayN M k a fl t).1.size ≤ 1024
  | 0, _, _, _, _ => (by decide : emp.size ≤ 1024)
  | k + 1, a, fl, [], h => h
  | k + 1, a, fl, p :: r, h => by
    rw [wayN_cons]
    by_cases h1 : p.toList = [] ∨ p.toList = [46]
    · rw [wayS_stay M a fl p r h1]; exact wayN_size M hM k _ _ _ h
    by_cases h2 : p.toList = [46, 46]
    · rw [wayS_up M a fl p r h2]; exact wayN_size M hM k _ _ _ (parB_le a h)
    rw [wayS_in M a fl p r (fun e => h1 (.inl e)) (fun e => h1 (.inr e)) h2]
    cases hn : M (underB a p) with
    | none => exact (by decide : emp.size ≤ 1024)
    | some n =>
      dsimp only
      by_cases h3 : n.f0 = 2
      · rw [if_pos h3]; exact (by decide : emp.size ≤ 1024)
      rw [if_neg h3]
      by_cases h4 : n.f0 = 1
      · rw [if_pos h4]; exact wayN_size M hM k _ _ _ (hM.path _ _ hn)
      rw [if_neg h4]
      by_cases h5 : 16 < fl + 1
      · rw [if_pos h5]; exact (by decide : emp.size ≤ 1024)
      rw [if_neg h5]
      refine wayN_size M hM k _ _ _ ?_
      split
      · decide
      · exact h
theorem way_size (M : NMap) (hM : Fine M) (ps : List ByteArray) : (way M ps).1.size ≤ 1024 := wayN_size M hM _ _ _ _ (by decide)
theorem valid_len (s : ByteArray) (h : validB s = true) : (pcs s).length ≤ 64 := by
  unfold validB at h
  simp at h
  exact h.1.2
set_option maxRecDepth 100000 in
set_option maxHeartbeats 4000000 in
theorem Real_calls (g base b n : Nat) (ok : Nat → Prop) (M : NMap) (s : ByteArray) (w : World) (hg : w.cell? ⟨g, 0, none⟩ = some (.map (some b))) (hM : MapAt w base b n ok M) (hF : Fine M) (hs : s.size ≤ 140737488351232) :
    Calls Tryd.prog 15 #[.pointer (some ⟨g, 0, none⟩), .string s] w fun e w' => e = .returned (.tuple #[.string (realF M s).1, .int .i64 (realF M s).2]) ∧ Below w.heap.size w w' := by
  have HN := Lib.hid (fun W (h : Below w.heap.size w W) => none_calls g b W (bkeep h hg))
  have HV := Lib.hid (fun W => valid_calls s W (by omega))
  by_cases h0 : s.size = 0
  · have h1 := toList_nil s h0
    have HR := Lib.hid (show realF M s = (emp, 0) by unfold realF; rw [if_pos h0])
    clear h0
    go_enter Tryd.func15, Tryd.ntmps15
    go_wp2_with (go_at_call 29; refine (HN.out _ (Below.refl _ _)).mono ?_; rintro e w' ⟨rfl, rfl⟩)
    go_ret2
    rw [HR.out]
    exact ⟨rfl, Below.refl _ _⟩
  have h1 := toList_ne s h0
  cases hv : validB s
  · rw [hv] at HV
    have HR := Lib.hid (show realF M s = (emp, 20) by unfold realF; rw [if_neg h0, if_pos hv])
    clear h0 hv
    go_enter Tryd.func15, Tryd.ntmps15
    go_wp2_with (first
      | (go_at_call 29; refine (HN.out _ (Below.refl _ _)).mono ?_; rintro e w' ⟨rfl, rfl⟩)
      | (go_at_call 16; refine (HV.out _).mono ?_; rintro e w1 ⟨rfl, hb1⟩))
    go_ret2
    rw [HR.out]
    exact ⟨rfl, hb1⟩
  · rw [hv] at HV
    have hsz := valid_size s hv
    have hln := valid_len s hv
    have hpz := fun y (hy : y ∈ pcs s) => pcs_size s y hy
    have HSP := Lib.hid (fun W => split_calls s W (by omega))
    have HR := Lib.hid (show realF M s = if (way M (pcs s).dropLast).2 = 0 then (underB (way M (pcs s).dropLast).1 ((pcs s).getLastD emp), 0) else (emp, (way M (pcs s).dropLast).2) by unfold realF; rw [if_neg h0, if_neg (by rw [hv]; simp)])
    obtain ⟨nm, q, hnq⟩ : ∃ nm q, pcs s = nm ++ [q] := ⟨(pcs s).dropLast, (pcs s).getLast (pcs_ne s), (List.dropLast_concat_getLast (pcs_ne s)).symm⟩
    rw [hnq] at hln hpz
    simp only [hnq] at HSP
    rw [hnq, List.dropLast_concat, List.getLastD_concat] at HR
    have hln2 : nm.length ≤ 63 := by simp at hln; omega
    have hq := hpz q (by simp)
    have HPZ := Lib.hid (fun y (hy : y ∈ nm) => hpz y (by simp [hy]))
    have HSP2 := Lib.hid (fun W => show Calls Tryd.prog 30 #[.string s, .string ⟨#[47]⟩] W fun e w' => ∃ q0, e = .returned (.slice (some ⟨q0, 0, none⟩) (nm.length + 1) (nm.length + 1)) ∧ Kd.string.C w' (some ⟨q0, 0, none⟩) nm.length nm ∧ w'.cell? ⟨q0, nm.length, none⟩ = some (.string q) ∧ Below W.heap.size W w' from by
      refine (HSP.out W).mono fun e w' ⟨he, hw⟩ => ⟨W.heap.size, by rw [he]; simp, ?_, ?_, ?_⟩
      · rw [hw]
        have := Kd.C_take (m := nm.length) (strs_C W (nm ++ [q]) (by simp; omega)) (by simp)
        rw [List.take_left] at this
        exact this
      · rw [hw]
        obtain ⟨ad, hA, hx⟩ := Kd.at_string (strs_C W (nm ++ [q]) (by simp; omega)) (nm.length : Int) (by omega) (by simp; omega)
        obtain rfl := Option.some.inj hA
        rw [Int.toNat_natCast, add_plain] at hx
        rw [hx]
        unfold rdOf
        rw [Int.toNat_natCast]
        simp
      · rw [hw]; exact balloc (Below.refl _ _) _)
    have HW := Lib.hid (fun W q0 (h : Below w.heap.size w W) (hc : Kd.string.C W (some ⟨q0, 0, none⟩) nm.length nm) => way_calls g base b n ok M q0 (nm.length + 1) nm W (bkeep h hg) (hM.below h) hF hc (by omega) (by omega) (fun p hp => by have := HPZ.out p hp; omega))
    have hws := way_size M hF nm
    have hi1 : (0 : Int) ≤ (nm.length : Int) := by omega
    clear hpz hv h0 hnq HSP hln hM hF
    generalize way M nm = R at *
    by_cases hz : R.2 = 0
    · rw [if_pos hz] at HR
      have hz1 : (R.2 != 0) = false := by rw [hz]; rfl
      have HU := Lib.hid (fun W => under_calls R.1 q W (by omega) (by omega))
      clear hz
      go_enter Tryd.func15, Tryd.ntmps15
      go_upto_region 8 with (first
        | (go_at_call 29; refine (HN.out _ (Below.refl _ _)).mono ?_; rintro e w' ⟨rfl, rfl⟩)
        | (go_at_call 16; refine (HV.out _).mono ?_; rintro e w1 ⟨rfl, hb1⟩)
        | (go_at_call 30; refine (HSP2.out _).mono ?_; rintro e w2 ⟨q0, rfl, hC2, hq2, hb2⟩; have HC2 := Lib.hid hC2; have HB2 := Lib.hid (bgo hb1 hb2); clear hC2 hb2 hb1))
      go_wp2_with (first
        | (go_at_call 31; refine (HW.out _ _ HB2.out HC2.out).mono ?_; rintro e w3 ⟨rfl, hb3⟩; have hq3 := bkeep hb3 hq2; have HB3 := Lib.hid (bgo HB2.out hb3); clear hb3)
        | (go_at_call 32; refine (HU.out _).mono ?_; rintro e w4 ⟨rfl, rfl⟩))
      go_ret2
      rw [HR.out]
      exact ⟨rfl, HB3.out⟩
    · rw [if_neg hz] at HR
      have hz1 : (R.2 != 0) = true := by simpa using hz
      clear hz
      go_enter Tryd.func15, Tryd.ntmps15
      go_upto_region 8 with (first
        | (go_at_call 29; refine (HN.out _ (Below.refl _ _)).mono ?_; rintro e w' ⟨rfl, rfl⟩)
        | (go_at_call 16; refine (HV.out _).mono ?_; rintro e w1 ⟨rfl, hb1⟩)
        | (go_at_call 30; refine (HSP2.out _).mono ?_; rintro e w2 ⟨q0, rfl, hC2, hq2, hb2⟩; have HC2 := Lib.hid hC2; have HB2 := Lib.hid (bgo hb1 hb2); clear hC2 hb2 hb1))
      go_wp2_with (go_at_call 31; refine (HW.out _ _ HB2.out HC2.out).mono ?_; rintro e w3 ⟨rfl, hb3⟩; have HB3 := Lib.hid (bgo HB2.out hb3); clear hb3)
      go_ret2
      rw [HR.out]
      exact ⟨rfl, HB3.out⟩
end Go.Proofs.YtfnncfgdlinmcaaDoor.Vfs
