/- VfsR, VfsS, VfsT put together. -/
import Derived.Test.YtageofdcloneoaaDoorMVfsP
import Derived.WalkSpells
import Derived.BigRegion
import Derived.RegionTactic
import Derived.ChangeAlike
set_option linter.unusedVariables false
set_option linter.unusedSimpArgs false
namespace Go.Proofs.YtageofdcloneoaaDoor.Vfs
open Go.RowKit Go.BigFrame Go.Maps Go.Proofs.YtageofdcloneoaaDoor.Reg Go.Proofs.YtageofdcloneoaaDoor.Rout Go.Proofs.YtageofdcloneoaaDoor.Node Go.Proofs.YtageofdcloneoaaDoor.Tree Go.Proofs.YtageofdcloneoaaDoorW.PrintWords Go.Proofs.YtageofdcloneoaaDoorW.PrintLast Go.Proofs.YtageofdcloneoaaDoorW.PrintMore
attribute [local go_sem ↓] Go.wp_at_zero Go.wp_at_succ
set_option maxRecDepth 100000 in
theorem none_calls (g b : Nat) (w : World) (hg : w.cell? ⟨g, 0, none⟩ = some (.map (some b))) :
    Calls Tryd.prog 26 #[.pointer (some ⟨g, 0, none⟩)] w fun e w' => e = .returned (.bool false) ∧ w = w' := by
  have qT : ∀ (w : World) (r : Option Nat), (binOp .eql 54 (.map r) (.map none)).run Tryd.prog w = .ok (.bool r.isNone) w := fun w r => run_eql_map_nil w _ _ _ r Tryd.underlying54
  go_enter Tryd.func26, Tryd.ntmps26
  go_wp2
  go_ret
  exact ⟨rfl, rfl⟩
theorem wayN_size (M : NMap) (hM : Fine M) : ∀ (k : Nat) (a : ByteArray) (fl : Nat) (t : List ByteArray), a.size ≤ 1024 → (wayN M k a fl t).1.size ≤ 1024
  | 0, _, _, _, _ => (by decide : emp.size ≤ 1024)
  | k + 1, a, fl, [], h => h
  | k + 1, a, fl, p :: r, h => by
    rw [wayN_cons]
    by_cases h1 : p.toList = [] ∨ p.toList = [46]
    · rw [wayS_stay M a fl p r h1]; exact wayN_size M hM k _ _ _ h
    by_cases h2 : p.toList = [46, 46]
    · rw [wayS_up M a fl p r h2]; exact wayN_size M hM k _ _ _ (parB_le a h)
    rw [wayS_in M a fl p r (fun e => h1 (.inl e)) (fun e => h1 (.inr e)) h2]
    cases hn : M (underB a p) with
    | none => exact (by decide : emp.size ≤ 1024)
    | some n =>
      dsimp only
      by_cases h3 : n.f0 = 2
      · rw [if_pos h3]; exact (by decide : emp.size ≤ 1024)
      rw [if_neg h3]
      by_cases h4 : n.f0 = 1
      · rw [if_pos h4]; exact wayN_size M hM k _ _ _ (hM.path _ _ hn)
      rw [if_neg h4]
      by_cases h5 : 16 < fl + 1
      · rw [if_pos h5]; exact (by decide : emp.size ≤ 1024)
      rw [if_neg h5]
      refine wayN_size M hM k _ _ _ ?_
      split
      · decide
      · exact h
theorem way_size (M : NMap) (hM : Fine M) (ps : List ByteArray) : (way M ps).1.size ≤ 1024 := wayN_size M hM _ _ _ _ (by decide)
theorem valid_len (s : ByteArray) (h : validB s = true) : (pcs s).length ≤ 64 := by
  unfold validB at h
  simp at h
  exact h.1.2
set_option maxRecDepth 100000 in
set_option maxHeartbeats 4000000 in
theorem Real_calls (g base b n : Nat) (ok : Nat → Prop) (M : NMap) (s : ByteArray) (w : World) (hg : w.cell? ⟨g, 0, none⟩ = some (.map (some b))) (hM : MapAt w base b n ok M) (hF : Fine M) (hs : s.size ≤ 140737488351232) :
    Calls Tryd.prog 47 #[.pointer (some ⟨g, 0, none⟩), .string s] w fun e w' => e = .returned (.tuple #[.string (realF M s).1, .int .i64 (realF M s).2]) ∧ Below w.heap.size w w' := by
  have HN := Lib.hid (fun W (h : Below w.heap.size w W) => none_calls g b W (bkeep h hg))
  have HV := Lib.hid (fun W => valid_calls s W (by omega))
  by_cases h0 : s.size = 0
  · have h1 := toList_nil s h0
    have HR := Lib.hid (show realF M s = (emp, 0) by unfold realF; rw [if_pos h0])
    clear h0
    go_enter Tryd.func47, Tryd.ntmps47
    go_wp2_with (go_at_call 26; refine (HN.out _ (Below.refl _ _)).mono ?_; rintro e w' ⟨rfl, rfl⟩)
    go_ret2
    rw [HR.out]
    exact ⟨rfl, Below.refl _ _⟩
  have h1 := toList_ne s h0
  cases hv : validB s
  · rw [hv] at HV
    have HR := Lib.hid (show realF M s = (emp, 20) by unfold realF; rw [if_neg h0, if_pos hv])
    clear h0 hv
    go_enter Tryd.func47, Tryd.ntmps47
    go_wp2_with (first
      | (go_at_call 26; refine (HN.out _ (Below.refl _ _)).mono ?_; rintro e w' ⟨rfl, rfl⟩)
      | (go_at_call 21; refine (HV.out _).mono ?_; rintro e w1 ⟨rfl, hb1⟩))
    go_ret2
    rw [HR.out]
    exact ⟨rfl, hb1⟩
  · rw [hv] at HV
    have hsz := valid_size s hv
    have hln := valid_len s hv
    have hpz := fun y (hy : y ∈ pcs s) => pcs_size s y hy
    have HSP := Lib.hid (fun W => split_calls s W (by omega))
    have HR := Lib.hid (show realF M s = if (way M (pcs s).dropLast).2 = 0 then (underB (way M (pcs s).dropLast).1 ((pcs s).getLastD emp), 0) else (emp, (way M (pcs s).dropLast).2) by unfold realF; rw [if_neg h0, if_neg (by rw [hv]; simp)])
    obtain ⟨nm, q, hnq⟩ : ∃ nm q, pcs s = nm ++ [q] := ⟨(pcs s).dropLast, (pcs s).getLast (pcs_ne s), (List.dropLast_concat_getLast (pcs_ne s)).symm⟩
    rw [hnq] at hln hpz
    simp only [hnq] at HSP
    rw [hnq, List.dropLast_concat, List.getLastD_concat] at HR
    have hln2 : nm.length ≤ 63 := by simp at hln; omega
    have hq := hpz q (by simp)
    have HPZ := Lib.hid (fun y (hy : y ∈ nm) => hpz y (by simp [hy]))
    have HSP2 := Lib.hid (fun W => show Calls Tryd.prog 46 #[.string s, .string ⟨#[47]⟩] W fun e w' => ∃ q0, e = .returned (.slice (some ⟨q0, 0, none⟩) (nm.length + 1) (nm.length + 1)) ∧ Kd.string.C w' (some ⟨q0, 0, none⟩) nm.length nm ∧ w'.cell? ⟨q0, nm.length, none⟩ = some (.string q) ∧ Below W.heap.size W w' from by
      refine (HSP.out W).mono fun e w' ⟨he, hw⟩ => ⟨W.heap.size, by rw [he]; simp, ?_, ?_, ?_⟩
      · rw [hw]
        have := Kd.C_take (m := nm.length) (strs_C W (nm ++ [q]) (by simp; omega)) (by simp)
        rw [List.take_left] at this
        exact this
      · rw [hw]
        obtain ⟨ad, hA, hx⟩ := Kd.at_string (strs_C W (nm ++ [q]) (by simp; omega)) (nm.length : Int) (by omega) (by simp; omega)
        obtain rfl := Option.some.inj hA
        rw [Int.toNat_natCast, add_plain] at hx
        rw [hx]
        unfold rdOf
        rw [Int.toNat_natCast]
        simp
      · rw [hw]; exact balloc (Below.refl _ _) _)
    have HW := Lib.hid (fun W q0 (h : Below w.heap.size w W) (hc : Kd.string.C W (some ⟨q0, 0, none⟩) nm.length nm) => way_calls g base b n ok M q0 (nm.length + 1) nm W (bkeep h hg) (hM.below h) hF hc (by omega) (by omega) (fun p hp => by have := HPZ.out p hp; omega))
    have hws := way_size M hF nm
    have hi1 : (0 : Int) ≤ (nm.length : Int) := by omega
    clear hpz hv h0 hnq HSP hln hM hF
    generalize way M nm = R at *
    by_cases hz : R.2 = 0
    · rw [if_pos hz] at HR
      have hz1 : (R.2 != 0) = false := by rw [hz]; rfl
      have HU := Lib.hid (fun W => under_calls R.1 q W (by omega) (by omega))
      clear hz
      go_enter Tryd.func47, Tryd.ntmps47
      go_upto_region 8 with (first
        | (go_at_call 26; refine (HN.out _ (Below.refl _ _)).mono ?_; rintro e w' ⟨rfl, rfl⟩)
        | (go_at_call 21; refine (HV.out _).mono ?_; rintro e w1 ⟨rfl, hb1⟩)
        | (go_at_call 46; refine (HSP2.out _).mono ?_; rintro e w2 ⟨q0, rfl, hC2, hq2, hb2⟩; have HC2 := Lib.hid hC2; have HB2 := Lib.hid (bgo hb1 hb2); clear hC2 hb2 hb1))
      go_wp2_with (first
        | (go_at_call 61; refine (HW.out _ _ HB2.out HC2.out).mono ?_; rintro e w3 ⟨rfl, hb3⟩; have hq3 := bkeep hb3 hq2; have HB3 := Lib.hid (bgo HB2.out hb3); clear hb3)
        | (go_at_call 62; refine (HU.out _).mono ?_; rintro e w4 ⟨rfl, rfl⟩))
      go_ret2
      rw [HR.out]
      exact ⟨rfl, HB3.out⟩
    · rw [if_neg hz] at HR
      have hz1 : (R.2 != 0) = true := by simpa using hz
      clear hz
      go_enter Tryd.func47, Tryd.ntmps47
      go_upto_region 8 with (first
        | (go_at_call 26; refine (HN.out _ (Below.refl _ _)).mono ?_; rintro e w' ⟨rfl, rfl⟩)
        | (go_at_call 21; refine (HV.out _).mono ?_; rintro e w1 ⟨rfl, hb1⟩)
        | (go_at_call 46; refine (HSP2.out _).mono ?_; rintro e w2 ⟨q0, rfl, hC2, hq2, hb2⟩; have HC2 := Lib.hid hC2; have HB2 := Lib.hid (bgo hb1 hb2); clear hC2 hb2 hb1))
      go_wp2_with (go_at_call 61; refine (HW.out _ _ HB2.out HC2.out).mono ?_; rintro e w3 ⟨rfl, hb3⟩; have HB3 := Lib.hid (bgo HB2.out hb3); clear hb3)
      go_ret2
      rw [HR.out]
      exact ⟨rfl, HB3.out⟩
end Go.Proofs.YtageofdcloneoaaDoor.Vfs
set_option linter.unusedVariables false
set_option linter.unusedSimpArgs false
namespace Go.Proofs.YtageofdcloneoaaDoor.Vfs
open Go.RowKit Go.BigFrame Go.Maps Go.Proofs.YtageofdcloneoaaDoor.Reg Go.Proofs.YtageofdcloneoaaDoor.Rout Go.Proofs.YtageofdcloneoaaDoor.Node Go.Proofs.YtageofdcloneoaaDoor.Tree Go.Proofs.YtageofdcloneoaaDoorW.PrintWords Go.Proofs.YtageofdcloneoaaDoorW.PrintLast Go.Proofs.YtageofdcloneoaaDoorW.PrintMore
attribute [local go_sem ↓] Go.wp_at_zero Go.wp_at_succ
def realT (M : NMap) (s : ByteArray) : ByteArray × Option Nd × Int :=
  if s.size = 0 then (emp, none, 20) else if (realF M s).2 = 0 then ((realF M s).1, M (realF M s).1, 0) else (emp, none, (realF M s).2)
/-- A node by value, or none. -/
def NodeV (w : World) (o : Option Nd) (V : Value) : Prop := match o with
  | none => V = zeroNode
  | some x => ∃ A2 c2, V = .agg #[.int .i64 x.f0, .string x.f1, .slice A2 x.f2.length c2, .int .i64 x.f3, .int .i64 x.f4] ∧ x.f2.length ≤ c2 ∧ (Kd.int .u8).C w A2 x.f2.length x.f2
theorem realF_size (M : NMap) (hM : Fine M) (s : ByteArray) (hs : s.size ≤ 140737488351232) : (realF M s).1.size ≤ 140737488351232 := by
  unfold realF
  split
  · exact (by decide : emp.size ≤ 140737488351232)
  split
  · exact (by decide : emp.size ≤ 140737488351232)
  rename_i h1 h2
  have hv : validB s = true := by simpa using h2
  split
  · have h3 := way_size M hM (pcs s).dropLast
    have h4 : ((pcs s).getLastD emp).size ≤ s.size := by
      rw [← List.dropLast_concat_getLast (pcs_ne s), List.getLastD_concat]
      exact pcs_size _ _ (List.getLast_mem _)
    have h5 := valid_size s hv
    unfold underB
    dsimp only
    split
    · omega
    · rw [ByteArray.size_append, ByteArray.size_append, show slash.size = 1 from rfl]; omega
  · exact (by decide : emp.size ≤ 140737488351232)
abbrev zbox (w : World) : World := w.alloc (.cells #[.int .i64 0, .string ⟨#[]⟩, .slice none 0 0, .int .i64 0, .int .i64 0] 33)
set_option maxRecDepth 100000 in
set_option maxHeartbeats 4000000 in
theorem real_calls (g base b n : Nat) (ok : Nat → Prop) (M : NMap) (s : ByteArray) (w : World) (hg : w.cell? ⟨g, 0, none⟩ = some (.map (some b))) (hM : MapAt w base b n ok M) (hF : Fine M) (hs : s.size ≤ 140737488351232) :
    Calls Tryd.prog 28 #[.pointer (some ⟨g, 0, none⟩), .string s] w fun e w' => ∃ V, e = .returned (.tuple #[.string (realT M s).1, V, .bool (realT M s).2.1.isSome, .int .i64 (realT M s).2.2]) ∧ NodeV w' (realT M s).2.1 V ∧ Below w.heap.size w w' := by
  by_cases h0 : s.size = 0
  · have h1 := toList_nil s h0
    have HR := Lib.hid (show realT M s = (emp, none, 20) by unfold realT; rw [if_pos h0])
    clear h0
    go_enter Tryd.func28, Tryd.ntmps28
    go_wp2
    go_region
    all_goals
      go_wp2
      rw [HR.out]
      exact bodyPost_ret (v := .tuple #[.string ⟨#[]⟩, zeroNode, .bool false, .int .i64 20]) (by simp [results, Tryd.results28, go_sem, zeroNode]) rfl ⟨_, rfl, rfl, bdrew (balloc (Below.refl _ _) _)⟩
  have h1 := toList_ne s h0
  have hsz := realF_size M hF s hs
  have HRC := Lib.hid (Real_calls g base b n ok M s (zbox w) (bkeep (balloc (Below.refl _ _) _) hg) (hM.below (balloc (Below.refl _ _) _)) hF hs)
  by_cases hz : (realF M s).2 = 0
  · have HR := Lib.hid (show realT M s = ((realF M s).1, M (realF M s).1, 0) by unfold realT; rw [if_neg h0, if_pos hz])
    rw [hz] at HRC
    have HM := Lib.hid hM
    clear h0 hz hM hF
    generalize (realF M s).1 = p at *
    cases hn : M p with
    | none =>
      rw [hn] at HR
      go_enter Tryd.func28, Tryd.ntmps28
      go_upto_region 6 with (go_at_call 47; refine HRC.out.mono ?_; rintro e w1 ⟨rfl, hb1⟩)
      have HB1 := Lib.hid (bgo (balloc (Below.refl w.heap.size w) (.cells #[.int .i64 0, .string ⟨#[]⟩, .slice none 0 0, .int .i64 0, .int .i64 0] 33)) hb1)
      have hgw := bkeep HB1.out hg
      have hlk := ((HM.out.below HB1.out).look p hsz).1 hn
      unfold zeroNode at hlk
      have n0 : w1.cell? ⟨w.heap.size, 0, none⟩ = some (.int .i64 0) := bkeep hb1 (by simp)
      have n1 : w1.cell? ⟨w.heap.size, 1, none⟩ = some (.string ⟨#[]⟩) := bkeep hb1 (by simp)
      have n2 : w1.cell? ⟨w.heap.size, 2, none⟩ = some (.slice none 0 0) := bkeep hb1 (by simp)
      have n3 : w1.cell? ⟨w.heap.size, 3, none⟩ = some (.int .i64 0) := bkeep hb1 (by simp)
      have n4 : w1.cell? ⟨w.heap.size, 4, none⟩ = some (.int .i64 0) := bkeep hb1 (by simp)
      have nf : ∀ i, w1.frozen? ⟨w.heap.size, i, none⟩ = false := fun i => (hb1.frozen (p := ⟨w.heap.size, i, none⟩) (by simp)).trans (by simp)
      clear hb1
      go_wp2
      refine wp_world ?_
      intro w2 hw2
      have m0 : w2.cell? ⟨w.heap.size, 0, none⟩ = some (.int .i64 0) := by rw [hw2]; go_simp
      have m1 : w2.cell? ⟨w.heap.size, 1, none⟩ = some (.string ⟨#[]⟩) := by rw [hw2]; go_simp
      have m2 : w2.cell? ⟨w.heap.size, 2, none⟩ = some (.slice none 0 0) := by rw [hw2]; go_simp
      have m3 : w2.cell? ⟨w.heap.size, 3, none⟩ = some (.int .i64 0) := by rw [hw2]; go_simp
      have m4 : w2.cell? ⟨w.heap.size, 4, none⟩ = some (.int .i64 0) := by rw [hw2]; go_simp
      have mf : ∀ i, w2.frozen? ⟨w.heap.size, i, none⟩ = false := fun i => by rw [hw2]; simp [nf]
      have HB2 := Lib.hid (show Below w.heap.size w w2 by rw [hw2]; exact ((((HB1.out.setCell (by simp) _).setCell (by simp) _).setCell (by simp) _).setCell (by simp) _).setCell (by simp) _)
      clear hw2 n0 n1 n2 n3 n4 nf hgw hlk
      go_region
      all_goals
        go_wp2
        rw [HR.out]
        generalize hW' : World.drew _ = W3
        have hW := hW'.symm
        clear hW'
        have k0 : W3.cell? ⟨w.heap.size, 0, none⟩ = some (.int .i64 0) := by rw [hW]; go_simp
        have k1 : W3.cell? ⟨w.heap.size, 1, none⟩ = some (.string ⟨#[]⟩) := by rw [hW]; go_simp
        have k2 : W3.cell? ⟨w.heap.size, 2, none⟩ = some (.slice none 0 0) := by rw [hW]; go_simp
        have k3 : W3.cell? ⟨w.heap.size, 3, none⟩ = some (.int .i64 0) := by rw [hW]; go_simp
        have k4 : W3.cell? ⟨w.heap.size, 4, none⟩ = some (.int .i64 0) := by rw [hW]; go_simp
        have HB3 : Below w.heap.size w W3 := by rw [hW]; exact bdrew ((((((HB2.out.setCell (by simp) _).setCell (by simp) _).setCell (by simp) _).setCell (by simp) _).setCell (by simp) _))
        clear hW
        exact bodyPost_ret (v := .tuple #[.string p, .agg #[.int .i64 0, .string ⟨#[]⟩, .slice none 0 0, .int .i64 0, .int .i64 0], .bool false, .int .i64 0]) (by simp [results, Tryd.results28, go_sem, k0, k1, k2, k3, k4]) rfl ⟨_, rfl, rfl, HB3⟩
    | some x =>
      rw [hn] at HR
      obtain ⟨A2, c2, l2, hL⟩ := HM.out.look_all p hsz x hn
      have HL := Lib.hid hL
      clear hL
      go_enter Tryd.func28, Tryd.ntmps28
      go_upto_region 6 with (go_at_call 47; refine HRC.out.mono ?_; rintro e w1 ⟨rfl, hb1⟩)
      have HB1 := Lib.hid (bgo (balloc (Below.refl w.heap.size w) (.cells #[.int .i64 0, .string ⟨#[]⟩, .slice none 0 0, .int .i64 0, .int .i64 0] 33)) hb1)
      have hgw := bkeep HB1.out hg
      have hlk := (HL.out _ HB1.out).2
      have n0 : w1.cell? ⟨w.heap.size, 0, none⟩ = some (.int .i64 0) := bkeep hb1 (by simp)
      have n1 : w1.cell? ⟨w.heap.size, 1, none⟩ = some (.string ⟨#[]⟩) := bkeep hb1 (by simp)
      have n2 : w1.cell? ⟨w.heap.size, 2, none⟩ = some (.slice none 0 0) := bkeep hb1 (by simp)
      have n3 : w1.cell? ⟨w.heap.size, 3, none⟩ = some (.int .i64 0) := bkeep hb1 (by simp)
      have n4 : w1.cell? ⟨w.heap.size, 4, none⟩ = some (.int .i64 0) := bkeep hb1 (by simp)
      have nf : ∀ i, w1.frozen? ⟨w.heap.size, i, none⟩ = false := fun i => (hb1.frozen (p := ⟨w.heap.size, i, none⟩) (by simp)).trans (by simp)
      clear hb1
      go_wp2
      refine wp_world ?_
      intro w2 hw2
      have m0 : w2.cell? ⟨w.heap.size, 0, none⟩ = some (.int .i64 x.f0) := by rw [hw2]; go_simp
      have m1 : w2.cell? ⟨w.heap.size, 1, none⟩ = some (.string x.f1) := by rw [hw2]; go_simp
      have m2 : w2.cell? ⟨w.heap.size, 2, none⟩ = some (.slice A2 x.f2.length c2) := by rw [hw2]; go_simp
      have m3 : w2.cell? ⟨w.heap.size, 3, none⟩ = some (.int .i64 x.f3) := by rw [hw2]; go_simp
      have m4 : w2.cell? ⟨w.heap.size, 4, none⟩ = some (.int .i64 x.f4) := by rw [hw2]; go_simp
      have mf : ∀ i, w2.frozen? ⟨w.heap.size, i, none⟩ = false := fun i => by rw [hw2]; simp [nf]
      have HB2 := Lib.hid (show Below w.heap.size w w2 by rw [hw2]; exact ((((HB1.out.setCell (by simp) _).setCell (by simp) _).setCell (by simp) _).setCell (by simp) _).setCell (by simp) _)
      clear hw2 n0 n1 n2 n3 n4 nf hgw hlk
      go_region
      all_goals
        go_wp2
        rw [HR.out]
        generalize hW' : World.drew _ = W3
        have hW := hW'.symm
        clear hW'
        have k0 : W3.cell? ⟨w.heap.size, 0, none⟩ = some (.int .i64 x.f0) := by rw [hW]; go_simp
        have k1 : W3.cell? ⟨w.heap.size, 1, none⟩ = some (.string x.f1) := by rw [hW]; go_simp
        have k2 : W3.cell? ⟨w.heap.size, 2, none⟩ = some (.slice A2 x.f2.length c2) := by rw [hW]; go_simp
        have k3 : W3.cell? ⟨w.heap.size, 3, none⟩ = some (.int .i64 x.f3) := by rw [hW]; go_simp
        have k4 : W3.cell? ⟨w.heap.size, 4, none⟩ = some (.int .i64 x.f4) := by rw [hW]; go_simp
        have HB3 : Below w.heap.size w W3 := by rw [hW]; exact bdrew ((((((HB2.out.setCell (by simp) _).setCell (by simp) _).setCell (by simp) _).setCell (by simp) _).setCell (by simp) _))
        clear hW
        exact bodyPost_ret (v := .tuple #[.string p, .agg #[.int .i64 x.f0, .string x.f1, .slice A2 x.f2.length c2, .int .i64 x.f3, .int .i64 x.f4], .bool true, .int .i64 0]) (by simp [results, Tryd.results28, go_sem, k0, k1, k2, k3, k4]) rfl ⟨_, rfl, ⟨A2, c2, rfl, l2, (HL.out _ HB3).1⟩, HB3⟩
  · have HR := Lib.hid (show realT M s = (emp, none, (realF M s).2) by unfold realT; rw [if_neg h0, if_neg hz])
    have hz1 : ((realF M s).2 != 0) = true := by simpa using hz
    clear h0 hz hM hF
    generalize (realF M s).1 = p at *
    generalize (realF M s).2 = er at *
    skip
    go_enter Tryd.func28, Tryd.ntmps28
    go_upto_region 5 with (go_at_call 47; refine HRC.out.mono ?_; rintro e w1 ⟨rfl, hb1⟩)
    have HB1 := Lib.hid (bgo (balloc (Below.refl w.heap.size w) (.cells #[.int .i64 0, .string ⟨#[]⟩, .slice none 0 0, .int .i64 0, .int .i64 0] 33)) hb1)
    have hgw := HB1
    have hlk := HB1
    have n0 : w1.cell? ⟨w.heap.size, 0, none⟩ = some (.int .i64 0) := bkeep hb1 (by simp)
    have n1 : w1.cell? ⟨w.heap.size, 1, none⟩ = some (.string ⟨#[]⟩) := bkeep hb1 (by simp)
    have n2 : w1.cell? ⟨w.heap.size, 2, none⟩ = some (.slice none 0 0) := bkeep hb1 (by simp)
    have n3 : w1.cell? ⟨w.heap.size, 3, none⟩ = some (.int .i64 0) := bkeep hb1 (by simp)
    have n4 : w1.cell? ⟨w.heap.size, 4, none⟩ = some (.int .i64 0) := bkeep hb1 (by simp)
    have nf : ∀ i, w1.frozen? ⟨w.heap.size, i, none⟩ = false := fun i => (hb1.frozen (p := ⟨w.heap.size, i, none⟩) (by simp)).trans (by simp)
    clear hb1
    refine wp_world ?_
    intro w2 hw2
    have m0 : w2.cell? ⟨w.heap.size, 0, none⟩ = some (.int .i64 0) := by rw [hw2]; go_simp
    have m1 : w2.cell? ⟨w.heap.size, 1, none⟩ = some (.string ⟨#[]⟩) := by rw [hw2]; go_simp
    have m2 : w2.cell? ⟨w.heap.size, 2, none⟩ = some (.slice none 0 0) := by rw [hw2]; go_simp
    have m3 : w2.cell? ⟨w.heap.size, 3, none⟩ = some (.int .i64 0) := by rw [hw2]; go_simp
    have m4 : w2.cell? ⟨w.heap.size, 4, none⟩ = some (.int .i64 0) := by rw [hw2]; go_simp
    have mf : ∀ i, w2.frozen? ⟨w.heap.size, i, none⟩ = false := fun i => by rw [hw2]; simp [nf]
    have HB2 := Lib.hid (show Below w.heap.size w w2 by rw [hw2]; exact HB1.out)
    clear hw2 n0 n1 n2 n3 n4 nf hgw hlk
    go_region
    all_goals
      go_wp2
      rw [HR.out]
      generalize hW' : World.drew _ = W3
      have hW := hW'.symm
      clear hW'
      have k0 : W3.cell? ⟨w.heap.size, 0, none⟩ = some (.int .i64 0) := by rw [hW]; go_simp
      have k1 : W3.cell? ⟨w.heap.size, 1, none⟩ = some (.string ⟨#[]⟩) := by rw [hW]; go_simp
      have k2 : W3.cell? ⟨w.heap.size, 2, none⟩ = some (.slice none 0 0) := by rw [hW]; go_simp
      have k3 : W3.cell? ⟨w.heap.size, 3, none⟩ = some (.int .i64 0) := by rw [hW]; go_simp
      have k4 : W3.cell? ⟨w.heap.size, 4, none⟩ = some (.int .i64 0) := by rw [hW]; go_simp
      have HB3 : Below w.heap.size w W3 := by rw [hW]; exact bdrew ((((((HB2.out.setCell (by simp) _).setCell (by simp) _).setCell (by simp) _).setCell (by simp) _).setCell (by simp) _))
      clear hW
      exact bodyPost_ret (v := .tuple #[.string ⟨#[]⟩, .agg #[.int .i64 0, .string ⟨#[]⟩, .slice none 0 0, .int .i64 0, .int .i64 0], .bool false, .int .i64 er]) (by simp [results, Tryd.results28, go_sem, k0, k1, k2, k3, k4]) rfl ⟨_, rfl, rfl, HB3⟩
end Go.Proofs.YtageofdcloneoaaDoor.Vfs
set_option linter.unusedVariables false
set_option linter.unusedSimpArgs false
namespace Go.Proofs.YtageofdcloneoaaDoor.Vfs
open Go.RowKit Go.BigFrame Go.Maps Go.Proofs.YtageofdcloneoaaDoor.Reg Go.Proofs.YtageofdcloneoaaDoor.Rout Go.Proofs.YtageofdcloneoaaDoor.Node Go.Proofs.YtageofdcloneoaaDoor.Tree Go.Proofs.YtageofdcloneoaaDoorW.PrintWords Go.Proofs.YtageofdcloneoaaDoorW.PrintLast Go.Proofs.YtageofdcloneoaaDoorW.PrintMore
attribute [local go_sem ↓] Go.wp_at_zero Go.wp_at_succ
def rootN : Nd := ⟨1, emp, [], 493, 0⟩
def statT (M : NMap) (s : ByteArray) : Option Nd × Int :=
  if s.size = 0 then (some rootN, 0) else if (realT M s).2.2 = 0 then match (realT M s).2.1 with | none => (none, 31) | some x => (some x, 0) else (none, (realT M s).2.2)
/-- A node by value with bytes of its own, or none. -/
def NodeR (w : World) (base : Nat) (o : Option Nd) (V : Value) : Prop := match o with
  | none => V = zeroNode
  | some x => ∃ v2, V = .agg #[.int .i64 x.f0, .string x.f1, v2, .int .i64 x.f3, .int .i64 x.f4] ∧ (Kd.int .u8).R 5 w base (fun _ => True) v2 x.f2
theorem realT_bad (M : NMap) (s : ByteArray) (h : (realT M s).2.2 ≠ 0) : (realT M s).2.1 = none := by
  unfold realT at *
  split
  · rfl
  · rename_i h0
    rw [if_neg h0] at h
    split
    · rename_i h1
      rw [if_pos h1] at h
      exact absurd rfl h
    · rfl
set_option maxRecDepth 100000 in
set_option maxHeartbeats 4000000 in
theorem Stat_calls (g base b n : Nat) (ok : Nat → Prop) (M : NMap) (s : ByteArray) (w : World) (hg : w.cell? ⟨g, 0, none⟩ = some (.map (some b))) (hM : MapAt w base b n ok M) (hF : Fine M) (hs : s.size ≤ 140737488351232) :
    Calls Tryd.prog 19 #[.pointer (some ⟨g, 0, none⟩), .string s] w fun e w' => ∃ V, e = .returned (.tuple #[V, .int .i64 (statT M s).2]) ∧ NodeR w' w.heap.size (statT M s).1 V ∧ Below w.heap.size w w' := by
  have HN := Lib.hid (fun W (h : Below w.heap.size w W) => none_calls g b W (bkeep h hg))
  by_cases h0 : s.size = 0
  · have h1 := toList_nil s h0
    have HR := Lib.hid (show statT M s = (some rootN, 0) by unfold statT; rw [if_pos h0])
    clear h0
    go_enter Tryd.func19, Tryd.ntmps19
    go_wp2_with (go_at_call 26; refine (HN.out _ (balloc (Below.refl _ _) _)).mono ?_; rintro e w' ⟨rfl, rfl⟩)
    rw [HR.out]
    exact bodyPost_ret (v := .tuple #[.agg #[.int .i64 1, .string ⟨#[]⟩, .slice none 0 0, .int .i64 493, .int .i64 0], .int .i64 0]) (by simp [results, Tryd.results19, go_sem]) rfl ⟨_, rfl, ⟨.slice none 0 0, rfl, Kd.R_nil _ _ _ _ _⟩, balloc (Below.refl _ _) _⟩
  have h1 := toList_ne s h0
  have HRC := Lib.hid (real_calls g base b n ok M s (zbox w) (bkeep (balloc (Below.refl _ _) _) hg) (hM.below (balloc (Below.refl _ _) _)) hF hs)
  have HS := Lib.hid (show statT M s = if (realT M s).2.2 = 0 then match (realT M s).2.1 with | none => (none, 31) | some x => (some x, 0) else (none, (realT M s).2.2) by unfold statT; rw [if_neg h0])
  have hbad := realT_bad M s
  have hdat := fun x (hx : (realT M s).2.1 = some x) => show x.f2.length ≤ 268435456 by
    unfold realT at hx
    rw [if_neg h0] at hx
    split at hx
    · exact hF.data _ _ hx
    · cases hx
  have HM := Lib.hid hM
  clear h0 hM hF
  generalize hT : realT M s = T at *
  obtain ⟨p, o, er⟩ := T
  clear hT
  cases o with
  | none =>
    have hB : ∀ V (W : World), NodeV W none V → V = .agg #[.int .i64 0, .string ⟨#[]⟩, .slice none 0 0, .int .i64 0, .int .i64 0] := fun V W h => h
    have HBX := Lib.hid hB
    clear hB hbad hdat
    by_cases hz : er = 0
    · subst hz
      have HR := Lib.hid (show statT M s = (none, 31) from HS.out)
      clear HS
      go_enter Tryd.func19, Tryd.ntmps19
      go_upto_region 6 with (first
        | (go_at_call 26; refine (HN.out _ (balloc (Below.refl _ _) _)).mono ?_; rintro e w' ⟨rfl, rfl⟩)
        | (go_at_call 28; refine HRC.out.mono ?_; rintro e w1 ⟨V, rfl, hV, hb1⟩; obtain rfl := HBX.out V w1 hV))
      have HB1 := Lib.hid (bgo (balloc (Below.refl w.heap.size w) (.cells #[.int .i64 0, .string ⟨#[]⟩, .slice none 0 0, .int .i64 0, .int .i64 0] 33)) hb1)
      have hs1 : w.heap.size < w1.heap.size := by have := hb1.size; simp at this; omega
      have r0 : w1.cell? ⟨w.heap.size, 0, none⟩ = some (.int .i64 0) := bkeep hb1 (by simp)
      have r1 : w1.cell? ⟨w.heap.size, 1, none⟩ = some (.string ⟨#[]⟩) := bkeep hb1 (by simp)
      have r2 : w1.cell? ⟨w.heap.size, 2, none⟩ = some (.slice none 0 0) := bkeep hb1 (by simp)
      have r3 : w1.cell? ⟨w.heap.size, 3, none⟩ = some (.int .i64 0) := bkeep hb1 (by simp)
      have r4 : w1.cell? ⟨w.heap.size, 4, none⟩ = some (.int .i64 0) := bkeep hb1 (by simp)
      have rf : ∀ i, w1.frozen? ⟨w.heap.size, i, none⟩ = false := (fun i => (hb1.frozen (p := ⟨w.heap.size, i, none⟩) (by simp)).trans (by simp))
      clear hb1
      go_wp2
      rw [HR.out]
      generalize hW' : World.alloc _ _ = W3
      have hW := hW'.symm
      clear hW'
      have k0 : W3.cell? ⟨w.heap.size, 0, none⟩ = some (.int .i64 0) := by rw [hW]; go_simp
      have k1 : W3.cell? ⟨w.heap.size, 1, none⟩ = some (.string ⟨#[]⟩) := by rw [hW]; go_simp
      have k2 : W3.cell? ⟨w.heap.size, 2, none⟩ = some (.slice none 0 0) := by rw [hW]; go_simp
      have k3 : W3.cell? ⟨w.heap.size, 3, none⟩ = some (.int .i64 0) := by rw [hW]; go_simp
      have k4 : W3.cell? ⟨w.heap.size, 4, none⟩ = some (.int .i64 0) := by rw [hW]; go_simp
      have HB3 : Below w.heap.size w W3 := by rw [hW]; exact balloc (((((HB1.out.setCell (by simp) _).setCell (by simp) _).setCell (by simp) _).setCell (by simp) _).setCell (by simp) _) _
      exact bodyPost_ret (v := .tuple #[.agg #[.int .i64 0, .string ⟨#[]⟩, .slice none 0 0, .int .i64 0, .int .i64 0], .int .i64 31]) (by simp [results, Tryd.results19, go_sem, k0, k1, k2, k3, k4]) rfl ⟨_, rfl, rfl, HB3⟩
    · have HR := Lib.hid (show statT M s = (none, er) from HS.out.trans (if_neg hz))
      have hz1 : (er != 0) = true := by simpa using hz
      clear HS hz
      go_enter Tryd.func19, Tryd.ntmps19
      go_upto_region 6 with (first
        | (go_at_call 26; refine (HN.out _ (balloc (Below.refl _ _) _)).mono ?_; rintro e w' ⟨rfl, rfl⟩)
        | (go_at_call 28; refine HRC.out.mono ?_; rintro e w1 ⟨V, rfl, hV, hb1⟩; obtain rfl := HBX.out V w1 hV))
      have HB1 := Lib.hid (bgo (balloc (Below.refl w.heap.size w) (.cells #[.int .i64 0, .string ⟨#[]⟩, .slice none 0 0, .int .i64 0, .int .i64 0] 33)) hb1)
      have hs1 : w.heap.size < w1.heap.size := by have := hb1.size; simp at this; omega
      have r0 : w1.cell? ⟨w.heap.size, 0, none⟩ = some (.int .i64 0) := bkeep hb1 (by simp)
      have r1 : w1.cell? ⟨w.heap.size, 1, none⟩ = some (.string ⟨#[]⟩) := bkeep hb1 (by simp)
      have r2 : w1.cell? ⟨w.heap.size, 2, none⟩ = some (.slice none 0 0) := bkeep hb1 (by simp)
      have r3 : w1.cell? ⟨w.heap.size, 3, none⟩ = some (.int .i64 0) := bkeep hb1 (by simp)
      have r4 : w1.cell? ⟨w.heap.size, 4, none⟩ = some (.int .i64 0) := bkeep hb1 (by simp)
      have rf : ∀ i, w1.frozen? ⟨w.heap.size, i, none⟩ = false := (fun i => (hb1.frozen (p := ⟨w.heap.size, i, none⟩) (by simp)).trans (by simp))
      clear hb1
      go_wp2
      rw [HR.out]
      generalize hW' : World.alloc _ _ = W3
      have hW := hW'.symm
      clear hW'
      have k0 : W3.cell? ⟨w.heap.size, 0, none⟩ = some (.int .i64 0) := by rw [hW]; go_simp
      have k1 : W3.cell? ⟨w.heap.size, 1, none⟩ = some (.string ⟨#[]⟩) := by rw [hW]; go_simp
      have k2 : W3.cell? ⟨w.heap.size, 2, none⟩ = some (.slice none 0 0) := by rw [hW]; go_simp
      have k3 : W3.cell? ⟨w.heap.size, 3, none⟩ = some (.int .i64 0) := by rw [hW]; go_simp
      have k4 : W3.cell? ⟨w.heap.size, 4, none⟩ = some (.int .i64 0) := by rw [hW]; go_simp
      have HB3 : Below w.heap.size w W3 := by rw [hW]; exact balloc (((((HB1.out.setCell (by simp) _).setCell (by simp) _).setCell (by simp) _).setCell (by simp) _).setCell (by simp) _) _
      exact bodyPost_ret (v := .tuple #[.agg #[.int .i64 0, .string ⟨#[]⟩, .slice none 0 0, .int .i64 0, .int .i64 0], .int .i64 er]) (by simp [results, Tryd.results19, go_sem, k0, k1, k2, k3, k4]) rfl ⟨_, rfl, rfl, HB3⟩
  | some x =>
    have hz : er = 0 := by
      by_cases hz : er = 0
      · exact hz
      · cases hbad hz
    subst hz
    have hdx := hdat x rfl
    have HR := Lib.hid (show statT M s = (some x, 0) from HS.out)
    clear HS hbad hdat
    go_enter Tryd.func19, Tryd.ntmps19
    go_upto_region 6 with (first
      | (go_at_call 26; refine (HN.out _ (balloc (Below.refl _ _) _)).mono ?_; rintro e w' ⟨rfl, rfl⟩)
      | (go_at_call 28; refine HRC.out.mono ?_; rintro e w1 ⟨V, rfl, ⟨A2, c2, rfl, l2, hC2⟩, hb1⟩; have HC2 := Lib.hid hC2; clear hC2))
    have HB1 := Lib.hid (bgo (balloc (Below.refl w.heap.size w) (.cells #[.int .i64 0, .string ⟨#[]⟩, .slice none 0 0, .int .i64 0, .int .i64 0] 33)) hb1)
    have hs1 : w.heap.size < w1.heap.size := by have := hb1.size; simp at this; omega
    have r0 : w1.cell? ⟨w.heap.size, 0, none⟩ = some (.int .i64 0) := bkeep hb1 (by simp)
    have r1 : w1.cell? ⟨w.heap.size, 1, none⟩ = some (.string ⟨#[]⟩) := bkeep hb1 (by simp)
    have r2 : w1.cell? ⟨w.heap.size, 2, none⟩ = some (.slice none 0 0) := bkeep hb1 (by simp)
    have r3 : w1.cell? ⟨w.heap.size, 3, none⟩ = some (.int .i64 0) := bkeep hb1 (by simp)
    have r4 : w1.cell? ⟨w.heap.size, 4, none⟩ = some (.int .i64 0) := bkeep hb1 (by simp)
    have rf : ∀ i, w1.frozen? ⟨w.heap.size, i, none⟩ = false := (fun i => (hb1.frozen (p := ⟨w.heap.size, i, none⟩) (by simp)).trans (by simp))
    clear hb1
    have HAL := Lib.hid (balloc (Below.refl w1.heap.size w1) (.cells #[.int .i64 x.f0, .string x.f1, .slice A2 x.f2.length c2, .int .i64 x.f3, .int .i64 x.f4] 33))
    have HBC := Lib.hid (show Calls Tryd.prog 20 #[.slice A2 x.f2.length c2] (w1.alloc (.cells #[.int .i64 x.f0, .string x.f1, .slice A2 x.f2.length c2, .int .i64 x.f3, .int .i64 x.f4] 33)) fun e w3 => ∃ A3 c3, e = .returned (.slice A3 x.f2.length c3) ∧ w3.cell? ⟨w1.heap.size, 0, none⟩ = some (.int .i64 x.f0) ∧ w3.cell? ⟨w1.heap.size, 1, none⟩ = some (.string x.f1) ∧ w3.cell? ⟨w1.heap.size, 2, none⟩ = some (.slice A2 x.f2.length c2) ∧ w3.cell? ⟨w1.heap.size, 3, none⟩ = some (.int .i64 x.f3) ∧ w3.cell? ⟨w1.heap.size, 4, none⟩ = some (.int .i64 x.f4) ∧ w3.cell? ⟨w.heap.size, 0, none⟩ = some (.int .i64 0) ∧ w3.cell? ⟨w.heap.size, 1, none⟩ = some (.string ⟨#[]⟩) ∧ w3.cell? ⟨w.heap.size, 2, none⟩ = some (.slice none 0 0) ∧ w3.cell? ⟨w.heap.size, 3, none⟩ = some (.int .i64 0) ∧ w3.cell? ⟨w.heap.size, 4, none⟩ = some (.int .i64 0) ∧ (∀ i, w3.frozen? ⟨w1.heap.size, i, none⟩ = false) ∧ (∀ i, w3.frozen? ⟨w.heap.size, i, none⟩ = false) ∧ Hid (Below w.heap.size w w3) ∧ Hid ((Kd.int .u8).R 5 w3 w.heap.size (fun q => q ≠ w.heap.size ∧ q ≠ w1.heap.size) (.slice A3 x.f2.length c3) x.f2) from by
      refine (bclone_calls A2 c2 x.f2 _ (Kd.C_below HC2.out HAL.out) (by omega)).mono fun e w3 ⟨v2, he, hR3, hb3⟩ => ?_
      obtain ⟨A3, c3, rfl, l3, _⟩ := Kd.R_reads hR3
      refine ⟨A3, c3, he, bkeep hb3 (show (w1.alloc (.cells #[.int .i64 x.f0, .string x.f1, .slice A2 x.f2.length c2, .int .i64 x.f3, .int .i64 x.f4] 33)).cell? ⟨w1.heap.size, 0, none⟩ = some (.int .i64 x.f0) by simp), bkeep hb3 (show (w1.alloc (.cells #[.int .i64 x.f0, .string x.f1, .slice A2 x.f2.length c2, .int .i64 x.f3, .int .i64 x.f4] 33)).cell? ⟨w1.heap.size, 1, none⟩ = some (.string x.f1) by simp), bkeep hb3 (show (w1.alloc (.cells #[.int .i64 x.f0, .string x.f1, .slice A2 x.f2.length c2, .int .i64 x.f3, .int .i64 x.f4] 33)).cell? ⟨w1.heap.size, 2, none⟩ = some (.slice A2 x.f2.length c2) by simp), bkeep hb3 (show (w1.alloc (.cells #[.int .i64 x.f0, .string x.f1, .slice A2 x.f2.length c2, .int .i64 x.f3, .int .i64 x.f4] 33)).cell? ⟨w1.heap.size, 3, none⟩ = some (.int .i64 x.f3) by simp), bkeep hb3 (show (w1.alloc (.cells #[.int .i64 x.f0, .string x.f1, .slice A2 x.f2.length c2, .int .i64 x.f3, .int .i64 x.f4] 33)).cell? ⟨w1.heap.size, 4, none⟩ = some (.int .i64 x.f4) by simp), bkeep hb3 (bkeep HAL.out r0), bkeep hb3 (bkeep HAL.out r1), bkeep hb3 (bkeep HAL.out r2), bkeep hb3 (bkeep HAL.out r3), bkeep hb3 (bkeep HAL.out r4), fun i => (hb3.frozen (p := ⟨w1.heap.size, i, none⟩) (by simp)).trans (by simp), fun i => (hb3.frozen (p := ⟨w.heap.size, i, none⟩) (by rw [World.size_alloc]; show w.heap.size < _; omega)).trans ((HAL.out.frozen (p := ⟨w.heap.size, i, none⟩) hs1).trans (rf i)), Lib.hid (bgo HB1.out (bgo HAL.out hb3)), Lib.hid (Kd.R_mono (Kd.R_lower (Kd.R_bound hR3) (show w.heap.size ≤ _ by rw [World.size_alloc]; omega)) (fun q hq => by have := hq.2.1; rw [World.size_alloc] at this; omega))⟩)
    have hne : w.heap.size ≠ w1.heap.size := by omega
    clear HAL r0 r1 r2 r3 r4 rf
    go_wp2_with (go_at_call 20; refine HBC.out.mono ?_; rintro e w3 ⟨A3, c3, rfl, q0, q1, q2, q3, q4, s0, s1, s2, s3, s4, qf, sf, HB3, HR3⟩)
    rw [HR.out]
    have HRW := Lib.hid (Kd.R_far (p := ⟨w.heap.size, 4, none⟩) (Kd.R_far (p := ⟨w.heap.size, 3, none⟩) (Kd.R_far (p := ⟨w.heap.size, 2, none⟩) (Kd.R_far (p := ⟨w.heap.size, 1, none⟩) (Kd.R_far (p := ⟨w.heap.size, 0, none⟩) (Kd.R_far (p := ⟨w1.heap.size, 2, none⟩) HR3.out (fun q hq => hq.2) (.slice A3 x.f2.length c3)) (fun q hq => hq.1) (.int .i64 x.f0)) (fun q hq => hq.1) (.string x.f1)) (fun q hq => hq.1) (.slice A3 x.f2.length c3)) (fun q hq => hq.1) (.int .i64 x.f3)) (fun q hq => hq.1) (.int .i64 x.f4))
    generalize hW' : World.setCell _ _ _ = W3 at HRW ⊢
    have hW := hW'.symm
    clear hW'
    have k0 : W3.cell? ⟨w.heap.size, 0, none⟩ = some (.int .i64 x.f0) := by rw [hW]; go_simp
    have k1 : W3.cell? ⟨w.heap.size, 1, none⟩ = some (.string x.f1) := by rw [hW]; go_simp
    have k2 : W3.cell? ⟨w.heap.size, 2, none⟩ = some (.slice A3 x.f2.length c3) := by rw [hW]; go_simp
    have k3 : W3.cell? ⟨w.heap.size, 3, none⟩ = some (.int .i64 x.f3) := by rw [hW]; go_simp
    have k4 : W3.cell? ⟨w.heap.size, 4, none⟩ = some (.int .i64 x.f4) := by rw [hW]; go_simp
    have HBW : Below w.heap.size w W3 := by rw [hW]; exact ((((((HB3.out.setCell (show w.heap.size ≤ w1.heap.size by omega) _).setCell (by simp) _).setCell (by simp) _).setCell (by simp) _).setCell (by simp) _).setCell (by simp) _)
    exact bodyPost_ret (v := .tuple #[.agg #[.int .i64 x.f0, .string x.f1, .slice A3 x.f2.length c3, .int .i64 x.f3, .int .i64 x.f4], .int .i64 0]) (by simp [results, Tryd.results19, go_sem, k0, k1, k2, k3, k4]) rfl ⟨_, rfl, ⟨_, rfl, Kd.R_mono HRW.out (fun _ _ => trivial)⟩, HBW⟩
end Go.Proofs.YtageofdcloneoaaDoor.Vfs
