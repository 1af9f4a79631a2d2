/- (*FS).Stat walked. -/
import Derived.Test.YtfnncfgdlinmcaaDoorVfsS
set_option linter.unusedVariables false
set_option linter.unusedSimpArgs false
namespace Go.Proofs.YtfnncfgdlinmcaaDoor.Vfs
open Go.RowKit Go.BigFrame Go.Maps Go.Proofs.YtfnncfgdlinmcaaDoor.Reg Go.Proofs.YtfnncfgdlinmcaaDoor.Rout Go.Proofs.YtfnncfgdlinmcaaDoor.Node Go.Proofs.YtfnncfgdlinmcaaDoor.Tree Go.Proofs.YtfnncfgdlinmcaaDoorW.PrintWords Go.Proofs.YtfnncfgdlinmcaaDoorW.PrintLast Go.Proofs.YtfnncfgdlinmcaaDoorW.PrintMore
attribute [local go_sem ↓] Go.wp_at_zero Go.wp_at_succ
def rootN : Nd := ⟨1, emp, [], 493, 0⟩
def statT (M : NMap) (s : ByteArray) : Option Nd × Int :=
  if s.size = 0 then (some rootN, 0) else if (realT M s).2.2 = 0 then match (realT M s).2.1 with | none => (none, 31) | some x => (some x, 0) else (none, (realT M s).2.2)
/-- A node by value with bytes of its own, or none. -/
def NodeR (w : World) (base : Nat) (o : Option Nd) (V : Value) : Prop := match o with
  | none => V = zeroNode
  | some x => ∃ v2, V = .agg #[.int .i64 x.f0, .string x.f1, v2, .int .i64 x.f3, .int .i64 x.f4] ∧ (Kd.int .u8).R 5 w base (fun _ => True) v2 x.f2
theorem realT_bad (M : NMap) (s : ByteArray) (h : (realT M s).2.2 ≠ 0) : (realT M s).2.1 = none := by
  unfold realT at *
  split
  · rfl
  · rename_i h0
    rw [if_neg h0] at h
    split
    · rename_i h1
      rw [if_pos h1] at h
      exact absurd rfl h
    · rfl
set_option maxRecDepth 100000 in
set_option maxHeartbeats 4000000 in
theorem Stat_calls (g base b n : Nat) (ok : Nat → Prop) (M : NMap) (s : ByteArray) (w : World) (hg : w.cell? ⟨g, 0, none⟩ = some (.map (some b))) (hM : MapAt w base b n ok M) (hF : Fine M) (hs : s.size ≤ 140737488351232) :
    Calls Tryd.prog 18 #[.pointer (some ⟨g, 0, none⟩), .string s] w fun e w' => ∃ V, e = .returned (.tuple #[V, .int .i64 (statT M s).2]) ∧ NodeR w' w.heap.size (statT M s).1 V ∧ Below w.heap.size w w' := by
  have HN := Lib.hid (fun W (h : Below w.heap.size w W) => none_calls g b W (bkeep h hg))
  by_cases h0 : s.size = 0
  · have h1 := toList_nil s h0
    have HR := Lib.hid (show statT M s = (some rootN, 0) by unfold statT; rw [if_pos h0])
    clear h0
    go_enter Tryd.func18, Tryd.ntmps18
    go_wp2_with (go_at_call 29; refine (HN.out _ (balloc (Below.refl _ _) _)).mono ?_; rintro e w' ⟨rfl, rfl⟩)
    rw [HR.out]
    exact bodyPost_ret (v := .tuple #[.agg #[.int .i64 1, .string ⟨#[]⟩, .slice none 0 0, .int .i64 493, .int .i64 0], .int .i64 0]) (by simp [results, Tryd.results18, go_sem]) rfl ⟨_, rfl, ⟨.slice none 0 0, rfl, Kd.R_nil _ _ _ _ _⟩, balloc (Below.refl _ _) _⟩
  have h1 := toList_ne s h0
  have HRC := Lib.hid (real_calls g base b n ok M s (zbox w) (bkeep (balloc (Below.refl _ _) _) hg) (hM.below (balloc (Below.refl _ _) _)) hF hs)
  have HS := Lib.hid (show statT M s = if (realT M s).2.2 = 0 then match (realT M s).2.1 with | none => (none, 31) | some x => (some x, 0) else (none, (realT M s).2.2) by unfold statT; rw [if_neg h0])
  have hbad := realT_bad M s
  have hdat := fun x (hx : (realT M s).2.1 = some x) => show x.f2.length ≤ 268435456 by
    unfold realT at hx
    rw [if_neg h0] at hx
    split at hx
    · exact hF.data _ _ hx
    · cases hx
  have HM := Lib.hid hM
  clear h0 hM hF
  generalize hT : realT M s = T at *
  obtain ⟨p, o, er⟩ := T
  clear hT
  cases o with
  | none =>
    have hB : ∀ V (W : World), NodeV W none V → V = .agg #[.int .i64 0, .string ⟨#[]⟩, .slice none 0 0, .int .i64 0, .int .i64 0] := fun V W h => h
    have HBX := Lib.hid hB
    clear hB hbad hdat
    by_cases hz : er = 0
    · subst hz
      have HR := Lib.hid (show statT M s = (none, 31) from HS.out)
      clear HS
      go_enter Tryd.func18, Tryd.ntmps18
      go_upto_region 6 with (first
        | (go_at_call 29; refine (HN.out _ (balloc (Below.refl _ _) _)).mono ?_; rintro e w' ⟨rfl, rfl⟩)
        | (go_at_call 36; refine HRC.out.mono ?_; rintro e w1 ⟨V, rfl, hV, hb1⟩; obtain rfl := HBX.out V w1 hV))
      have HB1 := Lib.hid (bgo (balloc (Below.refl w.heap.size w) (.cells #[.int .i64 0, .string ⟨#[]⟩, .slice none 0 0, .int .i64 0, .int .i64 0] 45)) hb1)
      have hs1 : w.heap.size < w1.heap.size := by have := hb1.size; simp at this; omega
      have r0 : w1.cell? ⟨w.heap.size, 0, none⟩ = some (.int .i64 0) := bkeep hb1 (by simp)
      have r1 : w1.cell? ⟨w.heap.size, 1, none⟩ = some (.string ⟨#[]⟩) := bkeep hb1 (by simp)
      have r2 : w1.cell? ⟨w.heap.size, 2, none⟩ = some (.slice none 0 0) := bkeep hb1 (by simp)
      have r3 : w1.cell? ⟨w.heap.size, 3, none⟩ = some (.int .i64 0) := bkeep hb1 (by simp)
      have r4 : w1.cell? ⟨w.heap.size, 4, none⟩ = some (.int .i64 0) := bkeep hb1 (by simp)
      have rf : ∀ i, w1.frozen? ⟨w.heap.size, i, none⟩ = false := (fun i => (hb1.frozen (p := ⟨w.heap.size, i, none⟩) (by simp)).trans (by simp))
      clear hb1
      go_wp2
      rw [HR.out]
      generalize hW' : World.alloc _ _ = W3
      have hW := hW'.symm
      clear hW'
      have k0 : W3.cell? ⟨w.heap.size, 0, none⟩ = some (.int .i64 0) := by rw [hW]; go_simp
      have k1 : W3.cell? ⟨w.heap.size, 1, none⟩ = some (.string ⟨#[]⟩) := by rw [hW]; go_simp
      have k2 : W3.cell? ⟨w.heap.size, 2, none⟩ = some (.slice none 0 0) := by rw [hW]; go_simp
      have k3 : W3.cell? ⟨w.heap.size, 3, none⟩ = some (.int .i64 0) := by rw [hW]; go_simp
      have k4 : W3.cell? ⟨w.heap.size, 4, none⟩ = some (.int .i64 0) := by rw [hW]; go_simp
      have HB3 : Below w.heap.size w W3 := by rw [hW]; exact balloc (((((HB1.out.setCell (by simp) _).setCell (by simp) _).setCell (by simp) _).setCell (by simp) _).setCell (by simp) _) _
      exact bodyPost_ret (v := .tuple #[.agg #[.int .i64 0, .string ⟨#[]⟩, .slice none 0 0, .int .i64 0, .int .i64 0], .int .i64 31]) (by simp [results, Tryd.results18, go_sem, k0, k1, k2, k3, k4]) rfl ⟨_, rfl, rfl, HB3⟩
    · have HR := Lib.hid (show statT M s = (none, er) from HS.out.trans (if_neg hz))
      have hz1 : (er != 0) = true := by simpa using hz
      clear HS hz
      go_enter Tryd.func18, Tryd.ntmps18
      go_upto_region 6 with (first
        | (go_at_call 29; refine (HN.out _ (balloc (Below.refl _ _) _)).mono ?_; rintro e w' ⟨rfl, rfl⟩)
        | (go_at_call 36; refine HRC.out.mono ?_; rintro e w1 ⟨V, rfl, hV, hb1⟩; obtain rfl := HBX.out V w1 hV))
      have HB1 := Lib.hid (bgo (balloc (Below.refl w.heap.size w) (.cells #[.int .i64 0, .string ⟨#[]⟩, .slice none 0 0, .int .i64 0, .int .i64 0] 45)) hb1)
      have hs1 : w.heap.size < w1.heap.size := by have := hb1.size; simp at this; omega
      have r0 : w1.cell? ⟨w.heap.size, 0, none⟩ = some (.int .i64 0) := bkeep hb1 (by simp)
      have r1 : w1.cell? ⟨w.heap.size, 1, none⟩ = some (.string ⟨#[]⟩) := bkeep hb1 (by simp)
      have r2 : w1.cell? ⟨w.heap.size, 2, none⟩ = some (.slice none 0 0) := bkeep hb1 (by simp)
      have r3 : w1.cell? ⟨w.heap.size, 3, none⟩ = some (.int .i64 0) := bkeep hb1 (by simp)
      have r4 : w1.cell? ⟨w.heap.size, 4, none⟩ = some (.int .i64 0) := bkeep hb1 (by simp)
      have rf : ∀ i, w1.frozen? ⟨w.heap.size, i, none⟩ = false := (fun i => (hb1.frozen (p := ⟨w.heap.size, i, none⟩) (by simp)).trans (by simp))
      clear hb1
      go_wp2
      rw [HR.out]
      generalize hW' : World.alloc _ _ = W3
      have hW := hW'.symm
      clear hW'
      have k0 : W3.cell? ⟨w.heap.size, 0, none⟩ = some (.int .i64 0) := by rw [hW]; go_simp
      have k1 : W3.cell? ⟨w.heap.size, 1, none⟩ = some (.string ⟨#[]⟩) := by rw [hW]; go_simp
      have k2 : W3.cell? ⟨w.heap.size, 2, none⟩ = some (.slice none 0 0) := by rw [hW]; go_simp
      have k3 : W3.cell? ⟨w.heap.size, 3, none⟩ = some (.int .i64 0) := by rw [hW]; go_simp
      have k4 : W3.cell? ⟨w.heap.size, 4, none⟩ = some (.int .i64 0) := by rw [hW]; go_simp
      have HB3 : Below w.heap.size w W3 := by rw [hW]; exact balloc (((((HB1.out.setCell (by simp) _).setCell (by simp) _).setCell (by simp) _).setCell (by simp) _).setCell (by simp) _) _
      exact bodyPost_ret (v := .tuple #[.agg #[.int .i64 0, .string ⟨#[]⟩, .slice none 0 0, .int .i64 0, .int .i64 0], .int .i64 er]) (by simp [results, Tryd.results18, go_sem, k0, k1, k2, k3, k4]) rfl ⟨_, rfl, rfl, HB3⟩
  | some x =>
    have hz : er = 0 := by
      by_cases hz : er = 0
      · exact hz
      · cases hbad hz
    subst hz
    have hdx := hdat x rfl
    have HR := Lib.hid (show statT M s = (some x, 0) from HS.out)
    clear HS hbad hdat
    go_enter Tryd.func18, Tryd.ntmps18
    go_upto_region 6 with (first
      | (go_at_call 29; refine (HN.out _ (balloc (Below.refl _ _) _)).mono ?_; rintro e w' ⟨rfl, rfl⟩)
      | (go_at_call 36; refine HRC.out.mono ?_; rintro e w1 ⟨V, rfl, ⟨A2, c2, rfl, l2, hC2⟩, hb1⟩; have HC2 := Lib.hid hC2; clear hC2))
    have HB1 := Lib.hid (bgo (balloc (Below.refl w.heap.size w) (.cells #[.int .i64 0, .string ⟨#[]⟩, .slice none 0 0, .int .i64 0, .int .i64 0] 45)) hb1)
    have hs1 : w.heap.size < w1.heap.size := by have := hb1.size; simp at this; omega
    have r0 : w1.cell? ⟨w.heap.size, 0, none⟩ = some (.int .i64 0) := bkeep hb1 (by simp)
    have r1 : w1.cell? ⟨w.heap.size, 1, none⟩ = some (.string ⟨#[]⟩) := bkeep hb1 (by simp)
    have r2 : w1.cell? ⟨w.heap.size, 2, none⟩ = some (.slice none 0 0) := bkeep hb1 (by simp)
    have r3 : w1.cell? ⟨w.heap.size, 3, none⟩ = some (.int .i64 0) := bkeep hb1 (by simp)
    have r4 : w1.cell? ⟨w.heap.size, 4, none⟩ = some (.int .i64 0) := bkeep hb1 (by simp)
    have rf : ∀ i, w1.frozen? ⟨w.heap.size, i, none⟩ = false := (fun i => (hb1.frozen (p := ⟨w.heap.size, i, none⟩) (by simp)).trans (by simp))
    clear hb1
    have HAL := Lib.hid (balloc (Below.refl w1.heap.size w1) (.cells #[.int .i64 x.f0, .string x.f1, .slice A2 x.f2.length c2, .int .i64 x.f3, .int .i64 x.f4] 45))
    have HBC := Lib.hid (show Calls Tryd.prog 28 #[.slice A2 x.f2.length c2] (w1.alloc (.cells #[.int .i64 x.f0, .string x.f1, .slice A2 x.f2.length c2, .int .i64 x.f3, .int .i64 x.f4] 45)) fun e w3 => ∃ A3 c3, e = .returned (.slice A3 x.f2.length c3) ∧ w3.cell? ⟨w1.heap.size, 0, none⟩ = some (.int .i64 x.f0) ∧ w3.cell? ⟨w1.heap.size, 1, none⟩ = some (.string x.f1) ∧ w3.cell? ⟨w1.heap.size, 2, none⟩ = some (.slice A2 x.f2.length c2) ∧ w3.cell? ⟨w1.heap.size, 3, none⟩ = some (.int .i64 x.f3) ∧ w3.cell? ⟨w1.heap.size, 4, none⟩ = some (.int .i64 x.f4) ∧ w3.cell? ⟨w.heap.size, 0, none⟩ = some (.int .i64 0) ∧ w3.cell? ⟨w.heap.size, 1, none⟩ = some (.string ⟨#[]⟩) ∧ w3.cell? ⟨w.heap.size, 2, none⟩ = some (.slice none 0 0) ∧ w3.cell? ⟨w.heap.size, 3, none⟩ = some (.int .i64 0) ∧ w3.cell? ⟨w.heap.size, 4, none⟩ = some (.int .i64 0) ∧ (∀ i, w3.frozen? ⟨w1.heap.size, i, none⟩ = false) ∧ (∀ i, w3.frozen? ⟨w.heap.size, i, none⟩ = false) ∧ Hid (Below w.heap.size w w3) ∧ Hid ((Kd.int .u8).R 5 w3 w.heap.size (fun q => q ≠ w.heap.size ∧ q ≠ w1.heap.size) (.slice A3 x.f2.length c3) x.f2) from by
      refine (bclone_calls A2 c2 x.f2 _ (Kd.C_below HC2.out HAL.out) (by omega)).mono fun e w3 ⟨v2, he, hR3, hb3⟩ => ?_
      obtain ⟨A3, c3, rfl, l3, _⟩ := Kd.R_reads hR3
      refine ⟨A3, c3, he, bkeep hb3 (show (w1.alloc (.cells #[.int .i64 x.f0, .string x.f1, .slice A2 x.f2.length c2, .int .i64 x.f3, .int .i64 x.f4] 45)).cell? ⟨w1.heap.size, 0, none⟩ = some (.int .i64 x.f0) by simp), bkeep hb3 (show (w1.alloc (.cells #[.int .i64 x.f0, .string x.f1, .slice A2 x.f2.length c2, .int .i64 x.f3, .int .i64 x.f4] 45)).cell? ⟨w1.heap.size, 1, none⟩ = some (.string x.f1) by simp), bkeep hb3 (show (w1.alloc (.cells #[.int .i64 x.f0, .string x.f1, .slice A2 x.f2.length c2, .int .i64 x.f3, .int .i64 x.f4] 45)).cell? ⟨w1.heap.size, 2, none⟩ = some (.slice A2 x.f2.length c2) by simp), bkeep hb3 (show (w1.alloc (.cells #[.int .i64 x.f0, .string x.f1, .slice A2 x.f2.length c2, .int .i64 x.f3, .int .i64 x.f4] 45)).cell? ⟨w1.heap.size, 3, none⟩ = some (.int .i64 x.f3) by simp), bkeep hb3 (show (w1.alloc (.cells #[.int .i64 x.f0, .string x.f1, .slice A2 x.f2.length c2, .int .i64 x.f3, .int .i64 x.f4] 45)).cell? ⟨w1.heap.size, 4, none⟩ = some (.int .i64 x.f4) by simp), bkeep hb3 (bkeep HAL.out r0), bkeep hb3 (bkeep HAL.out r1), bkeep hb3 (bkeep HAL.out r2), bkeep hb3 (bkeep HAL.out r3), bkeep hb3 (bkeep HAL.out r4), fun i => (hb3.frozen (p := ⟨w1.heap.size, i, none⟩) (by simp)).trans (by simp), fun i => (hb3.frozen (p := ⟨w.heap.size, i, none⟩) (by rw [World.size_alloc]; show w.heap.size < _; omega)).trans ((HAL.out.frozen (p := ⟨w.heap.size, i, none⟩) hs1).trans (rf i)), Lib.hid (bgo HB1.out (bgo HAL.out hb3)), Lib.hid (Kd.R_mono (Kd.R_lower (Kd.R_bound hR3) (show w.heap.size ≤ _ by rw [World.size_alloc]; omega)) (fun q hq => by have := hq.2.1; rw [World.size_alloc] at this; omega))⟩)
    have hne : w.heap.size ≠ w1.heap.size := by omega
    clear HAL r0 r1 r2 r3 r4 rf
    go_wp2_with (go_at_call 28; refine HBC.out.mono ?_; rintro e w3 ⟨A3, c3, rfl, q0, q1, q2, q3, q4, s0, s1, s2, s3, s4, qf, sf, HB3, HR3⟩)
    rw [HR.out]
    have HRW := Lib.hid (Kd.R_far (p := ⟨w.heap.size, 4, none⟩) (Kd.R_far (p := ⟨w.heap.size, 3, none⟩) (Kd.R_far (p := ⟨w.heap.size, 2, none⟩) (Kd.R_far (p := ⟨w.heap.size, 1, none⟩) (Kd.R_far (p := ⟨w.heap.size, 0, none⟩) (Kd.R_far (p := ⟨w1.heap.size, 2, none⟩) HR3.out (fun q hq => hq.2) (.slice A3 x.f2.length c3)) (fun q hq => hq.1) (.int .i64 x.f0)) (fun q hq => hq.1) (.string x.f1)) (fun q hq => hq.1) (.slice A3 x.f2.length c3)) (fun q hq => hq.1) (.int .i64 x.f3)) (fun q hq => hq.1) (.int .i64 x.f4))
    generalize hW' : World.setCell _ _ _ = W3 at HRW ⊢
    have hW := hW'.symm
    clear hW'
    have k0 : W3.cell? ⟨w.heap.size, 0, none⟩ = some (.int .i64 x.f0) := by rw [hW]; go_simp
    have k1 : W3.cell? ⟨w.heap.size, 1, none⟩ = some (.string x.f1) := by rw [hW]; go_simp
    have k2 : W3.cell? ⟨w.heap.size, 2, none⟩ = some (.slice A3 x.f2.length c3) := by rw [hW]; go_simp
    have k3 : W3.cell? ⟨w.heap.size, 3, none⟩ = some (.int .i64 x.f3) := by rw [hW]; go_simp
    have k4 : W3.cell? ⟨w.heap.size, 4, none⟩ = some (.int .i64 x.f4) := by rw [hW]; go_simp
    have HBW : Below w.heap.size w W3 := by rw [hW]; exact ((((((HB3.out.setCell (show w.heap.size ≤ w1.heap.size by omega) _).setCell (by simp) _).setCell (by simp) _).setCell (by simp) _).setCell (by simp) _).setCell (by simp) _)
    exact bodyPost_ret (v := .tuple #[.agg #[.int .i64 x.f0, .string x.f1, .slice A3 x.f2.length c3, .int .i64 x.f3, .int .i64 x.f4], .int .i64 0]) (by simp [results, Tryd.results18, go_sem, k0, k1, k2, k3, k4]) rfl ⟨_, rfl, ⟨_, rfl, Kd.R_mono HRW.out (fun _ _ => trivial)⟩, HBW⟩
end Go.Proofs.YtfnncfgdlinmcaaDoor.Vfs
