/- (*FS).real, Stat walked. -/
import Derived.Test.YtfnncfgdlinmcaaDoorVfsR
import Derived.BigRegion
import Derived.RegionTactic
import Derived.ChangeAlike
set_option linter.unusedVariables false
set_option linter.unusedSimpArgs false
namespace Go.Proofs.YtfnncfgdlinmcaaDoor.Vfs
open Go.RowKit Go.BigFrame Go.Maps Go.Proofs.YtfnncfgdlinmcaaDoor.Reg Go.Proofs.YtfnncfgdlinmcaaDoor.Rout Go.Proofs.YtfnncfgdlinmcaaDoor.Node Go.Proofs.YtfnncfgdlinmcaaDoor.Tree Go.Proofs.YtfnncfgdlinmcaaDoorW.PrintWords Go.Proofs.YtfnncfgdlinmcaaDoorW.PrintLast Go.Proofs.YtfnncfgdlinmcaaDoorW.PrintMore
attribute [local go_sem ↓] Go.wp_at_zero Go.wp_at_succ
def realT (M : NMap) (s : ByteArray) : ByteArray × Option Nd × Int :=
  if s.size = 0 then (emp, none, 20) else if (realF M s).2 = 0 then ((realF M s).1, M (realF M s).1, 0) else (emp, none, (realF M s).2)
/-- A node by value, or none. -/
def NodeV (w : World) (o : Option Nd) (V : Value) : Prop := match o with
  | none => V = zeroNode
  | some x => ∃ A2 c2, V = .agg #[.int .i64 x.f0, .string x.f1, .slice A2 x.f2.length c2, .int .i64 x.f3, .int .i64 x.f4] ∧ x.f2.length ≤ c2 ∧ (Kd.int .u8).C w A2 x.f2.length x.f2
theorem realF_size (M : NMap) (hM : Fine M) (s : ByteArray) (hs : s.size ≤ 140737488351232) : (realF M s).1.size ≤ 140737488351232 := by
  unfold realF
  split
  · exact (by decide : emp.size ≤ 140737488351232)
  split
  · exact (by decide : emp.size ≤ 140737488351232)
  rename_i h1 h2
  have hv : validB s = true := by simpa using h2
  split
  · have h3 := way_size M hM (pcs s).dropLast
    have h4 : ((pcs s).getLastD emp).size ≤ s.size := by
      rw [← List.dropLast_concat_getLast (pcs_ne s), List.getLastD_concat]
      exact pcs_size _ _ (List.getLast_mem _)
    have h5 := valid_size s hv
    unfold underB
    dsimp only
    split
    · omega
    · rw [ByteArray.size_append, ByteArray.size_append, show slash.size = 1 from rfl]; omega
  · exact (by decide : emp.size ≤ 140737488351232)
abbrev zbox (w : World) : World := w.alloc (.cells #[.int .i64 0, .string ⟨#[]⟩, .slice none 0 0, .int .i64 0, .int .i64 0] 45)
set_option maxRecDepth 100000 in
set_option maxHeartbeats 4000000 in
theorem real_calls (g base b n : Nat) (ok : Nat → Prop) (M : NMap) (s : ByteArray) (w : World) (hg : w.cell? ⟨g, 0, none⟩ = some (.map (some b))) (hM : MapAt w base b n ok M) (hF : Fine M) (hs : s.size ≤ 140737488351232) :
    Calls Tryd.prog 36 #[.pointer (some ⟨g, 0, none⟩), .string s] w fun e w' => ∃ V, e = .returned (.tuple #[.string (realT M s).1, V, .bool (realT M s).2.1.isSome, .int .i64 (realT M s).2.2]) ∧ NodeV w' (realT M s).2.1 V ∧ Below w.heap.size w w' := by
  by_cases h0 : s.size = 0
  · have h1 := toList_nil s h0
    have HR := Lib.hid (show realT M s = (emp, none, 20) by unfold realT; rw [if_pos h0])
    clear h0
    go_enter Tryd.func36, Tryd.ntmps36
    go_wp2
    go_region
    all_goals
      go_wp2
      rw [HR.out]
      exact bodyPost_ret (v := .tuple #[.string ⟨#[]⟩, zeroNode, .bool false, .int .i64 20]) (by simp [results, Tryd.results36, go_sem, zeroNode]) rfl ⟨_, rfl, rfl, bdrew (balloc (Below.refl _ _) _)⟩
  have h1 := toList_ne s h0
  have hsz := realF_size M hF s hs
  have HRC := Lib.hid (Real_calls g base b n ok M s (zbox w) (bkeep (balloc (Below.refl _ _) _) hg) (hM.below (balloc (Below.refl _ _) _)) hF hs)
  by_cases hz : (realF M s).2 = 0
  · have HR := Lib.hid (show realT M s = ((realF M s).1, M (realF M s).1, 0) by unfold realT; rw [if_neg h0, if_pos hz])
    rw [hz] at HRC
    have HM := Lib.hid hM
    clear h0 hz hM hF
    generalize (realF M s).1 = p at *
    cases hn : M p with
    | none =>
      rw [hn] at HR
      go_enter Tryd.func36, Tryd.ntmps36
      go_upto_region 6 with (go_at_call 15; refine HRC.out.mono ?_; rintro e w1 ⟨rfl, hb1⟩)
      have HB1 := Lib.hid (bgo (balloc (Below.refl w.heap.size w) (.cells #[.int .i64 0, .string ⟨#[]⟩, .slice none 0 0, .int .i64 0, .int .i64 0] 45)) hb1)
      have hgw := bkeep HB1.out hg
      have hlk := ((HM.out.below HB1.out).look p hsz).1 hn
      unfold zeroNode at hlk
      have n0 : w1.cell? ⟨w.heap.size, 0, none⟩ = some (.int .i64 0) := bkeep hb1 (by simp)
      have n1 : w1.cell? ⟨w.heap.size, 1, none⟩ = some (.string ⟨#[]⟩) := bkeep hb1 (by simp)
      have n2 : w1.cell? ⟨w.heap.size, 2, none⟩ = some (.slice none 0 0) := bkeep hb1 (by simp)
      have n3 : w1.cell? ⟨w.heap.size, 3, none⟩ = some (.int .i64 0) := bkeep hb1 (by simp)
      have n4 : w1.cell? ⟨w.heap.size, 4, none⟩ = some (.int .i64 0) := bkeep hb1 (by simp)
      have nf : ∀ i, w1.frozen? ⟨w.heap.size, i, none⟩ = false := fun i => (hb1.frozen (p := ⟨w.heap.size, i, none⟩) (by simp)).trans (by simp)
      clear hb1
      go_wp2
      refine wp_world ?_
      intro w2 hw2
      have m0 : w2.cell? ⟨w.heap.size, 0, none⟩ = some (.int .i64 0) := by rw [hw2]; go_simp
      have m1 : w2.cell? ⟨w.heap.size, 1, none⟩ = some (.string ⟨#[]⟩) := by rw [hw2]; go_simp
      have m2 : w2.cell? ⟨w.heap.size, 2, none⟩ = some (.slice none 0 0) := by rw [hw2]; go_simp
      have m3 : w2.cell? ⟨w.heap.size, 3, none⟩ = some (.int .i64 0) := by rw [hw2]; go_simp
      have m4 : w2.cell? ⟨w.heap.size, 4, none⟩ = some (.int .i64 0) := by rw [hw2]; go_simp
      have mf : ∀ i, w2.frozen? ⟨w.heap.size, i, none⟩ = false := fun i => by rw [hw2]; simp [nf]
      have HB2 := Lib.hid (show Below w.heap.size w w2 by rw [hw2]; exact ((((HB1.out.setCell (by simp) _).setCell (by simp) _).setCell (by simp) _).setCell (by simp) _).setCell (by simp) _)
      clear hw2 n0 n1 n2 n3 n4 nf hgw hlk
      go_region
      all_goals
        go_wp2
        rw [HR.out]
        generalize hW' : World.drew _ = W3
        have hW := hW'.symm
        clear hW'
        have k0 : W3.cell? ⟨w.heap.size, 0, none⟩ = some (.int .i64 0) := by rw [hW]; go_simp
        have k1 : W3.cell? ⟨w.heap.size, 1, none⟩ = some (.string ⟨#[]⟩) := by rw [hW]; go_simp
        have k2 : W3.cell? ⟨w.heap.size, 2, none⟩ = some (.slice none 0 0) := by rw [hW]; go_simp
        have k3 : W3.cell? ⟨w.heap.size, 3, none⟩ = some (.int .i64 0) := by rw [hW]; go_simp
        have k4 : W3.cell? ⟨w.heap.size, 4, none⟩ = some (.int .i64 0) := by rw [hW]; go_simp
        have HB3 : Below w.heap.size w W3 := by rw [hW]; exact bdrew ((((((HB2.out.setCell (by simp) _).setCell (by simp) _).setCell (by simp) _).setCell (by simp) _).setCell (by simp) _))
        clear hW
        exact bodyPost_ret (v := .tuple #[.string p, .agg #[.int .i64 0, .string ⟨#[]⟩, .slice none 0 0, .int .i64 0, .int .i64 0], .bool false, .int .i64 0]) (by simp [results, Tryd.results36, go_sem, k0, k1, k2, k3, k4]) rfl ⟨_, rfl, rfl, HB3⟩
    | some x =>
      rw [hn] at HR
      obtain ⟨A2, c2, l2, hL⟩ := HM.out.look_all p hsz x hn
      have HL := Lib.hid hL
      clear hL
      go_enter Tryd.func36, Tryd.ntmps36
      go_upto_region 6 with (go_at_call 15; refine HRC.out.mono ?_; rintro e w1 ⟨rfl, hb1⟩)
      have HB1 := Lib.hid (bgo (balloc (Below.refl w.heap.size w) (.cells #[.int .i64 0, .string ⟨#[]⟩, .slice none 0 0, .int .i64 0, .int .i64 0] 45)) hb1)
      have hgw := bkeep HB1.out hg
      have hlk := (HL.out _ HB1.out).2
      have n0 : w1.cell? ⟨w.heap.size, 0, none⟩ = some (.int .i64 0) := bkeep hb1 (by simp)
      have n1 : w1.cell? ⟨w.heap.size, 1, none⟩ = some (.string ⟨#[]⟩) := bkeep hb1 (by simp)
      have n2 : w1.cell? ⟨w.heap.size, 2, none⟩ = some (.slice none 0 0) := bkeep hb1 (by simp)
      have n3 : w1.cell? ⟨w.heap.size, 3, none⟩ = some (.int .i64 0) := bkeep hb1 (by simp)
      have n4 : w1.cell? ⟨w.heap.size, 4, none⟩ = some (.int .i64 0) := bkeep hb1 (by simp)
      have nf : ∀ i, w1.frozen? ⟨w.heap.size, i, none⟩ = false := fun i => (hb1.frozen (p := ⟨w.heap.size, i, none⟩) (by simp)).trans (by simp)
      clear hb1
      go_wp2
      refine wp_world ?_
      intro w2 hw2
      have m0 : w2.cell? ⟨w.heap.size, 0, none⟩ = some (.int .i64 x.f0) := by rw [hw2]; go_simp
      have m1 : w2.cell? ⟨w.heap.size, 1, none⟩ = some (.string x.f1) := by rw [hw2]; go_simp
      have m2 : w2.cell? ⟨w.heap.size, 2, none⟩ = some (.slice A2 x.f2.length c2) := by rw [hw2]; go_simp
      have m3 : w2.cell? ⟨w.heap.size, 3, none⟩ = some (.int .i64 x.f3) := by rw [hw2]; go_simp
      have m4 : w2.cell? ⟨w.heap.size, 4, none⟩ = some (.int .i64 x.f4) := by rw [hw2]; go_simp
      have mf : ∀ i, w2.frozen? ⟨w.heap.size, i, none⟩ = false := fun i => by rw [hw2]; simp [nf]
      have HB2 := Lib.hid (show Below w.heap.size w w2 by rw [hw2]; exact ((((HB1.out.setCell (by simp) _).setCell (by simp) _).setCell (by simp) _).setCell (by simp) _).setCell (by simp) _)
      clear hw2 n0 n1 n2 n3 n4 nf hgw hlk
      go_region
      all_goals
        go_wp2
        rw [HR.out]
        generalize hW' : World.drew _ = W3
        have hW := hW'.symm
        clear hW'
        have k0 : W3.cell? ⟨w.heap.size, 0, none⟩ = some (.int .i64 x.f0) := by rw [hW]; go_simp
        have k1 : W3.cell? ⟨w.heap.size, 1, none⟩ = some (.string x.f1) := by rw [hW]; go_simp
        have k2 : W3.cell? ⟨w.heap.size, 2, none⟩ = some (.slice A2 x.f2.length c2) := by rw [hW]; go_simp
        have k3 : W3.cell? ⟨w.heap.size, 3, none⟩ = some (.int .i64 x.f3) := by rw [hW]; go_simp
        have k4 : W3.cell? ⟨w.heap.size, 4, none⟩ = some (.int .i64 x.f4) := by rw [hW]; go_simp
        have HB3 : Below w.heap.size w W3 := by rw [hW]; exact bdrew ((((((HB2.out.setCell (by simp) _).setCell (by simp) _).setCell (by simp) _).setCell (by simp) _).setCell (by simp) _))
        clear hW
        exact bodyPost_ret (v := .tuple #[.string p, .agg #[.int .i64 x.f0, .string x.f1, .slice A2 x.f2.length c2, .int .i64 x.f3, .int .i64 x.f4], .bool true, .int .i64 0]) (by simp [results, Tryd.results36, go_sem, k0, k1, k2, k3, k4]) rfl ⟨_, rfl, ⟨A2, c2, rfl, l2, (HL.out _ HB3).1⟩, HB3⟩
  · have HR := Lib.hid (show realT M s = (emp, none, (realF M s).2) by unfold realT; rw [if_neg h0, if_neg hz])
    have hz1 : ((realF M s).2 != 0) = true := by simpa using hz
    clear h0 hz hM hF
    generalize (realF M s).1 = p at *
    generalize (realF M s).2 = er at *
    skip
    go_enter Tryd.func36, Tryd.ntmps36
    go_upto_region 5 with (go_at_call 15; refine HRC.out.mono ?_; rintro e w1 ⟨rfl, hb1⟩)
    have HB1 := Lib.hid (bgo (balloc (Below.refl w.heap.size w) (.cells #[.int .i64 0, .string ⟨#[]⟩, .slice none 0 0, .int .i64 0, .int .i64 0] 45)) hb1)
    have hgw := HB1
    have hlk := HB1
    have n0 : w1.cell? ⟨w.heap.size, 0, none⟩ = some (.int .i64 0) := bkeep hb1 (by simp)
    have n1 : w1.cell? ⟨w.heap.size, 1, none⟩ = some (.string ⟨#[]⟩) := bkeep hb1 (by simp)
    have n2 : w1.cell? ⟨w.heap.size, 2, none⟩ = some (.slice none 0 0) := bkeep hb1 (by simp)
    have n3 : w1.cell? ⟨w.heap.size, 3, none⟩ = some (.int .i64 0) := bkeep hb1 (by simp)
    have n4 : w1.cell? ⟨w.heap.size, 4, none⟩ = some (.int .i64 0) := bkeep hb1 (by simp)
    have nf : ∀ i, w1.frozen? ⟨w.heap.size, i, none⟩ = false := fun i => (hb1.frozen (p := ⟨w.heap.size, i, none⟩) (by simp)).trans (by simp)
    clear hb1
    refine wp_world ?_
    intro w2 hw2
    have m0 : w2.cell? ⟨w.heap.size, 0, none⟩ = some (.int .i64 0) := by rw [hw2]; go_simp
    have m1 : w2.cell? ⟨w.heap.size, 1, none⟩ = some (.string ⟨#[]⟩) := by rw [hw2]; go_simp
    have m2 : w2.cell? ⟨w.heap.size, 2, none⟩ = some (.slice none 0 0) := by rw [hw2]; go_simp
    have m3 : w2.cell? ⟨w.heap.size, 3, none⟩ = some (.int .i64 0) := by rw [hw2]; go_simp
    have m4 : w2.cell? ⟨w.heap.size, 4, none⟩ = some (.int .i64 0) := by rw [hw2]; go_simp
    have mf : ∀ i, w2.frozen? ⟨w.heap.size, i, none⟩ = false := fun i => by rw [hw2]; simp [nf]
    have HB2 := Lib.hid (show Below w.heap.size w w2 by rw [hw2]; exact HB1.out)
    clear hw2 n0 n1 n2 n3 n4 nf hgw hlk
    go_region
    all_goals
      go_wp2
      rw [HR.out]
      generalize hW' : World.drew _ = W3
      have hW := hW'.symm
      clear hW'
      have k0 : W3.cell? ⟨w.heap.size, 0, none⟩ = some (.int .i64 0) := by rw [hW]; go_simp
      have k1 : W3.cell? ⟨w.heap.size, 1, none⟩ = some (.string ⟨#[]⟩) := by rw [hW]; go_simp
      have k2 : W3.cell? ⟨w.heap.size, 2, none⟩ = some (.slice none 0 0) := by rw [hW]; go_simp
      have k3 : W3.cell? ⟨w.heap.size, 3, none⟩ = some (.int .i64 0) := by rw [hW]; go_simp
      have k4 : W3.cell? ⟨w.heap.size, 4, none⟩ = some (.int .i64 0) := by rw [hW]; go_simp
      have HB3 : Below w.heap.size w W3 := by rw [hW]; exact bdrew ((((((HB2.out.setCell (by simp) _).setCell (by simp) _).setCell (by simp) _).setCell (by simp) _).setCell (by simp) _))
      clear hW
      exact bodyPost_ret (v := .tuple #[.string ⟨#[]⟩, .agg #[.int .i64 0, .string ⟨#[]⟩, .slice none 0 0, .int .i64 0, .int .i64 0], .bool false, .int .i64 er]) (by simp [results, Tryd.results36, go_sem, k0, k1, k2, k3, k4]) rfl ⟨_, rfl, rfl, HB3⟩
end Go.Proofs.YtfnncfgdlinmcaaDoor.Vfs
