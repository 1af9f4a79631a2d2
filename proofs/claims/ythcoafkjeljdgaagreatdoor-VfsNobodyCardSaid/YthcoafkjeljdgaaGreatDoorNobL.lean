/- hamperlaw23.VfsNobody walked. -/
import Derived.Test.YthcoafkjeljdgaaGreatDoorNob
import Derived.Deep.DeepCutAuto
import Derived.Deep.CutBlock
set_option linter.unusedVariables false
namespace Go.Proofs.YthcoafkjeljdgaaGreatDoor.Nob
open Go.RowKit Go.BigFrame Go.Proofs.YthcoafkjeljdgaaGreatDoor.Reg
set_option maxHeartbeats 4000000 in
set_option maxRecDepth 100000 in
theorem law (c0 c1 c2 c3 c4 c5 c6 c7 c8 c9 c10 : Value) (w : World) :
    Calls Tryz.prog 3 #[.agg #[c0, c1, c2, c3, c4, c5, c6, c7, c8, c9, c10]] w fun e w' => e = .returned (.bool true) ∧ Below w.heap.size w w' := by
  go_enter Tryz.func3, Tryz.ntmps3
  go_wp2
  refine wp_world ?_
  intro W0 hW0
  have hB0 : Below w.heap.size w W0 := by rw [hW0]; exact balloc (balloc (balloc (Below.refl _ _) _) _) _
  have hA : ∀ k : Nat, W0.cell? ⟨w.heap.size, k, none⟩ = #[c0, c1, c2, c3, c4, c5, c6, c7, c8, c9, c10][k]? := fun k => by
    rw [hW0, World.cell?_alloc_past _ _ _ (by simp; omega), World.cell?_alloc_past _ _ _ (by simp), World.cell?_alloc_at _ _ _ _ rfl]
  have hS : W0.cell? ⟨w.heap.size + 1, 0, none⟩ = some (.map none) := by
    rw [hW0, World.cell?_alloc_past _ _ _ (by simp), World.cell?_alloc_at _ _ _ _ (by simp)]; rfl
  have hL : ∀ k : Nat, W0.cell? ⟨w.heap.size + 1 + 1, k, none⟩ = #[Value.pointer none, Value.pointer (some ⟨w.heap.size + 1, 0, none⟩)][k]? := fun k => by
    rw [hW0, World.cell?_alloc_at _ _ _ _ (by simp)]
  have HZ : w.heap.size < W0.heap.size := by rw [hW0]; simp; omega
  clear hW0
  go_loopw [2, 4, 5, 6, 7, 8, 9, 10, 15] (fun r2 _ _ _ _ _ _ _ j wr => ∃ k : Nat, k ≤ 2 ∧ j = .int .i64 k ∧ r2 = .bool false ∧ Below W0.heap.size W0 wr) (fun _ _ _ _ _ _ _ _ j _ => 2 - (intOf j).toNat)
  case atStart => exact ⟨0, by omega, rfl, rfl, Below.refl _ _⟩
  case round =>
    obtain ⟨k, hk, rfl, rfl, hbr⟩ := hrel
    by_cases hk2 : k < 2
    · obtain ⟨p, hp, hN⟩ : ∃ p, wr.cell? ⟨w.heap.size + 1 + 1, k, none⟩ = some p ∧ Nob wr p := by
        rcases (show k = 0 ∨ k = 1 by omega) with rfl | rfl
        · exact ⟨_, bkeep hbr (hL 0), .inl rfl⟩
        · exact ⟨_, bkeep hbr (hL 1), .inr ⟨_, rfl, bkeep hbr hS⟩⟩
      have HA := Lib.hid hA
      have q10 := bkeep hbr (hA 10)
      clear hL hS hA
      go_upto_region 5 with (go_at_call 4; refine (stat_calls p _ _ hN).mono ?_; rintro e w1 ⟨rfl, hb1⟩)
      have hB1 : Below W0.heap.size W0 (w1.alloc (.cells #[.int .i64 0, .string ByteArray.empty, .slice none 0 0, .int .i64 0, .int .i64 0] 24)) := balloc (bgo hbr hb1) _
      have hM : ∀ j : Nat, (w1.alloc (.cells #[.int .i64 0, .string ByteArray.empty, .slice none 0 0, .int .i64 0, .int .i64 0] 24)).cell? ⟨w1.heap.size, j, none⟩ = #[Value.int .i64 0, .string ByteArray.empty, .slice none 0 0, .int .i64 0, .int .i64 0][j]? := fun j => World.cell?_alloc_at _ _ _ _ rfl
      have hNW : Nob (w1.alloc (.cells #[.int .i64 0, .string ByteArray.empty, .slice none 0 0, .int .i64 0, .int .i64 0] 24)) p := hN.below (balloc hb1 _)
      refine wp_world ?_
      intro W1 hW1
      rw [← hW1] at hB1 hM hNW
      have HM := Lib.hid hM
      have HA1 : Hid (∀ k : Nat, W1.cell? ⟨w.heap.size, k, none⟩ = #[c0, c1, c2, c3, c4, c5, c6, c7, c8, c9, c10][k]?) := Lib.hid (fun k => by
        rw [hB1.cell (show w.heap.size < W0.heap.size from HZ), HA.out k])
      have HN1 : Hid (∀ W' : World, Below W1.heap.size W1 W' → Nob W' p) := Lib.hid (fun W' hb => hNW.below hb)
      have hD1 := Below.refl W1.heap.size W1
      have q1_10 := HA1.out 10
      clear hM hW1 hb1 hN hp q10 HA hNW
      go_wp2_with (first
        | (go_at_call 16; refine (clone_calls p _ (HN1.out _ hD12)).mono ?_; rintro e w13 ⟨rfl, hb13⟩; have hD13 := bgo hD12 hb13)
        | (go_at_call 15; refine (log_calls p _ (HN1.out _ hD11)).mono ?_; rintro e w12 ⟨rfl, hb12⟩; have hD12 := bgo hD11 hb12)
        | (go_at_call 14; refine (tree_calls p _ (HN1.out _ hD10)).mono ?_; rintro e w11 ⟨rfl, hb11⟩; have hD11 := bgo hD10 hb11)
        | (go_at_call 13; refine (one_calls _).mono ?_; rintro e w10 ⟨rfl, hb10⟩; have hD10 := bgo hD9 hb10)
        | (go_at_call 12; refine (room_calls p _ _ (HN1.out _ hD8)).mono ?_; rintro e w9 ⟨rfl, hb9⟩; have hD9 := bgo hD8 hb9; have n0 := bkeep hD9 (HM.out 0); have n1 := bkeep hD9 (HM.out 1); have n2 := bkeep hD9 (HM.out 2); have n3 := bkeep hD9 (HM.out 3); have n4 := bkeep hD9 (HM.out 4))
        | (go_at_call 11; refine (fail_calls p _ _ _ (HN1.out _ hD7)).mono ?_; rintro e w8 ⟨rfl, hb8⟩; have hD8 := bgo hD7 hb8; have q8_8 := bkeep hD8 (HA1.out 8))
        | (go_at_call 10; refine (remove_calls p _ _ (HN1.out _ hD6)).mono ?_; rintro e w7 ⟨rfl, hb7⟩; have hD7 := bgo hD6 hb7; have q7_8 := bkeep hD7 (HA1.out 8); have q7_9 := bkeep hD7 (HA1.out 9))
        | (go_at_call 9; refine (rename_calls p _ _ _ (HN1.out _ hD5)).mono ?_; rintro e w6 ⟨rfl, hb6⟩; have hD6 := bgo hD5 hb6; have q6_6 := bkeep hD6 (HA1.out 6))
        | (go_at_call 8; refine (write_calls p _ _ _ (HN1.out _ hD4)).mono ?_; rintro e w5 ⟨rfl, hb5⟩; have hD5 := bgo hD4 hb5; have q5_6 := bkeep hD5 (HA1.out 6); have q5_10 := bkeep hD5 (HA1.out 10))
        | (go_at_call 7; refine (make_calls p _ _ _ _ _ _ (HN1.out _ hD3)).mono ?_; rintro e w4 ⟨rfl, hb4⟩; have hD4 := bgo hD3 hb4; have q4_6 := bkeep hD4 (HA1.out 6); have q4_7 := bkeep hD4 (HA1.out 7))
        | (go_at_call 6; refine (real_calls p _ _ (HN1.out _ hD2)).mono ?_; rintro e w3 ⟨rfl, hb3⟩; have hD3 := bgo hD2 hb3; have q3_1 := bkeep hD3 (HA1.out 1); have q3_2 := bkeep hD3 (HA1.out 2); have q3_3 := bkeep hD3 (HA1.out 3); have q3_4 := bkeep hD3 (HA1.out 4); have q3_5 := bkeep hD3 (HA1.out 5))
        | (go_at_call 5; refine (list_calls p _ _ (HN1.out _ hD1)).mono ?_; rintro e w2 ⟨rfl, hb2⟩; have hD2 := bgo hD1 hb2; have q2_10 := bkeep hD2 (HA1.out 10)))
      go_roundw
      case rel => exact ⟨k + 1, by omega, by go_num, rfl, bgo hB1 hD13⟩
      case measure => simp [intOf]; omega
    · have hk3 : k = 2 := by omega
      subst hk3
      go_wp2
      go_ret
      exact ⟨rfl, bgo hB0 hbr⟩
end Go.Proofs.YthcoafkjeljdgaaGreatDoor.Nob
