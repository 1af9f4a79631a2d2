/- The law's first trial: a known node. -/
import Derived.Test.YtoiffnoiliknnaaDoorTreeQ
set_option linter.unusedVariables false
namespace Go.Proofs.YtoiffnoiliknnaaDoor.Tree
open Go.RowKit Go.BigFrame Go.Maps Go.Proofs.YtoiffnoiliknnaaDoor.Reg Go.Proofs.YtoiffnoiliknnaaDoor.Rout Go.Proofs.YtoiffnoiliknnaaDoor.Node Go.Proofs.YtoiffnoiliknnaaDoor.Tim Go.Proofs.YtoiffnoiliknnaaDoorW.PrintWords Go.Proofs.YtoiffnoiliknnaaDoorW.PrintLast Go.Proofs.YtoiffnoiliknnaaDoorW.PrintMore
theorem probe_in (W : World) (g : Nat) (h : ∀ k : Nat, W.cell? ⟨g, k, none⟩ = #[Value.int .i64 2, .string ⟨#[100, 97, 116, 97]⟩, .slice none 0 0, .int .i64 0, .int .i64 9][k]?) : kN.C W (some ⟨g, 0, none⟩) probe.length probe := by
  refine ⟨rfl, by decide, fun _ => ⟨⟨g, 0, none⟩, rfl, fun j p hp => ?_⟩⟩
  obtain ⟨rfl, rfl⟩ : j = 0 ∧ p = ⟨2, ⟨#[100, 97, 116, 97]⟩, [], 0, 9⟩ := by
    cases j with
    | zero => exact ⟨rfl, (Option.some.inj hp).symm⟩
    | succ j => simp [probe] at hp
  refine ⟨_, rfl, kN_mk W ⟨2, ⟨#[100, 97, 116, 97]⟩, [], 0, 9⟩ (A2 := none) (c2 := 0) (Nat.le_refl _) ⟨rfl, by decide, fun h => absurd h (by decide)⟩, fun i u hu => ?_⟩
  have h1 : (Addr.mk g 0 none).add (0 * kN.sz + i) = ⟨g, i, none⟩ := by
    rw [show 0 * kN.sz + i = i by omega]
    unfold Addr.add
    by_cases hi : i = 0
    · simp [hi]
    · simp [hi]
  rw [h1, h i, ← hu]
  simp
theorem probe_ok : ∀ x ∈ probe, Ok x := by
  intro x hx
  obtain rfl : x = ⟨2, ⟨#[100, 97, 116, 97]⟩, [], 0, 9⟩ := List.mem_singleton.1 hx
  exact ⟨fun b hb => absurd hb (by simp), by decide, by decide⟩
theorem probe_proj : projF probe 5 = ([⟨2, ⟨#[100, 97, 116, 97]⟩, [], 420, 0⟩], 0) := by kernel_rfl
theorem probe_calls (W : World) (g : Nat) (h : ∀ k : Nat, W.cell? ⟨g, k, none⟩ = #[Value.int .i64 2, .string ⟨#[100, 97, 116, 97]⟩, .slice none 0 0, .int .i64 0, .int .i64 9][k]?) :
    Calls Tryd.prog 8 #[.slice (some ⟨g, 0, none⟩) 1 1, .int .i64 5] W fun e w' => ∃ g c, e = .returned (.tuple #[.slice (some ⟨g, 0, none⟩) 1 c, .int .i64 0]) ∧ w'.cell? ⟨g, 4, none⟩ = some (.int .i64 0) ∧ Below W.heap.size W w' := by
  refine (project_calls (some ⟨g, 0, none⟩) 1 probe 5 W (probe_in W g h) probe_ok (by decide)).mono ?_
  rintro e w' ⟨v, rfl, hR, hb⟩
  rw [probe_proj] at hR ⊢
  obtain ⟨g2, cap, rfl, _, _, _⟩ := Kd.R_form hR (by decide)
  refine ⟨g2, cap, rfl, ?_, hb⟩
  obtain ⟨cs, hE, hcell, _⟩ := (GRow.of_made hR).at_ 0 (by decide)
  obtain ⟨v2, rfl, _⟩ := kN_openM (hE _ rfl)
  exact hcell 4 _ rfl
theorem probe_at (w W : World) (hW : W = w.alloc (.cells #[.int .i64 2, .string ⟨#[100, 97, 116, 97]⟩, .slice none 0 0, .int .i64 0, .int .i64 9] 35)) :
    Calls Tryd.prog 8 #[.slice (some ⟨w.heap.size, 0, none⟩) 1 1, .int .i64 5] W fun e w' => ∃ g c, e = .returned (.tuple #[.slice (some ⟨g, 0, none⟩) 1 c, .int .i64 0]) ∧ w'.cell? ⟨g, 4, none⟩ = some (.int .i64 0) ∧ Below w.heap.size w w' := by
  have h := probe_calls W w.heap.size (fun k => by rw [hW]; exact World.cell?_alloc_at _ _ _ _ rfl)
  refine h.mono ?_
  rintro e w' ⟨g, c, h1, h2, h3⟩
  rw [hW] at h3
  exact ⟨g, c, h1, h2, bgo (balloc (Below.refl _ _) _) h3⟩
theorem proj_no (l : List Nd) (fmt : Int) (h : (projF l fmt).2 ≠ 0) : (projF l fmt).1 = [] := by
  unfold projF at h ⊢
  repeat' split
  all_goals first | rfl | skip
  rename_i h1 h2 h3 h4 h5
  rw [if_neg h1, if_neg h2, if_neg h3, if_neg h4, if_pos h5] at h
  exact absurd rfl h
end Go.Proofs.YtoiffnoiliknnaaDoor.Tree
