/- The row of hamper's law hamperlaw23.VfsNobody, for every input: out of the walk Nob.walk. No condition. -/
import Derived.Test.YthcoafkjeljdgaaGreatDoorRows
import Derived.Test.YthcoafkjeljdgaaGreatDoorNobW
import Derived.WalkKit
import Derived.ProofKit
import Derived.OpenShut
import Derived.ShutString
import Derived.ChangeOld
import Derived.Below
import Derived.SizedLaws
import Derived.ChangeMaps5
import Derived.JoinedOf
import Derived.JoinedAt
import Derived.LaidLaws
import Derived.SevenTiedAt
import Derived.Test.YthcoafkjeljdgaaGreatDoorCards
import Derived.Test.YthcoafkjeljdgaaGreatDoorTie
namespace Go.Proofs.YthcoafkjeljdgaaGreatDoor.vfsNobody
open Go.ChangeShapes Go.WideShapes Go.ChangeAt Go.RowKit
open Go.ChangeMaps (open_string shut_string)
set_option linter.unusedVariables false
theorem own : ownKnob Tryz.prog.godebug = none := by kernel_rfl
theorem laidOut : laidOutB Tryz.prog = true := by kernel_rfl
theorem okWide_agg {P : Program} {w : World} {r : Reach} {base : Nat} {t : TypeId} {v : Value} {fs : Array Field} (ht : P.underlying t = some (.struct fs)) (h : Value.okWide P w r base t v) : ∃ cs, v = .agg cs ∧ cs.size = P.cellsOf t ∧ Row.okWide P w r base t cs := by
  simp only [Value.okWide, ht] at h
  exact h
theorem split11 (cs : Array Value) (h : cs.size = 11) : ∃ e0 e1 e2 e3 e4 e5 e6 e7 e8 e9 e10 : Value, cs = #[e0, e1, e2, e3, e4, e5, e6, e7, e8, e9, e10] := by
  obtain ⟨l⟩ := cs
  have hl : l.length = 11 := h
  clear h
  obtain _ | ⟨e0, l⟩ := l
  · simp at hl
  obtain _ | ⟨e1, l⟩ := l
  · simp at hl
  obtain _ | ⟨e2, l⟩ := l
  · simp at hl
  obtain _ | ⟨e3, l⟩ := l
  · simp at hl
  obtain _ | ⟨e4, l⟩ := l
  · simp at hl
  obtain _ | ⟨e5, l⟩ := l
  · simp at hl
  obtain _ | ⟨e6, l⟩ := l
  · simp at hl
  obtain _ | ⟨e7, l⟩ := l
  · simp at hl
  obtain _ | ⟨e8, l⟩ := l
  · simp at hl
  obtain _ | ⟨e9, l⟩ := l
  · simp at hl
  obtain _ | ⟨e10, l⟩ := l
  · simp at hl
  obtain _ | ⟨x, l⟩ := l
  · exact ⟨_, _, _, _, _, _, _, _, _, _, _, rfl⟩
  · simp at hl
set_option maxRecDepth 100000 in
theorem lifted (os : Os) (started : os.Started) (H : Type) (enc : TypeId × Value → H) :
    ReturnsInHanded {} Tryz.checked os 3 .any (fun w args => (Rows.vfsNobodySpec.pre enc Tryz.prog Tryz.f3 Rows.vfsNobodyRow.domain false w args ∧ laidMet Tryz.prog Nob.list2 w) ∧ sizedMet enc Tryz.prog Tryz.f3 (OpenSpec.ofChange Rows.vfsNobodySpec) false w args) (Rows.vfsNobodySpec.post enc Tryz.prog Tryz.f3 false true false false) := by
  refine returnsInHanded_of_change_and (C := Tryz.checked) (X := fun w _ => laidMet Tryz.prog Nob.list2 w) (fun _ _ _ hh h => h.of_heap hh) own started (by kernel_rfl) Tryz.func3
    (ChangeSpec.witness_at (enc := enc) (C := Tryz.checked) (os := os) (X := fun w _ => laidMet Tryz.prog Nob.list2 w) false (Nob.world2 os) #[.agg #[.int .i64 0, .int .i64 0, .string ByteArray.empty, .slice none 0 0, .int .i64 0, .int .i64 0, .string ByteArray.empty, .slice none 0 0, .int .i64 0, .bool false, .string ByteArray.empty]] 8 rfl (by kernel_rfl) (by kernel_rfl) (by kernel_rfl) (by kernel_rfl) (by kernel_rfl) (Nob.world2_met os _)) ?_
  intro W base args ds gs before hval0 hW _ hsz0 hL _
  have hsz : (DataW.weightsEach Tryz.prog (Tryz.f3.params.toList ++ Rows.vfsNobodySpec.plain.varTypes Tryz.prog) (ds ++ gs)).all (· ≤ reachBytes) = true := hsz0
  have hval : ∀ (j : Nat) t v, Tryz.f3.params[j]? = some t → args[j]? = some v → Value.okWide Tryz.prog W .any base t v := hval0
  have hW' := hW
  obtain ⟨p, q, hA0, hV, rfl, _, _⟩ := hW
  have hA : DataW.TrodAll enc Tryz.prog W 0 (fun _ => true) true Tryz.f3.params.toList args.toList ds p := hA0
  rw [Tryz.params3] at hA hval hsz
  obtain ⟨v0, vs0, d0, ds0, p0, q0, hargs, rfl, rfl, h0, r0⟩ := trodAll_cons hA
  obtain ⟨rfl, rfl, rfl⟩ := trodAll_nil r0
  obtain rfl : args = #[v0] := by cases args; simp_all
  obtain ⟨rfl, rfl⟩ := trodVars_none hV
  have k0 := h0
  have lt0 : ∀ x ∈ p0, x.block < W.heap.size := by obtain ⟨m, hm⟩ := k0; exact DataW.trod_lt m _ _ _ hm
  obtain ⟨cs0, rfl, hz0, hr0⟩ := okWide_agg Tryz.underlying26 (hval 0 26 v0 rfl rfl)
  have hc0 : Tryz.prog.cellsOf 26 = 11 := by kernel_rfl
  rw [hc0] at hz0
  obtain ⟨s0_0, s0_1, s0_2, s0_3, s0_4, s0_5, s0_6, s0_7, s0_8, s0_9, s0_10, rfl⟩ := split11 cs0 hz0
  clear hA0 hval0 hsz0 hsz
  refine (Nob.walk s0_0 s0_1 s0_2 s0_3 s0_4 s0_5 s0_6 s0_7 s0_8 s0_9 s0_10 W  hL).mono fun e W' ⟨he, bel⟩ => ?_
  subst he
  exact ⟨_, rfl, _, _, _, [], _, [], hW', trodAll_mk1 (shut_bool Tryz.underlying4 _), (trodAll_cons_mk (Below.trod laidOut (by kernel_rfl) (of_decide_eq_true (by kernel_rfl)) k0 bel lt0) trodAll_mk0), rfl, bel.frame _, fun h => by cases h⟩
theorem over : Rows.vfsNobodyRow.holds Tryz.pinned (OpenSpec.ofChange Rows.vfsNobodySpec) :=
  OpenClaim.holds_of_wide 3 Tryz.f3 rfl rfl rfl rfl rfl rfl rfl ⟨rfl, rfl, rfl, rfl, rfl⟩ rfl rfl rfl rfl rfl (by kernel_rfl) Tryz.func3 (by kernel_rfl)
    (of_decide_eq_true (by kernel_rfl)) (by unfold Func.isWrapper; first | (rw [if_pos (by decide +kernel)]; kernel_rfl) | (rw [if_neg (by decide +kernel)]; exact ⟨rfl, rfl⟩))
    (fun os started H enc _ => lifted os started H enc)
theorem card : Rows.VfsNobodyCardSaid :=
  Claim7.holds_tied_plain_at .later [] [.data, .pinned] true (true, "e22ae8004660d5ad7d9f1f666ed5f596a0a6d0aacc02e1684c4154091c94e4b2") true
    over (fun _ h => by cases h) (by kernel_rfl) (fun _ h => by cases h) vfsNobody_row_tie rfl ⟨rfl, rfl⟩ (by kernel_rfl) rfl
    (fun f fn hf hfn => by
      obtain rfl : f = 3 := Option.some.inj ((show Tryz.prog.funcNamed "hamper/hamperlaw23.VfsNobody" = some 3 by kernel_rfl).symm.trans hf) |>.symm
      obtain rfl : fn = Tryz.f3 := (Option.some.inj (Tryz.func3.symm.trans hfn)).symm
      exact ⟨by kernel_rfl, fun j t ht => by
        rw [Tryz.params3] at ht
        have ht2 : t ∈ [26] := by
          have := Array.mem_of_getElem? ht
          simpa using this
        simp only [List.mem_cons, List.mem_nil_iff, or_false] at ht2
        rcases ht2 with rfl
        · exact (show Tryz.prog.wantsStandIn 26 = false by kernel_rfl)⟩)
    (by kernel_rfl)
#print axioms card
end Go.Proofs.YthcoafkjeljdgaaGreatDoor.vfsNobody
namespace Go.Proofs.YthcoafkjeljdgaaGreatDoor
/-- The row, under a short name, for the claim. -/
theorem vfsNobody_holds : Rows.VfsNobodyCardSaid := vfsNobody.card
end Go.Proofs.YthcoafkjeljdgaaGreatDoor
