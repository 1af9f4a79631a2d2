/- The row of hamper's law hamperlaw18.TreeSeconds, for every input: out of the walk Tim.walk_seconds. No condition. -/
import Derived.Test.YtmecigllpdeeoaaRows
import Derived.Test.YtmecigllpdeeoaaTimLaw
import Derived.WalkKit
import Derived.ProofKit
import Derived.OpenShut
import Derived.ShutString
import Derived.ChangeOld
import Derived.Below
import Derived.SizedLaws
namespace Go.Proofs.Ytmecigllpdeeoaa.treeSeconds
open Go.ChangeShapes Go.WideShapes Go.ChangeAt Go.RowKit
open Go.ChangeMaps (open_string shut_string)
set_option linter.unusedVariables false
theorem own : ownKnob Try.prog.godebug = none := by kernel_rfl
theorem laidOut : laidOutB Try.prog = true := by kernel_rfl
set_option maxRecDepth 100000 in
theorem open_st0 {H : Type} {enc : TypeId × Value → H} {W : World} {base : Nat} {v : Value} {d : DataW H} {p : List MemPlace} (hv : Value.okWide Try.prog W .any base 52 v) (h : DataW.Trod enc Try.prog W 0 (fun _ => true) true 52 v d p) :
    ∃ n0 n1 n2 n3 n4 n5 : Int, v = .agg #[.int .i64 n0, .int .i64 n1, .int .i64 n2, .int .i64 n3, .int .i64 n4, .int .i64 n5] := by
  obtain ⟨cs, rfl, hsz⟩ := okWide_struct Try.underlying52 hv
  obtain ⟨fuel, hf⟩ := h
  obtain ⟨xs, n, _, _, _, hlen, hfl⟩ := DataW.trod_struct Try.underlying52 hf
  have hcells : Try.prog.cellsOf 52 = 6 := by kernel_rfl
  rw [hcells] at hsz
  obtain ⟨e0, e1, e2, e3, e4, e5, rfl⟩ : ∃ e0 e1 e2 e3 e4 e5 : Value, cs = #[e0, e1, e2, e3, e4, e5] := by
    obtain ⟨l⟩ := cs
    match l, hsz with
    | [e0, e1, e2, e3, e4, e5], _ => exact ⟨_, _, _, _, _, _, rfl⟩
  have one : Try.prog.cellsOf 3 = 1 := by kernel_rfl
  obtain ⟨n0, rfl⟩ : ∃ n : Int, e0 = .int .i64 n := by
    have hi : 0 < xs.length := by rw [hlen]; decide
    have g := hfl 0 _ rfl
    rw [List.getElem?_eq_getElem hi] at g
    obtain ⟨n, r, _, _⟩ := DataW.trod_int Try.underlying3 g
    have r1 : List.take (Try.prog.cellsOf 3) (List.drop 0 [e0, e1, e2, e3, e4, e5]) = [Value.int .i64 n] := r
    rw [one] at r1
    have r2 : [e0] = [Value.int .i64 n] := r1
    injection r2 with r2
    exact ⟨n, r2⟩
  obtain ⟨n1, rfl⟩ : ∃ n : Int, e1 = .int .i64 n := by
    have hi : 1 < xs.length := by rw [hlen]; decide
    have g := hfl 1 _ rfl
    rw [List.getElem?_eq_getElem hi] at g
    obtain ⟨n, r, _, _⟩ := DataW.trod_int Try.underlying3 g
    have r1 : List.take (Try.prog.cellsOf 3) (List.drop 1 [Value.int .i64 n0, e1, e2, e3, e4, e5]) = [Value.int .i64 n] := r
    rw [one] at r1
    have r2 : [e1] = [Value.int .i64 n] := r1
    injection r2 with r2
    exact ⟨n, r2⟩
  obtain ⟨n2, rfl⟩ : ∃ n : Int, e2 = .int .i64 n := by
    have hi : 2 < xs.length := by rw [hlen]; decide
    have g := hfl 2 _ rfl
    rw [List.getElem?_eq_getElem hi] at g
    obtain ⟨n, r, _, _⟩ := DataW.trod_int Try.underlying3 g
    have r1 : List.take (Try.prog.cellsOf 3) (List.drop 2 [Value.int .i64 n0, Value.int .i64 n1, e2, e3, e4, e5]) = [Value.int .i64 n] := r
    rw [one] at r1
    have r2 : [e2] = [Value.int .i64 n] := r1
    injection r2 with r2
    exact ⟨n, r2⟩
  obtain ⟨n3, rfl⟩ : ∃ n : Int, e3 = .int .i64 n := by
    have hi : 3 < xs.length := by rw [hlen]; decide
    have g := hfl 3 _ rfl
    rw [List.getElem?_eq_getElem hi] at g
    obtain ⟨n, r, _, _⟩ := DataW.trod_int Try.underlying3 g
    have r1 : List.take (Try.prog.cellsOf 3) (List.drop 3 [Value.int .i64 n0, Value.int .i64 n1, Value.int .i64 n2, e3, e4, e5]) = [Value.int .i64 n] := r
    rw [one] at r1
    have r2 : [e3] = [Value.int .i64 n] := r1
    injection r2 with r2
    exact ⟨n, r2⟩
  obtain ⟨n4, rfl⟩ : ∃ n : Int, e4 = .int .i64 n := by
    have hi : 4 < xs.length := by rw [hlen]; decide
    have g := hfl 4 _ rfl
    rw [List.getElem?_eq_getElem hi] at g
    obtain ⟨n, r, _, _⟩ := DataW.trod_int Try.underlying3 g
    have r1 : List.take (Try.prog.cellsOf 3) (List.drop 4 [Value.int .i64 n0, Value.int .i64 n1, Value.int .i64 n2, Value.int .i64 n3, e4, e5]) = [Value.int .i64 n] := r
    rw [one] at r1
    have r2 : [e4] = [Value.int .i64 n] := r1
    injection r2 with r2
    exact ⟨n, r2⟩
  obtain ⟨n5, rfl⟩ : ∃ n : Int, e5 = .int .i64 n := by
    have hi : 5 < xs.length := by rw [hlen]; decide
    have g := hfl 5 _ rfl
    rw [List.getElem?_eq_getElem hi] at g
    obtain ⟨n, r, _, _⟩ := DataW.trod_int Try.underlying3 g
    have r1 : List.take (Try.prog.cellsOf 3) (List.drop 5 [Value.int .i64 n0, Value.int .i64 n1, Value.int .i64 n2, Value.int .i64 n3, Value.int .i64 n4, e5]) = [Value.int .i64 n] := r
    rw [one] at r1
    have r2 : [e5] = [Value.int .i64 n] := r1
    injection r2 with r2
    exact ⟨n, r2⟩
  exact ⟨_, _, _, _, _, _, rfl⟩
set_option maxRecDepth 100000 in
theorem lifted (os : Os) (started : os.Started) (H : Type) (enc : TypeId × Value → H) :
    ReturnsInHanded {} Try.checked os 9 .any (Rows.treeSecondsSpec.pre6 enc Try.prog Try.f9 Rows.treeSecondsRow.domain false) (Rows.treeSecondsSpec.post enc Try.prog Try.f9 false true false false) := by
  refine returnsInHanded_of_change_sized (C := Try.checked) own started (by kernel_rfl) Try.func9
    (ChangeSpec.witness6 (enc := enc) (C := Try.checked) false ⟨#[], #[.agg #[.int .i64 0, .int .i64 0, .int .i64 0, .int .i64 0, .int .i64 0, .int .i64 0], .int .i64 0, .int .i64 0], []⟩ 8 (by kernel_rfl) (by kernel_rfl) (by kernel_rfl) (by kernel_rfl)) ?_
  intro W base args ds gs before hval0 hW hcnd hsz0 _
  have hsz : (DataW.weightsEach Try.prog (Try.f9.params.toList ++ Rows.treeSecondsSpec.plain.varTypes Try.prog) (ds ++ gs)).all (· ≤ reachBytes) = true := hsz0
  have hval : ∀ (j : Nat) t v, Try.f9.params[j]? = some t → args[j]? = some v → Value.okWide Try.prog W .any base t v := hval0
  have hW' := hW
  obtain ⟨p, q, hA0, hV, rfl, hfz, hnd⟩ := hW
  have hA : DataW.TrodAll enc Try.prog W 0 (fun _ => true) true Try.f9.params.toList args.toList ds p := hA0
  rw [Try.params9] at hA hval hsz
  obtain ⟨v0, vs0, d0, ds0, p0, q0, hargs, rfl, rfl, h0, r0⟩ := trodAll_cons hA
  obtain ⟨v1, vs1, d1, ds1, p1, q1, rfl, rfl, rfl, h1, r1⟩ := trodAll_cons r0
  obtain ⟨v2, vs2, d2, ds2, p2, q2, rfl, rfl, rfl, h2, r2⟩ := trodAll_cons r1
  obtain ⟨rfl, rfl, rfl⟩ := trodAll_nil r2
  obtain rfl : args = #[v0, v1, v2] := by cases args; simp_all
  obtain ⟨rfl, rfl⟩ := trodVars_none hV
  have k0 := h0
  have lt0 : ∀ x ∈ p0, x.block < W.heap.size := by obtain ⟨m, hm⟩ := k0; exact DataW.trod_lt m _ _ _ hm
  obtain ⟨s0_0, s0_1, s0_2, s0_3, s0_4, s0_5, rfl⟩ := open_st0 (hval 0 52 v0 rfl rfl) h0
  obtain ⟨a1, rfl, rfl, rfl, w1⟩ := open_int Try.underlying3 (hval 1 3 v1 rfl rfl) h1
  obtain ⟨a2, rfl, rfl, rfl, w2⟩ := open_int Try.underlying3 (hval 2 3 v2 rfl rfl) h2
  clear hA0 hval0 hsz0 hsz
  refine (Tim.walk_seconds s0_0 s0_1 s0_2 s0_3 s0_4 s0_5 a1 a2 W w1 w2).mono fun e W' ⟨he, bel⟩ => ?_
  subst he
  exact ⟨_, rfl, _, _, _, [], _, [], hW', trodAll_mk1 (shut_bool Try.underlying4 _), (trodAll_cons_mk (Below.trod laidOut (by kernel_rfl) (of_decide_eq_true (by kernel_rfl)) k0 bel lt0) (trodAll_cons_mk (shut_int Try.underlying3 w1) (trodAll_cons_mk (shut_int Try.underlying3 w2) trodAll_mk0))), rfl, bel.frame _, fun h => by cases h⟩
theorem over : Rows.treeSecondsRow.holds Try.pinned (OpenSpec.ofChange Rows.treeSecondsSpec) :=
  OpenClaim.holds_of_wide 9 Try.f9 rfl rfl rfl rfl rfl rfl rfl ⟨rfl, rfl, rfl, rfl, rfl⟩ rfl rfl rfl rfl rfl (by kernel_rfl) Try.func9 (by kernel_rfl)
    (of_decide_eq_true (by kernel_rfl)) (by unfold Func.isWrapper; first | (rw [if_pos (by decide +kernel)]; kernel_rfl) | (rw [if_neg (by decide +kernel)]; exact ⟨rfl, rfl⟩))
    (fun os started H enc _ => lifted os started H enc)
theorem proved : Rows.TreeSecondsSaid := over
#print axioms proved
end Go.Proofs.Ytmecigllpdeeoaa.treeSeconds
namespace Go.Proofs.Ytmecigllpdeeoaa
/-- The row, under a short name, for the claim. -/
theorem treeSeconds_holds : Rows.TreeSecondsSaid := treeSeconds.proved
end Go.Proofs.Ytmecigllpdeeoaa
