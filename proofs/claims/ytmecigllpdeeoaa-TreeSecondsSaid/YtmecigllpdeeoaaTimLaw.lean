/- The law hamperlaw18.TreeSeconds: its walk. -/
import Derived.Test.YtmecigllpdeeoaaTimRef2
set_option linter.unusedVariables false
namespace Go.Proofs.Ytmecigllpdeeoaa.Tim
open Go.RowKit Go.BigFrame Go.Proofs.Ytmecigllpdeeoaa.Reg Go.Proofs.Ytmecigllpdeeoaa.PTreeSeconds Go.Proofs.YtmecigllpdeeoaaW.PrintWords Go.Proofs.YtmecigllpdeeoaaW.PrintLast Go.Proofs.YtmecigllpdeeoaaW.PrintMore

theorem names_any (w : World) : Calls Try.prog 36 #[] w fun e w' => e = .returned (.bool true) ∧ Drawn0 w w' := hamperlaw18_names.calls true w rfl
set_option maxRecDepth 100000 in
set_option maxHeartbeats 4000000 in
theorem law_seconds (y m d h mi s date time : Int) (w : World) :
    Calls Try.prog 9 #[.agg #[.int .i64 y, .int .i64 m, .int .i64 d, .int .i64 h, .int .i64 mi, .int .i64 s], .int .i64 date, .int .i64 time] w fun e w' => e = .returned (.bool true) ∧ Below w.heap.size w w' := by
  have h1 : ∀ w, Calls Try.prog 32 #[.agg #[.int .i64 y, .int .i64 m, .int .i64 d, .int .i64 h, .int .i64 mi, .int .i64 s]] w fun e w' => e = .returned (.tuple #[.int .i64 (secondsF y m d h mi s).1, .int .i64 (secondsF y m d h mi s).2]) ∧ Below w.heap.size w w' := fun w => seconds_calls _ _ _ _ _ _ w
  have h2 : ∀ w, Calls Try.prog 33 #[.agg #[.int .i64 y, .int .i64 m, .int .i64 d, .int .i64 h, .int .i64 mi, .int .i64 s]] w fun e w' => e = .returned (.tuple #[.int .i64 (secondsF y m d h mi s).1, .int .i64 (secondsF y m d h mi s).2]) ∧ Below w.heap.size w w' := fun w => refsec_calls _ _ _ _ _ _ w
  have h3 : ∀ w, Calls Try.prog 34 #[.int .i64 date, .int .i64 time] w fun e w' => e = .returned (.tuple #[.int .i64 (ofDosF date time).1, .int .i64 (ofDosF date time).2]) ∧ Below w.heap.size w w' := fun w => ofDos_calls _ _ w
  have h4 : ∀ w, Calls Try.prog 35 #[.int .i64 date, .int .i64 time] w fun e w' => e = .returned (.tuple #[.int .i64 (ofDosF date time).1, .int .i64 (ofDosF date time).2]) ∧ Below w.heap.size w w' := fun w => refOfDos_calls _ _ w
  have b1 := secondsF_bd y m d h mi s
  have b2 : 0 ≤ (ofDosF date time).2 ∧ (ofDosF date time).2 ≤ 11 := by
    unfold ofDosF; split
    · simp
    · split <;> simp
  generalize secondsF y m d h mi s = S at *
  generalize ofDosF date time = T at *
  have H1 := Lib.hid h1; clear h1
  have H2 := Lib.hid h2; clear h2
  have H3 := Lib.hid h3; clear h3
  have H4 := Lib.hid h4; clear h4
  go_enter Try.func9, Try.ntmps9
  go_wp2_with (first
    | (go_at_call 32; refine (H1.out _).mono ?_; rintro e w1 ⟨rfl, hb1⟩; obtain ⟨hc1, hf1⟩ := bcell hb1)
    | (go_at_call 33; refine (H2.out _).mono ?_; rintro e w2 ⟨rfl, hb2⟩)
    | (go_at_call 34; refine (H3.out _).mono ?_; rintro e w3 ⟨rfl, hb3⟩)
    | (go_at_call 35; refine (H4.out _).mono ?_; rintro e w4 ⟨rfl, hb4⟩)
    | (go_at_call 36; refine (names_any _).mono ?_; rintro e w5 ⟨rfl, ⟨nd, rfl⟩⟩))
  go_ret
  exact ⟨rfl, bdrewN (bgo (bgo (bgo (bgo (balloc (Below.refl _ _) _) hb1) hb2) hb3) hb4) _⟩
theorem walk_seconds (y m d h mi s date time : Int) (w : World) (_ : (Lit.int .i64 date).wf = true) (_ : (Lit.int .i64 time).wf = true) :
    Calls Try.prog 9 #[.agg #[.int .i64 y, .int .i64 m, .int .i64 d, .int .i64 h, .int .i64 mi, .int .i64 s], .int .i64 date, .int .i64 time] w fun e w' => e = .returned (.bool true) ∧ Below w.heap.size w w' :=
  law_seconds y m d h mi s date time w
end Go.Proofs.Ytmecigllpdeeoaa.Tim
