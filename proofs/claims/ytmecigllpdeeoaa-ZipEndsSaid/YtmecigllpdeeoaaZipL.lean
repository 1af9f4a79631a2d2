/- hamperlaw20.ZipEnds walked. -/
import Derived.Test.YtmecigllpdeeoaaZipF
set_option linter.unusedVariables false
namespace Go.Proofs.Ytmecigllpdeeoaa.Zip
open Go.RowKit Go.BigFrame Go.Proofs.Ytmecigllpdeeoaa.By Go.Proofs.Ytmecigllpdeeoaa.Reg Go.Proofs.YtmecigllpdeeoaaW.PrintWords Go.Proofs.YtmecigllpdeeoaaW.PrintLast Go.Proofs.YtmecigllpdeeoaaW.PrintMore Go.Proofs.Ytmecigllpdeeoaa.PPut
def IsRow (k : IntKind) (w : World) (a : Option Addr) (len cap : Nat) (zs : List Int) : Prop :=
  (a = none ∧ len = 0 ∧ cap = 0 ∧ zs = []) ∨
  ∃ x, a = some x ∧ len ≤ cap ∧ cap ≤ maxLen ∧ zs.length = cap ∧ (∀ i, i < zs.length → w.cell? (x.add i) = some (.int k (zs.getD i 0))) ∧ ∀ n ∈ zs, (Lit.int k n).wf = true
theorem IsRow.reads {k : IntKind} {w : World} {a : Option Addr} {len cap : Nat} {zs : List Int} (h : IsRow k w a len cap zs) (hl : len ≤ 140737488355328) : (Kd.int k).C w a (zs.take len).length (zs.take len) ∧ len = (zs.take len).length ∧ (zs.take len).length ≤ cap := by
  rcases h with ⟨rfl, rfl, rfl, rfl⟩ | ⟨x, rfl, h1, h2, h3, h4, h5⟩
  · exact ⟨⟨rfl, by simp, fun h => absurd h (by simp)⟩, rfl, by simp⟩
  · have hlen : (zs.take len).length = len := by rw [List.length_take]; omega
    refine ⟨?_, hlen.symm, by omega⟩
    rw [hlen]
    refine Kd.C_of_reads (enc := Value.int k) (d := (0 : Int)) (h1 := fun _ => rfl) ⟨hlen, by omega, fun hn => ⟨x, rfl, fun j hj => ?_⟩⟩
    rw [h4 j (by omega), List.getD_eq_getElem?_getD, List.getD_eq_getElem?_getD, List.getElem?_take_of_lt hj]
theorem IsRow.bytes {w : World} {a : Option Addr} {len cap : Nat} {zs : List Int} (h : IsRow .u8 w a len cap zs) : ∀ x ∈ zs.take len, 0 ≤ x ∧ x ≤ 255 := by
  rcases h with ⟨rfl, rfl, rfl, rfl⟩ | ⟨y, rfl, h1, h2, h3, h4, h5⟩
  · intro x hx
    simp at hx
  · intro x hx
    have h := h5 x (List.mem_of_mem_take hx)
    simp [Lit.wf, IntKind.min, IntKind.max, IntKind.bits, IntKind.signed] at h
    omega
theorem names_calls (w : World) : Calls Try.prog 24 #[] w fun e w' => e = .returned (.bool true) ∧ w = w' := by
  go_enter Try.func24, Try.ntmps24
  go_wp2
  go_ret
  exact ⟨rfl, rfl⟩
set_option maxHeartbeats 4000000 in
theorem walkRow (A : Option Addr) (c : Nat) (bs : List Int) (w : World) (hC : (Kd.int .u8).C w A bs.length bs) (hc : bs.length ≤ c) (hl : bs.length ≤ 140737488355310) (hby : ∀ x ∈ bs, 0 ≤ x ∧ x ≤ 255) :
    Calls Try.prog 7 #[.slice A bs.length c] w fun e w' => e = .returned (.bool true) ∧ Below w.heap.size w w' := by
  have HC := Lib.hid hC
  clear hC
  have hR : (Kd.int .u8).R 5 (w.alloc (.cells #[] 5)) w.heap.size (fun _ => True) (.slice (some ⟨w.heap.size, 0, none⟩) 0 0) [] := own_made w _ _ (Nat.le_refl _) (fun _ _ => trivial)
  have HR := Lib.hid hR
  clear hR
  have hCw : (Kd.int .u8).C (w.alloc (.cells #[] 5)) A bs.length bs := Kd.C_below HC.out (balloc (Below.refl _ _) _)
  have HCw := Lib.hid hCw
  clear hCw
  have H1 : Hid (∀ (A : Option Addr) (c : Nat) (w' : World), (Kd.int .u8).C w' A bs.length bs → bs.length ≤ c → Calls Try.prog 22 #[.slice A bs.length c] w' fun e w'' => e = .returned (.tuple #[.int .i64 (ends bs).1, .int .i64 (ends bs).2.1, .int .i64 (ends bs).2.2.1, .int .i64 (ends bs).2.2.2]) ∧ Below w'.heap.size w' w'') :=
    Lib.hid (fun A c w' h1 h2 => end_calls A c bs w' h1 h2 (by omega) hby)
  have H2 : Hid (∀ w' : World, Below w.heap.size w w' → Calls Try.prog 23 #[.slice A bs.length c] w' fun e w'' => e = .returned (.tuple #[.int .i64 (ends bs).1, .int .i64 (ends bs).2.1, .int .i64 (ends bs).2.2.1, .int .i64 (ends bs).2.2.2]) ∧ Below w.heap.size w w'') :=
    Lib.hid (fun w' h => (refEnd_calls A c bs w' (Kd.C_below HC.out h) hc (by omega) hby).mono fun e w'' k => ⟨k.1, bgo h k.2⟩)
  clear hby
  generalize (ends bs).1 = x1 at *
  generalize (ends bs).2.1 = x2 at *
  generalize (ends bs).2.2.1 = x3 at *
  generalize (ends bs).2.2.2 = x4 at *
  go_enter Try.func7, Try.ntmps7
  go_upto_region 2 with (first
    | (at_builtin; refine Kd.R_append_row (Value.int .u8) 0 (w0 := w) w.heap.size rfl (.tmp 12) (.tmp 13) 35 5 (.int .u8 0) 1 rfl Try.underlying35 infoB rfl (by omega) _ [] bs A bs.length c (fun _ => True) rfl rfl (fun _ _ => trivial) HR.out HCw.out (balloc (Below.refl _ _) _) (by simp) (by simp; omega) ?_; intro v2 w1 hR1 hb1 hg1 hat1; rw [List.nil_append] at hR1; obtain ⟨A2, c2, rfl, hc2, hC2⟩ := Kd.R_reads hR1; clear hR1 hg1 hat1)
    | (go_at_call 22; refine (H1.out A2 c2 _ hC2 hc2).mono ?_; rintro e w2 ⟨rfl, hb2⟩))
  have hb3 := bgo hb1 hb2
  clear hb1 hb2 hC2 HR HCw HC H1
  go_wp2_with (first
    | (go_at_call 23; refine (H2.out _ hb3).mono ?_; rintro e w3 ⟨rfl, hb4⟩)
    | (go_at_call 24; refine (names_calls _).mono ?_; rintro e w' ⟨rfl, rfl⟩))
  go_ret
  exact ⟨rfl, hb4⟩
theorem walk (a : Option Addr) (len cap : Nat) (zs : List Int) (w : World) (h0 : IsRow .u8 w a len cap zs) (h1 : len * 1 ≤ 140737488351232) :
    Calls Try.prog 7 #[.slice a len cap] w fun e w' => e = .returned (.bool true) ∧ Below w.heap.size w w' := by
  obtain ⟨hC, hlen, hcap⟩ := h0.reads (by omega)
  have h := walkRow a cap (zs.take len) w hC hcap (by omega) h0.bytes
  rwa [← hlen] at h
end Go.Proofs.Ytmecigllpdeeoaa.Zip
