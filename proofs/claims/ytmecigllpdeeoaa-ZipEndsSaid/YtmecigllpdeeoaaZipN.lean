/- zip.fields and what it hands back. -/
import Derived.Test.YtmecigllpdeeoaaReadL
import Derived.Test.YtmecigllpdeeoaaByRef
set_option linter.unusedVariables false
namespace Go.Proofs.Ytmecigllpdeeoaa.By
open Go.RowKit Go.BigFrame Go.Proofs.Ytmecigllpdeeoaa.Reg Go.Proofs.YtmecigllpdeeoaaW.PrintWords Go.Proofs.YtmecigllpdeeoaaW.PrintLast Go.Proofs.YtmecigllpdeeoaaW.PrintMore Go.Proofs.Ytmecigllpdeeoaa.PPut

/-- The two variables that zip.fields' answer reads. -/
structure St (w0 w : World) (B : Nat) (A : Option Addr) (len c : Nat) (p : Int) : Prop where
  b : Below w0.heap.size w0 w
  cb : w.cell? ⟨B, 0, none⟩ = some (.slice A len c)
  ca : w.cell? ⟨B + 1, 0, none⟩ = some (.int .i64 p)
  fa : w.frozen? ⟨B + 1, 0, none⟩ = false
  hB : w0.heap.size ≤ B
  hs : B + 1 < w.heap.size
theorem lowAt_bound (bs : List Int) (i n : Int) (hby : ∀ x ∈ bs, 0 ≤ x ∧ x ≤ 255) (n0 : 0 ≤ n) (n4 : n ≤ 4) : 0 ≤ lowAt bs i n ∧ lowAt bs i n < 4294967296 := by
  have h := lowN_bound ((bs.drop i.toNat).take n.toNat) (fun x hx => hby x (List.mem_of_mem_drop (List.mem_of_mem_take hx)))
  have hl : ((bs.drop i.toNat).take n.toNat).length ≤ 4 := by rw [List.length_take]; omega
  have hp : (256 : Int) ^ ((bs.drop i.toNat).take n.toNat).length ≤ 4294967296 := by
    rcases hk : ((bs.drop i.toNat).take n.toNat).length with _ | _ | _ | _ | _ | k
    all_goals first | decide | omega
  unfold lowAt
  exact ⟨h.1, by omega⟩
set_option maxHeartbeats 2000000 in
theorem next_calls (w0 w : World) (B : Nat) (A : Option Addr) (c : Nat) (bs : List Int) (p n : Int) (hC : (Kd.int .u8).C w0 A bs.length bs) (hl : bs.length ≤ 140737488355320) (hby : ∀ x ∈ bs, 0 ≤ x ∧ x ≤ 255) (hS : St w0 w B A bs.length c p) (i0 : 0 ≤ p) (n1 : 1 ≤ n) (n4 : n ≤ 4) (hin : p + n ≤ bs.length) :
    Calls Try.prog 58 #[.int .i64 n, .pointer (some ⟨B, 0, none⟩), .pointer (some ⟨B + 1, 0, none⟩)] w fun e w' => e = .returned (.int .i64 (lowAt bs p n)) ∧ St w0 w' B A bs.length c (p + n) := by
  have H := Lib.hid (low_calls A c bs p n w (Kd.C_below hC hS.b) hl hby i0 n1 (by omega) hin)
  have hv := lowAt_bound bs p n hby (by omega) n4
  have hw : wrap64 (lowAt bs p n) = lowAt bs p n := wrap64_id _ (by omega) (by omega)
  have hcb := hS.cb
  have hca := hS.ca
  have HS := Lib.hid hS
  clear hS hC
  generalize lowAt bs p n = v at *
  go_enter Try.func58, Try.ntmps58
  go_wp2_with (go_at_call 59; refine H.out.mono ?_; rintro e w1 ⟨rfl, hb1⟩; have hca1 := (hb1.cell (show B + 1 < w.heap.size from HS.out.hs)).trans hca; have hfa1 : w1.frozen? ⟨B + 1, 0, none⟩ = false := (World.frozen?_of_block (hb1.block (B + 1) HS.out.hs)).trans HS.out.fa)
  go_ret
  refine ⟨rfl, ?_⟩
  obtain ⟨h1, h2, h3, h4, h5, h6⟩ := HS.out
  refine ⟨(below_then h1 h1.size hb1).setCell (by show w0.heap.size ≤ B + 1; omega) _, ?_, ?_, ?_, h5, ?_⟩
  · rw [World.cell?_setCell_other _ _ _ _ (by simp)]
    exact (hb1.cell (show B < w.heap.size by omega)).trans hcb
  · exact World.cell?_setCell_same _ _ _ hca1
  · exact (World.frozen?_setCell _ _ _ _).trans hfa1
  · have := hb1.size
    simp
    omega
theorem fields_calls (A : Option Addr) (len c : Nat) (p : Int) (w : World) :
    Calls Try.prog 45 #[.slice A len c, .int .i64 p] w fun e w' => e = .returned (.func (.func 58) #[] #[.pointer (some ⟨w.heap.size, 0, none⟩), .pointer (some ⟨w.heap.size + 1, 0, none⟩)]) ∧ St w w' w.heap.size A len c p := by
  have hmf : ∀ (fn : Fn) (first cap : Array Value) (w : World), (Instr.makeFunc fn first cap).run Try.prog w = .ok (.func fn first cap) w := fun _ _ _ _ => rfl
  go_enter Try.func45, Try.ntmps45
  go_wp2
  go_ret
  refine ⟨rfl, ((Below.refl _ _).alloc (Nat.le_refl _) _).alloc (by simp) _, ?_, ?_, World.frozen?_alloc_at _ _ _ _ (by simp), Nat.le_refl _, by simp⟩
  · rw [World.cell?_alloc_past _ _ _ (by simp), World.cell?_alloc_at _ _ _ _ rfl]; rfl
  · rw [World.cell?_alloc_at _ _ _ _ (by simp)]; rfl
end Go.Proofs.Ytmecigllpdeeoaa.By
