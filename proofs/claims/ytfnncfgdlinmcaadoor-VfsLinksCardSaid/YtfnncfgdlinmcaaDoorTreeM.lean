/- tree.may walked. -/
import Derived.Test.YtfnncfgdlinmcaaDoorNode
set_option linter.unusedVariables false
set_option linter.unusedSimpArgs false
namespace Go.Proofs.YtfnncfgdlinmcaaDoor.Tree
open Go.RowKit Go.BigFrame Go.Proofs.YtfnncfgdlinmcaaDoor.Reg Go.Proofs.YtfnncfgdlinmcaaDoor.Rout Go.Proofs.YtfnncfgdlinmcaaDoor.Node Go.Proofs.YtfnncfgdlinmcaaDoorW.PrintWords Go.Proofs.YtfnncfgdlinmcaaDoorW.PrintLast Go.Proofs.YtfnncfgdlinmcaaDoorW.PrintMore
def kindB (x : Nd) : Bool := if x.f0 = 1 then decide ((x.f2.length : Int) = 0) else if x.f0 = 2 then decide ((x.f2.length : Int) ≤ 268435456) else if x.f0 = 3 then decide (1 ≤ x.f2.length ∧ x.f2.length ≤ 1024) && x.f2.all (fun b => b != 0) else false
def mayB (x : Nd) : Bool := decide (0 ≤ x.f3 ∧ x.f3 ≤ 4095 ∧ -1099511627776 ≤ x.f4 ∧ x.f4 ≤ 1099511627776) && kindB x
/-- What is asked of a node: bytes are bytes, and it lies in memory. -/
structure Ok (x : Nd) : Prop where
  by_ : ∀ b ∈ x.f2, 0 ≤ b ∧ b ≤ 255
  ps : x.f1.size ≤ 140737488351232
  ds : x.f2.length ≤ 140737488351232
theorem may_out (x : Nd) (h : ¬ (0 ≤ x.f3 ∧ x.f3 ≤ 4095 ∧ -1099511627776 ≤ x.f4 ∧ x.f4 ≤ 1099511627776)) : mayB x = false := by unfold mayB; rw [decide_eq_false h]; rfl
theorem may_in (x : Nd) (h : 0 ≤ x.f3 ∧ x.f3 ≤ 4095 ∧ -1099511627776 ≤ x.f4 ∧ x.f4 ≤ 1099511627776) : mayB x = kindB x := by unfold mayB; rw [decide_eq_true h]; rfl
theorem zero_find : ∀ xs : List Int, (∀ b ∈ xs, 0 ≤ b ∧ b ≤ 255) → (xs.all (fun b => b != 0) = true ∧ Lib.indexByte (Lib.bytesOf xs) 0 = -1) ∨ (xs.all (fun b => b != 0) = false ∧ 0 ≤ Lib.indexByte (Lib.bytesOf xs) 0)
  | [], _ => .inl ⟨rfl, rfl⟩
  | b :: r, h => by
    have hb := h b (by simp)
    have hr := zero_find r (fun c hc => h c (by simp [hc]))
    have hge := Lib.indexByte_ge (Lib.bytesOf r) 0
    have e1 : Lib.bytesOf (b :: r) = b.toNat.toUInt8 :: Lib.bytesOf r := rfl
    rw [e1, List.all_cons]
    unfold Lib.indexByte
    by_cases h0 : b = 0
    · subst h0
      right
      exact ⟨by simp, by simp⟩
    · have h1 : (b.toNat.toUInt8 == 0) = false := by
        rw [beq_eq_false_iff_ne]
        intro e
        have := congrArg UInt8.toNat e
        simp at this
        omega
      have h2 : (b != 0) = true := by simpa using h0
      rw [h1, h2]
      rcases hr with ⟨r1, r2⟩ | ⟨r1, r2⟩
      · left
        exact ⟨by rw [r1]; rfl, by rw [r2]; rfl⟩
      · right
        refine ⟨by rw [r1]; rfl, ?_⟩
        rw [if_neg (by decide), if_neg (by simp; omega)]
        omega
set_option maxHeartbeats 4000000 in
theorem may_calls (x : Nd) (A : Option Addr) (c : Nat) (w : World) (hC : (Kd.int .u8).C w A x.f2.length x.f2) (hok : Ok x) :
    Calls Tryd.prog 44 #[.agg #[.int .i64 x.f0, .string x.f1, .slice A x.f2.length c, .int .i64 x.f3, .int .i64 x.f4]] w fun e w' => e = .returned (.bool (mayB x)) ∧ Below w.heap.size w w' := by
  have hds := hok.ds
  by_cases h1 : x.f3 < 0
  · have e := Lib.hid (show mayB x = false from may_out x (by omega))
    go_enter Tryd.func44, Tryd.ntmps44
    go_wp2
    go_ret
    exact ⟨ret_bool (by first | exact e.out.symm | (rw [e.out]; simp only [decide_eq_true_eq, decide_eq_false_iff_not]; omega)), by repeat (first | with_reducible exact Below.refl _ _ | apply balloc)⟩
  by_cases h2 : 4095 < x.f3
  · have e := Lib.hid (show mayB x = false from may_out x (by omega))
    go_enter Tryd.func44, Tryd.ntmps44
    go_wp2
    go_ret
    exact ⟨ret_bool (by first | exact e.out.symm | (rw [e.out]; simp only [decide_eq_true_eq, decide_eq_false_iff_not]; omega)), by repeat (first | with_reducible exact Below.refl _ _ | apply balloc)⟩
  by_cases h3 : x.f4 < -1099511627776
  · have e := Lib.hid (show mayB x = false from may_out x (by omega))
    go_enter Tryd.func44, Tryd.ntmps44
    go_wp2
    go_ret
    exact ⟨ret_bool (by first | exact e.out.symm | (rw [e.out]; simp only [decide_eq_true_eq, decide_eq_false_iff_not]; omega)), by repeat (first | with_reducible exact Below.refl _ _ | apply balloc)⟩
  by_cases h4 : 1099511627776 < x.f4
  · have e := Lib.hid (show mayB x = false from may_out x (by omega))
    go_enter Tryd.func44, Tryd.ntmps44
    go_wp2
    go_ret
    exact ⟨ret_bool (by first | exact e.out.symm | (rw [e.out]; simp only [decide_eq_true_eq, decide_eq_false_iff_not]; omega)), by repeat (first | with_reducible exact Below.refl _ _ | apply balloc)⟩
  have hin := Lib.hid (may_in x (by omega))
  have hk := Lib.hid (show kindB x = if x.f0 = 1 then decide ((x.f2.length : Int) = 0) else if x.f0 = 2 then decide ((x.f2.length : Int) ≤ 268435456) else if x.f0 = 3 then decide (1 ≤ x.f2.length ∧ x.f2.length ≤ 1024) && x.f2.all (fun b => b != 0) else false from rfl)
  by_cases k1 : x.f0 = 1
  · by_cases d : x.f2.length = 0
    · have e := Lib.hid (show mayB x = true from by rw [hin.out, hk.out, if_pos k1, decide_eq_true (by omega)])
      go_enter Tryd.func44, Tryd.ntmps44
      go_wp2
      go_ret
      exact ⟨ret_bool (by first | exact e.out.symm | (rw [e.out]; simp only [decide_eq_true_eq, decide_eq_false_iff_not]; omega)), by repeat (first | with_reducible exact Below.refl _ _ | apply balloc)⟩
    · have dn : ((x.f2.length : Int) == 0) = false := beq_eq_false_iff_ne.mpr (by omega)
      have e := Lib.hid (show mayB x = false from by rw [hin.out, hk.out, if_pos k1, decide_eq_false (by omega)])
      go_enter Tryd.func44, Tryd.ntmps44
      go_wp2
      go_ret
      exact ⟨ret_bool (by first | exact e.out.symm | (rw [e.out]; simp only [decide_eq_true_eq, decide_eq_false_iff_not]; omega)), by repeat (first | with_reducible exact Below.refl _ _ | apply balloc)⟩
  by_cases k2 : x.f0 = 2
  · have k1n : (x.f0 == 1) = false := beq_eq_false_iff_ne.mpr k1
    by_cases d : x.f2.length ≤ 268435456
    · have e := Lib.hid (show mayB x = true from by rw [hin.out, hk.out, if_neg k1, if_pos k2, decide_eq_true (by omega)])
      go_enter Tryd.func44, Tryd.ntmps44
      go_wp2
      go_ret
      exact ⟨ret_bool (by first | exact e.out.symm | (rw [e.out]; simp only [decide_eq_true_eq, decide_eq_false_iff_not]; omega)), by repeat (first | with_reducible exact Below.refl _ _ | apply balloc)⟩
    · have e := Lib.hid (show mayB x = false from by rw [hin.out, hk.out, if_neg k1, if_pos k2, decide_eq_false (by omega)])
      go_enter Tryd.func44, Tryd.ntmps44
      go_wp2
      go_ret
      exact ⟨ret_bool (by first | exact e.out.symm | (rw [e.out]; simp only [decide_eq_true_eq, decide_eq_false_iff_not]; omega)), by repeat (first | with_reducible exact Below.refl _ _ | apply balloc)⟩
  by_cases k3 : x.f0 = 3
  · have k1n : (x.f0 == 1) = false := beq_eq_false_iff_ne.mpr k1
    have k2n : (x.f0 == 2) = false := beq_eq_false_iff_ne.mpr k2
    by_cases d : x.f2.length = 0
    · have e := Lib.hid (show mayB x = false from by rw [hin.out, hk.out, if_neg k1, if_neg k2, if_pos k3, decide_eq_false (by omega)]; rfl)
      go_enter Tryd.func44, Tryd.ntmps44
      go_wp2
      go_ret
      exact ⟨ret_bool (by first | exact e.out.symm | (rw [e.out]; simp only [decide_eq_true_eq, decide_eq_false_iff_not]; omega)), by repeat (first | with_reducible exact Below.refl _ _ | apply balloc)⟩
    by_cases d2 : 1024 < x.f2.length
    · have e := Lib.hid (show mayB x = false from by rw [hin.out, hk.out, if_neg k1, if_neg k2, if_pos k3, decide_eq_false (by omega)]; rfl)
      go_enter Tryd.func44, Tryd.ntmps44
      go_wp2
      go_ret
      exact ⟨ret_bool (by first | exact e.out.symm | (rw [e.out]; simp only [decide_eq_true_eq, decide_eq_false_iff_not]; omega)), by repeat (first | with_reducible exact Below.refl _ _ | apply balloc)⟩
    obtain ⟨ad, rfl, _⟩ := Kd.at_int hC 0 (by omega) (by omega)
    have hcell := Lib.hid (show ∀ i, i < x.f2.length → w.cell? (ad.add i) = some (.int .u8 (x.f2.getD i 0)) from fun i hi => by
      obtain ⟨ad2, hA2, hx2⟩ := Kd.at_int hC (i : Int) (by omega) (by omega)
      obtain rfl := Option.some.inj hA2
      rw [Int.toNat_natCast] at hx2
      rw [hx2]
      unfold rd
      rw [Int.toNat_natCast])
    have hcall := Lib.hid (fun W (hb : Below w.heap.size w W) => Tryd.bytes_IndexByte_at ad x.f2.length c x.f2 0 W rfl (fun i hi => bkeep hb (hcell.out i hi)))
    rcases zero_find x.f2 hok.by_ with ⟨z1, z2⟩ | ⟨z1, z2⟩
    · have e := Lib.hid (show mayB x = true by rw [hin.out, hk.out, if_neg k1, if_neg k2, if_pos k3, decide_eq_true (by omega), z1]; rfl)
      have hz : Lib.indexByte (Lib.bytesOf x.f2) (0 : Int).toNat.toUInt8 = Lib.indexByte (Lib.bytesOf x.f2) 0 := rfl
      rw [hz] at hcall
      clear hz hin hk z1
      generalize Lib.indexByte (Lib.bytesOf x.f2) 0 = z at *
      go_enter Tryd.func44, Tryd.ntmps44
      go_wp2_with (go_at_call 60; refine (hcall.out _ (by repeat (first | with_reducible exact Below.refl _ _ | apply balloc))).mono ?_; rintro e1 w1 ⟨rfl, rfl⟩)
      go_ret
      exact ⟨ret_bool (by first | exact e.out.symm | (rw [e.out]; simp only [decide_eq_true_eq, decide_eq_false_iff_not]; omega)), by repeat (first | with_reducible exact Below.refl _ _ | apply balloc)⟩
    · have e := Lib.hid (show mayB x = false by rw [hin.out, hk.out, if_neg k1, if_neg k2, if_pos k3, decide_eq_true (by omega), z1]; rfl)
      have hz : Lib.indexByte (Lib.bytesOf x.f2) (0 : Int).toNat.toUInt8 = Lib.indexByte (Lib.bytesOf x.f2) 0 := rfl
      rw [hz] at hcall
      clear hz hin hk z1
      generalize Lib.indexByte (Lib.bytesOf x.f2) 0 = z at *
      go_enter Tryd.func44, Tryd.ntmps44
      go_wp2_with (go_at_call 60; refine (hcall.out _ (by repeat (first | with_reducible exact Below.refl _ _ | apply balloc))).mono ?_; rintro e1 w1 ⟨rfl, rfl⟩)
      go_ret
      exact ⟨ret_bool (by first | exact e.out.symm | (rw [e.out]; simp only [decide_eq_true_eq, decide_eq_false_iff_not]; omega)), by repeat (first | with_reducible exact Below.refl _ _ | apply balloc)⟩
  · have k1n : (x.f0 == 1) = false := beq_eq_false_iff_ne.mpr k1
    have k2n : (x.f0 == 2) = false := beq_eq_false_iff_ne.mpr k2
    have k3n : (x.f0 == 3) = false := beq_eq_false_iff_ne.mpr k3
    have e := Lib.hid (show mayB x = false from by rw [hin.out, hk.out, if_neg k1, if_neg k2, if_neg k3])
    go_enter Tryd.func44, Tryd.ntmps44
    go_wp2
    go_ret
    exact ⟨ret_bool (by first | exact e.out.symm | (rw [e.out]; simp only [decide_eq_true_eq, decide_eq_false_iff_not]; omega)), by repeat (first | with_reducible exact Below.refl _ _ | apply balloc)⟩
end Go.Proofs.YtfnncfgdlinmcaaDoor.Tree
