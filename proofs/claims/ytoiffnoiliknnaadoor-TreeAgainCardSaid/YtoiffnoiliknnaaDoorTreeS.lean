/- tree.Same walked. -/
import Derived.Test.YtoiffnoiliknnaaDoorTreeP
set_option linter.unusedVariables false
set_option linter.unusedSimpArgs false
namespace Go.Proofs.YtoiffnoiliknnaaDoor.Tree
open Go.RowKit Go.BigFrame Go.Maps Go.Proofs.YtoiffnoiliknnaaDoor.Reg Go.Proofs.YtoiffnoiliknnaaDoor.Rout Go.Proofs.YtoiffnoiliknnaaDoor.Node Go.Proofs.YtoiffnoiliknnaaDoorW.PrintWords Go.Proofs.YtoiffnoiliknnaaDoorW.PrintLast Go.Proofs.YtoiffnoiliknnaaDoorW.PrintMore
def oneB (x y : Nd) : Bool := (x.f0 == y.f0) && (x.f1.toList == y.f1.toList) && (x.f2 == y.f2) && (x.f3 == y.f3) && (x.f4 == y.f4)
def sameB : List Nd → List Nd → Bool
  | [], [] => true
  | x :: r, y :: q => oneB x y && sameB r q
  | _, _ => false
theorem bytes_eq : ∀ xs ys : List Int, (∀ b ∈ xs, 0 ≤ b ∧ b ≤ 255) → (∀ b ∈ ys, 0 ≤ b ∧ b ≤ 255) → (Lib.bytesOf xs == Lib.bytesOf ys) = (xs == ys)
  | [], [], _, _ => rfl
  | [], b :: r, _, _ => rfl
  | a :: r, [], _, _ => rfl
  | a :: r, b :: q, hx, hy => by
    have ih := bytes_eq r q (fun c hc => hx c (by simp [hc])) (fun c hc => hy c (by simp [hc]))
    have ha := hx a (by simp)
    have hb := hy b (by simp)
    have e1 : Lib.bytesOf (a :: r) = a.toNat.toUInt8 :: Lib.bytesOf r := rfl
    have e2 : Lib.bytesOf (b :: q) = b.toNat.toUInt8 :: Lib.bytesOf q := rfl
    rw [e1, e2]
    show ((a.toNat.toUInt8 == b.toNat.toUInt8) && (Lib.bytesOf r == Lib.bytesOf q)) = ((a == b) && (r == q))
    rw [ih]
    congr 1
    rw [Bool.eq_iff_iff, beq_iff_eq, beq_iff_eq]
    constructor
    · intro h
      have := congrArg UInt8.toNat h
      simp at this
      omega
    · rintro rfl; rfl
theorem bytesIn {w : World} {A : Option Addr} {xs : List Int} (h : (Kd.int .u8).C w A xs.length xs) : Lib.BytesIn w A xs.length xs := by
  cases A with
  | none =>
    intro hn
    obtain ⟨ad, he, _⟩ := Kd.at_int h 0 (by omega) (by omega)
    cases he
  | some ad =>
    refine Lib.BytesIn.of_cells (fun i hi => ?_)
    obtain ⟨ad2, hA2, hx2⟩ := Kd.at_int h (i : Int) (by omega) (by omega)
    obtain rfl := Option.some.inj hA2
    rw [Int.toNat_natCast] at hx2
    rw [hx2]
    unfold rd
    rw [Int.toNat_natCast]
set_option maxHeartbeats 8000000 in
theorem one_calls (x y : Nd) (A B : Option Addr) (c d : Nat) (w : World) (hA : (Kd.int .u8).C w A x.f2.length x.f2) (hB : (Kd.int .u8).C w B y.f2.length y.f2) (hx : Ok x) (hy : Ok y) :
    Calls Tryd.prog 26 #[.agg #[.int .i64 x.f0, .string x.f1, .slice A x.f2.length c, .int .i64 x.f3, .int .i64 x.f4], .agg #[.int .i64 y.f0, .string y.f1, .slice B y.f2.length d, .int .i64 y.f3, .int .i64 y.f4]] w fun e w' => e = .returned (.bool (oneB x y)) ∧ Below w.heap.size w w' := by
  have HE := Lib.hid (show oneB x y = ((x.f0 == y.f0) && (x.f1.toList == y.f1.toList) && (x.f2 == y.f2) && (x.f3 == y.f3) && (x.f4 == y.f4)) from rfl)
  have hbe := bytes_eq x.f2 y.f2 hx.by_ hy.by_
  have HC := Lib.hid (fun W (h : Below w.heap.size w W) => Tryd.bytes_Equal_all A B x.f2.length c y.f2.length d x.f2 y.f2 W rfl rfl (bytesIn (Kd.C_below hA h)) (bytesIn (Kd.C_below hB h)))
  rw [hbe] at HC
  clear hA hB hx hy hbe
  cases h0 : (x.f0 == y.f0)
  · have hE := Lib.hid (show oneB x y = false by rw [HE.out, h0]; rfl)
    go_enter Tryd.func26, Tryd.ntmps26
    go_wp2
    go_ret
    exact ⟨ret_bool (by first | exact hE.out.symm | (rw [hE.out]; simp)), by repeat (first | with_reducible exact Below.refl _ _ | apply balloc)⟩
  cases h1 : (x.f1.toList == y.f1.toList)
  · have hE := Lib.hid (show oneB x y = false by rw [HE.out, h1]; simp)
    go_enter Tryd.func26, Tryd.ntmps26
    go_wp2
    go_ret
    exact ⟨ret_bool (by first | exact hE.out.symm | (rw [hE.out]; simp)), by repeat (first | with_reducible exact Below.refl _ _ | apply balloc)⟩
  cases h2 : (x.f2 == y.f2)
  · rw [h2] at HC
    have hE := Lib.hid (show oneB x y = false by rw [HE.out, h2]; simp)
    go_enter Tryd.func26, Tryd.ntmps26
    go_wp2_with (go_at_call 27; refine (HC.out _ (by repeat (first | with_reducible exact Below.refl _ _ | apply balloc))).mono ?_; rintro e1 w1 ⟨rfl, rfl⟩)
    go_ret
    exact ⟨ret_bool (by first | exact hE.out.symm | (rw [hE.out]; simp)), by repeat (first | with_reducible exact Below.refl _ _ | apply balloc)⟩
  rw [h2] at HC
  cases h3 : (x.f3 == y.f3)
  · have hE := Lib.hid (show oneB x y = false by rw [HE.out, h3]; simp)
    go_enter Tryd.func26, Tryd.ntmps26
    go_wp2_with (go_at_call 27; refine (HC.out _ (by repeat (first | with_reducible exact Below.refl _ _ | apply balloc))).mono ?_; rintro e1 w1 ⟨rfl, rfl⟩)
    go_ret
    exact ⟨ret_bool (by first | exact hE.out.symm | (rw [hE.out]; simp)), by repeat (first | with_reducible exact Below.refl _ _ | apply balloc)⟩
  cases h4 : (x.f4 == y.f4)
  · have hE := Lib.hid (show oneB x y = false by rw [HE.out, h4]; simp)
    go_enter Tryd.func26, Tryd.ntmps26
    go_wp2_with (go_at_call 27; refine (HC.out _ (by repeat (first | with_reducible exact Below.refl _ _ | apply balloc))).mono ?_; rintro e1 w1 ⟨rfl, rfl⟩)
    go_ret
    exact ⟨ret_bool (by first | exact hE.out.symm | (rw [hE.out]; simp)), by repeat (first | with_reducible exact Below.refl _ _ | apply balloc)⟩
  · have hE := Lib.hid (show oneB x y = true by rw [HE.out, h0, h1, h2, h3, h4]; rfl)
    go_enter Tryd.func26, Tryd.ntmps26
    go_wp2_with (go_at_call 27; refine (HC.out _ (by repeat (first | with_reducible exact Below.refl _ _ | apply balloc))).mono ?_; rintro e1 w1 ⟨rfl, rfl⟩)
    go_ret
    exact ⟨ret_bool (by first | exact hE.out.symm | (rw [hE.out]; simp)), by repeat (first | with_reducible exact Below.refl _ _ | apply balloc)⟩
theorem sameB_len : ∀ xs ys : List Nd, xs.length ≠ ys.length → sameB xs ys = false
  | [], [], h => absurd rfl h
  | [], _ :: _, _ => rfl
  | _ :: _, [], _ => rfl
  | x :: r, y :: q, h => by
    show (oneB x y && sameB r q) = false
    rw [sameB_len r q (by simpa using h), Bool.and_false]
theorem sameB_drop (xs ys : List Nd) (k : Nat) (h : k < xs.length) (h2 : k < ys.length) : sameB (xs.drop k) (ys.drop k) = (oneB (rdN xs k) (rdN ys k) && sameB (xs.drop (k + 1)) (ys.drop (k + 1))) := by
  rw [List.drop_eq_getElem_cons h, List.drop_eq_getElem_cons h2]
  have e1 : rdN xs (k : Int) = xs[k] := by unfold rdN; rw [Int.toNat_natCast, List.getD_eq_getElem?_getD, List.getElem?_eq_getElem h]; rfl
  have e2 : rdN ys (k : Int) = ys[k] := by unfold rdN; rw [Int.toNat_natCast, List.getD_eq_getElem?_getD, List.getElem?_eq_getElem h2]; rfl
  rw [e1, e2]
  rfl
set_option maxRecDepth 100000 in
set_option maxHeartbeats 8000000 in
theorem equal_calls (A B : Option Addr) (c d : Nat) (xs ys : List Nd) (w : World) (hA : kN.C w A xs.length xs) (hB : kN.C w B ys.length ys) (hx : ∀ x ∈ xs, Ok x) (hy : ∀ y ∈ ys, Ok y) (lx : xs.length ≤ 140737488351232) (ly : ys.length ≤ 140737488351232) :
    Calls Tryd.prog 25 #[.slice A xs.length c, .slice B ys.length d, .func (.func 26) #[] #[]] w fun e w' => e = .returned (.bool (sameB xs ys)) ∧ Below w.heap.size w w' := by
  by_cases hne : xs.length = ys.length
  · have HA := Lib.hid hA
    have HB := Lib.hid hB
    have HX := Lib.hid hx
    have HY := Lib.hid hy
    have HL := Lib.hid hne
    have hn2 : ((xs.length : Int) != (ys.length : Int)) = false := by simp; omega
    clear hA hB hx hy hne
    go_enter Tryd.func25, Tryd.ntmps25
    go_wp2
    go_loopw [7, 8, 9, 17] (fun _ _ _ i wr => ∃ k : Nat, i = .int .i64 k ∧ k ≤ xs.length ∧ Hid (sameB (xs.drop k) (ys.drop k) = sameB xs ys) ∧ Below w.heap.size w wr) (fun _ _ _ i _ => (xs.length - intOf i).toNat)
    case atStart => exact ⟨0, rfl, by omega, Lib.hid rfl, Below.refl _ _⟩
    case round =>
      obtain ⟨k, rfl, hk, he, hb⟩ := hrel
      by_cases hlt : k < xs.length
      · have hlt2 : k < ys.length := by have := HL.out; omega
        obtain ⟨ad, A2, c2, hA', a0, a1, a2, a3, a4, _, hd⟩ := atN (Kd.C_below HA.out hb) (k : Int) (by omega) (by omega)
        subst hA'
        obtain ⟨ad2, B2, d2, hB', b0, b1, b2, b3, b4, _, hd2⟩ := atN (Kd.C_below HB.out hb) (k : Int) (by omega) (by omega)
        subst hB'
        rw [Int.toNat_natCast] at a0 a1 a2 a3 a4 b0 b1 b2 b3 b4
        have hs := Lib.hid (sameB_drop xs ys k hlt hlt2)
        have hxb := World.block_lt_of_cell? wr _ b0
        have hyb := World.block_lt_of_cell? wr _ b1
        have HO := Lib.hid (fun W (h : Below wr.heap.size wr W) => one_calls (rdN xs (k : Int)) (rdN ys (k : Int)) A2 B2 c2 d2 W (Kd.C_below hd h) (Kd.C_below hd2 h) (HX.out _ (rdN_mem xs k hlt)) (HY.out _ (rdN_mem ys k hlt2)))
        clear hd hd2
        generalize rdN xs (k : Int) = x at *
        generalize rdN ys (k : Int) = y at *
        have k0 : (0 : Int) ≤ (k : Int) := by omega
        have k1 : (k : Int) < xs.length := by omega
        have k2 : (k : Int) < ys.length := by omega
        cases h1 : oneB x y
        · have HR := Lib.hid (show sameB xs ys = false by rw [← he.out, hs.out, h1]; rfl)
          rw [h1] at HO
          clear he hs h1
          go_wp2_with (go_at_call 26; refine (HO.out _ (by repeat (first | with_reducible exact Below.refl _ _ | apply balloc))).mono ?_; rintro e w1 ⟨rfl, hb1⟩)
          go_ret
          exact ⟨ret_bool HR.out.symm, bgo hb (bgo (balloc (balloc (Below.refl _ _) _) _) hb1)⟩
        · have HR := Lib.hid (show sameB (xs.drop (k + 1)) (ys.drop (k + 1)) = sameB xs ys by rw [← he.out, hs.out, h1]; rfl)
          rw [h1] at HO
          clear he hs h1
          go_wp2_with (go_at_call 26; refine (HO.out _ (by repeat (first | with_reducible exact Below.refl _ _ | apply balloc))).mono ?_; rintro e w1 ⟨rfl, hb1⟩; have HB1 := Lib.hid (bgo hb (bgo (balloc (balloc (Below.refl _ _) _) _) hb1)); clear hb1)
          go_roundw
          case rel => exact ⟨k + 1, by go_num, by omega, HR, HB1.out⟩
          case measure => simp [intOf]; omega
      · have HR := Lib.hid (show sameB xs ys = true by rw [← he.out, List.drop_of_length_le (by omega), List.drop_of_length_le (by have := HL.out; omega)]; rfl)
        clear he
        go_wp2
        go_ret
        exact ⟨ret_bool HR.out.symm, hb⟩
  · have HR := Lib.hid (sameB_len xs ys hne)
    have hn2 : ((xs.length : Int) != (ys.length : Int)) = true := by simp; omega
    clear hA hB hx hy hne
    go_enter Tryd.func25, Tryd.ntmps25
    go_wp2
    go_ret
    exact ⟨ret_bool HR.out.symm, Below.refl _ _⟩
theorem same_calls (A B : Option Addr) (c d : Nat) (xs ys : List Nd) (w : World) (hA : kN.C w A xs.length xs) (hB : kN.C w B ys.length ys) (hx : ∀ x ∈ xs, Ok x) (hy : ∀ y ∈ ys, Ok y) (lx : xs.length ≤ 140737488351232) (ly : ys.length ≤ 140737488351232) :
    Calls Tryd.prog 14 #[.slice A xs.length c, .slice B ys.length d] w fun e w' => e = .returned (.bool (sameB xs ys)) ∧ Below w.heap.size w w' := by
  have H := Lib.hid (equal_calls A B c d xs ys w hA hB hx hy lx ly)
  clear hA hB hx hy
  go_enter Tryd.func14, Tryd.ntmps14
  go_wp2_with (go_at_call 25; refine H.out.mono ?_; rintro e w1 ⟨rfl, hb1⟩)
  go_ret
  exact ⟨rfl, hb1⟩
end Go.Proofs.YtoiffnoiliknnaaDoor.Tree
