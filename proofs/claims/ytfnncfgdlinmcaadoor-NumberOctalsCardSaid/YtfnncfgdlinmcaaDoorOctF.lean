/- strconv.FormatInt to the base 8, walked. -/
import Derived.Test.YtfnncfgdlinmcaaDoorProg
import Derived.Test.YtfnncfgdlinmcaaDoorReg
import Derived.Test.YtfnncfgdlinmcaaDoorWLast
import Derived.Test.YtfnncfgdlinmcaaDoorWMore
import Derived.Lib.Hide
import Derived.Lib.LaidTab
import Derived.Lib.AtoiErrMem
set_option linter.unusedVariables false
set_option linter.unusedSimpArgs false
namespace Go.Proofs.YtfnncfgdlinmcaaDoor.Oct
open Go.RowKit Go.BigFrame Go.Lib Go.Proofs.YtfnncfgdlinmcaaDoor.Reg Go.Proofs.YtfnncfgdlinmcaaDoorW.PrintWords Go.Proofs.YtfnncfgdlinmcaaDoorW.PrintLast Go.Proofs.YtfnncfgdlinmcaaDoorW.PrintMore
/-- What the library's table says at the place of 8. -/
def Tz (w : World) : Prop := w.cell? ⟨5, 7, none⟩ = some (.int .u8 3)
theorem Tz.below {w w1 : World} (h : Tz w) (hb : Below w.heap.size w w1) : Tz w1 := bkeep hb h
theorem tz64_calls (w : World) (h : Tz w) : Calls Tryd.prog 82 #[.int .u64 8] w fun e w' => e = .returned (.int .i64 3) ∧ w = w' := by
  unfold Tz at h
  have E : IntKind.u64.wrap (bits BinOp.and IntKind.u64 8 (IntKind.u64.wrap (-8)) * 285870213051353865) / 288230376151711744 = 7 := by kernel_rfl
  go_enter Tryd.func82, Tryd.ntmps82
  go_wp2
  go_ret
  exact ⟨rfl, rfl⟩
theorem tz_calls (w : World) (h : Tz w) : Calls Tryd.prog 72 #[.int .u64 8] w fun e w' => e = .returned (.int .i64 3) ∧ w = w' := by
  have H := Lib.hid (tz64_calls w h)
  clear h
  go_enter Tryd.func72, Tryd.ntmps72
  go_wp2_with (go_at_call 82; refine H.out.mono ?_; rintro e w1 ⟨rfl, rfl⟩)
  go_ret
  exact ⟨rfl, rfl⟩
theorem pow2_calls (w : World) : Calls Tryd.prog 71 #[.int .i64 8] w fun e w' => e = .returned (.bool true) ∧ w = w' := by
  go_enter Tryd.func71, Tryd.ntmps71
  go_wp2
  go_ret
  exact ⟨rfl, rfl⟩
/-- The digits to the base 8. -/
def octF : Nat → Nat → List Int
  | 0, _ => []
  | f + 1, n => if n < 8 then [(48 : Int) + n] else octF f (n / 8) ++ [(48 : Int) + (n % 8 : Nat)]
theorem octF_step (f n : Nat) : octF (f + 1) n = if n < 8 then [(48 : Int) + n] else octF f (n / 8) ++ [(48 : Int) + (n % 8 : Nat)] := rfl
/-- The array, filled from place i on. -/
def Arr (w : World) (B i : Nat) (ds : List Int) : Prop :=
  (∀ j, j < 65 → ∃ z, w.cell? ⟨B, j, none⟩ = some (.int .u8 z)) ∧ (∀ j, w.frozen? ⟨B, j, none⟩ = false) ∧ ∀ q x, ds[q]? = some x → w.cell? ⟨B, i + q, none⟩ = some (.int .u8 x)
theorem zero65 : Tryd.zeroCells112 = Array.replicate 65 (.int .u8 0) := by kernel_rfl
theorem cell_of_blk {w : World} {B j : Nat} {cs : Array Value} {T : TypeId} (h : w.heap[B]? = some (.cells cs T (0, 0))) : w.cell? ⟨B, j, none⟩ = cs[j]? := blk_cell h j
theorem frozen_of_blk {w : World} {B : Nat} {cs : Array Value} {T : TypeId} (h : w.heap[B]? = some (.cells cs T (0, 0))) (j : Nat) : w.frozen? ⟨B, j, none⟩ = false := blk_frozen h j
theorem arr_new (w : World) : Arr (w.alloc (.cells Tryd.zeroCells112 112)) w.heap.size 65 [] := by
  refine ⟨fun j hj => ⟨0, ?_⟩, fun j => ?_, fun q x h => by simp at h⟩
  · have := cell_of_blk (w := w.alloc (.cells Tryd.zeroCells112 112)) (B := w.heap.size) (j := j) (heap_alloc_new w _)
    rw [this, zero65]
    simp [hj]
  · exact frozen_of_blk (heap_alloc_new w _) j
theorem Arr.set {w : World} {B i : Nat} {ds : List Int} (h : Arr w B (i + 1) ds) (hi : i < 65) (z : Int) : Arr (w.setCell ⟨B, i, none⟩ (.int .u8 z)) B i (z :: ds) := by
  obtain ⟨h1, h2, h3⟩ := h
  refine ⟨fun j hj => ?_, fun j => by rw [World.frozen?_setCell]; exact h2 j, fun q x hq => ?_⟩
  · by_cases e : i = j
    · subst e
      obtain ⟨z0, hz0⟩ := h1 i hi
      exact ⟨z, World.cell?_setCell_same (h := hz0) ..⟩
    · obtain ⟨z0, hz0⟩ := h1 j hj
      exact ⟨z0, (World.cell?_setCell_other (h := fun e2 => e (by injection e2)) ..).trans hz0⟩
  · cases q with
    | zero =>
      obtain rfl : z = x := by simpa using hq
      obtain ⟨z0, hz0⟩ := h1 i hi
      exact World.cell?_setCell_same (h := hz0) ..
    | succ q =>
      have := h3 q x (by simpa using hq)
      rw [show i + 1 + q = i + (q + 1) by omega] at this
      exact (World.cell?_setCell_other (h := fun e2 => by injection e2; omega) ..).trans this
theorem Arr.C {w : World} {B i : Nat} {ds : List Int} (h : Arr w B i ds) (hl : ds.length ≤ 65) : (Kd.int .u8).C w (some ⟨B, i, none⟩) ds.length ds := by
  refine ⟨rfl, by omega, fun _ => ⟨⟨B, i, none⟩, rfl, fun j p hj => ⟨[.int .u8 p], rfl, rfl, fun q u hq => ?_⟩⟩⟩
  cases q with
  | zero =>
    obtain rfl : Value.int .u8 p = u := by simpa using hq
    have := h.2.2 j p hj
    simp only [Addr.add]
    split
    · rename_i hz
      have hz2 : j = 0 := by
        have : j * 1 + 0 = 0 := hz
        omega
      subst hz2
      exact this
    · have e : j * (Kd.int .u8).sz + 0 = j := by show j * 1 + 0 = j; omega
      rw [e]
      exact this
  | succ q => simp at hq
theorem slice65 (B j : Nat) (hj : j < 65) (W : World) : (Instr.sliceAt 112 (.pointer (some ⟨B, 0, none⟩)) (some (.int .i64 (j : Int))) none none).run Tryd.prog W = .ok (.slice (some ⟨B, j, none⟩) (65 - j) (65 - j)) W := by
  have hL : Tryd.prog.arrayLen 112 = 65 := by kernel_rfl
  have hs : (sizeOf (Tryd.prog.elem 112)).run Tryd.prog W = .ok 1 W := by kernel_rfl
  rw [run_sliceAt_array_l (P := Tryd.prog) W 112 ⟨B, 0, none⟩ (by kernel_rfl) .i64 (j : Int) (by omega) (by rw [hL]; omega), hs]
  simp only [Result.andThen, slicedAt, hL, Int.toNat_natCast]
  rw [if_neg (by omega), Nat.mul_one, add_plain]
theorem pow8 (m : Nat) : 8 ^ (m + 1) = 8 * 8 ^ m := by rw [Nat.pow_succ]; omega
theorem hex8 (r : Nat) (h : r < 8) (hp : r < (⟨#[48, 49, 50, 51, 52, 53, 54, 55, 56, 57, 97, 98, 99, 100, 101, 102, 103, 104, 105, 106, 107, 108, 109, 110, 111, 112, 113, 114, 115, 116, 117, 118, 119, 120, 121, 122]⟩ : ByteArray).size) : ((⟨#[48, 49, 50, 51, 52, 53, 54, 55, 56, 57, 97, 98, 99, 100, 101, 102, 103, 104, 105, 106, 107, 108, 109, 110, 111, 112, 113, 114, 115, 116, 117, 118, 119, 120, 121, 122]⟩ : ByteArray)[r]'hp).toNat = 48 + r := by
  match r, h with
  | 0, _ => rfl
  | 1, _ => rfl
  | 2, _ => rfl
  | 3, _ => rfl
  | 4, _ => rfl
  | 5, _ => rfl
  | 6, _ => rfl
  | 7, _ => rfl
theorem and7 (u : Nat) (h : u < 18446744073709551616) : bits .and .u64 (u : Int) 7 = ((u % 8 : Nat) : Int) := by
  show IntKind.u64.wrap ((BitVec.ofInt 64 (u : Int) &&& BitVec.ofInt 64 (7 : Int)).toNat : Int) = _
  rw [BitVec.toNat_and]
  have e1 : (BitVec.ofInt 64 (u : Int)).toNat = u := by rw [BitVec.toNat_ofInt]; omega
  have e2 : (BitVec.ofInt 64 (7 : Int)).toNat = 7 := by rfl
  rw [e1, e2, show (7 : Nat) = 2 ^ 3 - 1 by rfl, Nat.and_two_pow_sub_one_eq_mod, IntKind.wrap_u64]
  omega
set_option maxRecDepth 100000 in
set_option maxHeartbeats 4000000 in
theorem formatBits_calls (v : Nat) (hv : v < 9223372036854775808) (w : World) (h : Tz w) :
    Calls Tryd.prog 54 #[.slice none 0 0, .int .u64 v, .int .i64 8, .bool false, .bool false] w fun e w' => e = .returned (.tuple #[.slice none 0 0, .string (strOfNums (octF 21 v))]) ∧ Below w.heap.size w w' := by
  have HT := Lib.hid h
  have HV := Lib.hid hv
  clear h
  go_enter Tryd.func54, Tryd.ntmps54
  go_wp2_with (first
    | (go_at_call 71; refine (pow2_calls _).mono ?_; rintro e w1 ⟨rfl, rfl⟩)
    | (go_at_call 72; refine (tz_calls _ (HT.out.below (balloc (Below.refl _ _) _))).mono ?_; rintro e w1 ⟨rfl, rfl⟩))
  go_loopw [1, 13] (fun u i wr => ∃ (uu j m : Nat) (ds : List Int), u = .int .u64 uu ∧ i = .int .i64 j ∧ j = 44 + m ∧ m ≤ 21 ∧ 1 ≤ m ∧ ds.length + j = 65 ∧ Hid (uu < 8 ^ m) ∧ Hid (octF m uu ++ ds = octF 21 v) ∧ uu < 9223372036854775808 ∧ Hid (Arr wr w.heap.size j ds) ∧ Hid (Below w.heap.size w wr)) (fun u _ _ => (intOf u).toNat)
  case atStart => exact ⟨v, 65, 21, [], rfl, rfl, rfl, by omega, by omega, rfl, Lib.hid (by have := HV.out; omega), Lib.hid (List.append_nil _), hv, Lib.hid (arr_new w), Lib.hid (balloc (Below.refl _ _) _)⟩
  case round =>
    obtain ⟨uu, j, m, ds, rfl, rfl, hj, hm, hm1, hds, hlt, ho, hu, hA, hB⟩ := hrel
    obtain ⟨j, rfl⟩ : ∃ q, j = q + 1 := ⟨j - 1, by omega⟩
    obtain ⟨z, hz⟩ := hA.out.1 j (by omega)
    have hfz := hA.out.2.1 j
    have HJ := Lib.hid hj
    clear hj
    have hj1 : (j : Int) < 65 := by omega
    by_cases h8 : 8 ≤ uu
    · have E := and7 uu (by omega)
      have hx := hex8 (uu % 8) (by omega)
      have HO := Lib.hid (show m = (m - 1) + 1 by omega)
      go_wp2
      clear hx E hz hfz
      go_roundw
      have hm2 : 2 ≤ m := by
        rcases Nat.lt_or_ge m 2 with h | h
        · obtain rfl : m = 1 := by omega
          have := hlt.out
          omega
        · exact h
      have hp8 := pow8 (m - 1)
      rw [← HO.out] at hp8
      case rel => exact ⟨uu / 8, j, m - 1, (48 + (uu : Int) % 8) :: ds, by rw [Int.natCast_ediv]; rfl, rfl, by have := HJ.out; omega, by omega, by omega, by simp; omega, Lib.hid (by have := hlt.out; omega), Lib.hid (by
        have h1 := ho.out
        rw [HO.out, octF_step (m - 1) uu] at h1
        rw [if_neg (by omega), List.append_assoc] at h1
        rw [← h1]
        congr 2), by omega, Lib.hid (hA.out.set (by omega) _), Lib.hid (hB.out.setCell (Nat.le_refl _) _)⟩
      case measure => simp [intOf]; omega
    · have hx := hex8 uu (by omega)
      have HO := Lib.hid (show m = (m - 1) + 1 by omega)
      have HE := Lib.hid (show ((48 + (uu : Int)) :: ds) = octF 21 v by
        have h1 := ho.out
        rw [HO.out, octF_step (m - 1) uu] at h1
        rw [if_pos (by omega)] at h1
        exact h1)
      have HA2 := Lib.hid (Arr.set hA.out (by omega : j < 65) (48 + (uu : Int)))
      have hn : ((48 + (uu : Int)) :: ds).length = 65 - j := by simp; omega
      have hC := Arr.C HA2.out (by rw [hn]; omega)
      rw [hn] at hC
      have hcv := Kd.C_string (P := Tryd.prog) (w := wr.setCell ⟨w.heap.size, j, none⟩ (.int .u8 (48 + (uu : Int)))) (src := 22) (dst := 9) (c := 65 - j) Tryd.underlying22 Tryd.underlying5 Tryd.underlying9 hC
      rw [HE.out] at hcv
      clear hC hn
      have harr := slice65 w.heap.size j (by omega) (wr.setCell ⟨w.heap.size, j, none⟩ (.int .u8 (48 + (uu : Int))))
      go_wp2
      go_ret2
      exact ⟨rfl, hB.out.setCell (Nat.le_refl _) _⟩
set_option maxHeartbeats 2000000 in
theorem formatInt_in (v : Int) (h0 : 0 ≤ v) (h1 : v < 9223372036854775808) (w : World) (h : Tz w) :
    Calls Tryd.prog 37 #[.int .i64 v, .int .i64 8] w fun e w' => e = .returned (.string (strOfNums (octF 21 v.toNat))) ∧ Below w.heap.size w w' := by
  obtain ⟨n, rfl⟩ := Int.eq_ofNat_of_zero_le h0
  have H := Lib.hid (formatBits_calls n (by omega) w h)
  have hn : n < 9223372036854775808 := by omega
  rw [Int.toNat_natCast]
  clear h
  go_enter Tryd.func37, Tryd.ntmps37
  go_wp2_with (go_at_call 54; refine H.out.mono ?_; rintro e w1 ⟨rfl, hb1⟩)
  go_ret
  exact ⟨rfl, hb1⟩
theorem formatInt_calls (v : Int) (h0 : 0 ≤ v) (h1 : v < 9223372036854775808) (w : World) (h : Tz w) :
    Calls Tryd.prog 19 #[.int .i64 v, .int .i64 8] w fun e w' => e = .returned (.string (strOfNums (octF 21 v.toNat))) ∧ Below w.heap.size w w' := by
  have H := Lib.hid (formatInt_in v h0 h1 w h)
  clear h
  go_enter Tryd.func19, Tryd.ntmps19
  go_wp2_with (go_at_call 37; refine H.out.mono ?_; rintro e w1 ⟨rfl, hb1⟩)
  go_ret
  exact ⟨rfl, hb1⟩
end Go.Proofs.YtfnncfgdlinmcaaDoor.Oct
