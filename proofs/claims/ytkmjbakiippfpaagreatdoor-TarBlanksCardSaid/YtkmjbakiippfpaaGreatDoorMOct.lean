/- OctR, OctF, TarOP, TarON, TarOO put together. -/
import Derived.Test.YtkmjbakiippfpaaGreatDoorMRout
import Derived.Test.YtkmjbakiippfpaaGreatDoorOctShelf
import Derived.Test.YtkmjbakiippfpaaGreatDoorWLast
import Derived.Test.YtkmjbakiippfpaaGreatDoorWMore
import Derived.Lib.Hide
import Derived.Laws.MakeOwn
import Derived.Laws.CopyOwn
import Derived.Deep.RegionLaw
import Derived.Test.YtkmjbakiippfpaaGreatDoorProg
import Derived.Lib.LaidTab
import Derived.Lib.AtoiErrMem
set_option linter.unusedVariables false
set_option linter.unusedSimpArgs false
namespace Go.Proofs.YtkmjbakiippfpaaGreatDoor.Oct
open Go.RowKit Go.BigFrame Go.Lib Go.Proofs.YtkmjbakiippfpaaGreatDoor.Reg Go.Proofs.YtkmjbakiippfpaaGreatDoorW.PrintWords Go.Proofs.YtkmjbakiippfpaaGreatDoorW.PrintLast Go.Proofs.YtkmjbakiippfpaaGreatDoorW.PrintMore
theorem info5 : (Tryz.prog.info? 5).map (fun i => (i.zero, i.size, i.bytes)) = some (some (.int .u8 0), 1, 1) := by kernel_rfl
theorem made_rep (m : Nat) : madeCells (Value.int .u8 0).cells (m * 1) = (List.replicate m (Value.int .u8 0)).toArray := by
  unfold madeCells
  apply Array.ext
  · simp
  · intro i h1 h2
    simp at h1 ⊢
    simp [Value.cells, Nat.mod_one]
theorem run_mk (W : World) (m : Nat) (hm : m ≤ 281474976710656) : (Instr.makeSlice 23 (.int .i64 (m : Int)) (.int .i64 (m : Int))).run Tryz.prog W = .ok (.slice (some ⟨W.heap.size, 0, none⟩) m m) (W.alloc (.cells (List.replicate m (Value.int .u8 0)).toArray 5)) := by
  obtain ⟨i, hi, hzz⟩ := Option.map_eq_some_iff.1 info5
  simp only [Prod.mk.injEq] at hzz
  obtain ⟨hz0, hz1, hz2⟩ := hzz
  have h := run_make (P := Tryz.prog) W 23 5 i (.int .u8 0) Tryz.underlying23 hi hz0 .i64 .i64 (m : Int) (m : Int) (by omega) (by omega) (by rw [hz2]; omega) (by omega)
  rw [Int.toNat_natCast, hz1, made_rep] at h
  exact h
/-- The cells: n are the byte, the others 0. -/
def cellsR (z : Int) (n m : Nat) : List Value := List.replicate n (.int .u8 z) ++ List.replicate (m - n) (.int .u8 0)
theorem cellsR_len (z : Int) (n m : Nat) (h : n ≤ m) : (cellsR z n m).length = m := by unfold cellsR; simp; omega
theorem cellsR_splice (z : Int) (n k m : Nat) (h : n + k ≤ m) : splice (cellsR z n m) n (List.replicate k (.int .u8 z)) = cellsR z (n + k) m := by
  unfold splice cellsR
  rw [List.length_replicate]
  have e1 : (List.replicate n (Value.int .u8 z) ++ List.replicate (m - n) (Value.int .u8 0)).take n = List.replicate n (.int .u8 z) := by
    rw [List.take_append_of_le_length (by simp), List.take_of_length_le (by simp)]
  have e2 : (List.replicate n (Value.int .u8 z) ++ List.replicate (m - n) (Value.int .u8 0)).drop (n + k) = List.replicate (m - (n + k)) (Value.int .u8 0) := by
    rw [List.drop_append, List.drop_of_length_le (by simp), List.nil_append, List.length_replicate, List.drop_replicate]
    congr 1
    omega
  rw [e1, e2, ← List.append_assoc, List.replicate_append_replicate]
theorem cellsR_get (z : Int) (n m j : Nat) (h : j < n) : (cellsR z n m)[j]? = some (.int .u8 z) := by
  unfold cellsR
  rw [List.getElem?_append_left (by simpa using h), List.getElem?_replicate, if_pos h]
theorem copy_one {W : World} {ad : Addr} {m : Nat} {z : Int} (h : W.cell? ad = some (.int .u8 z)) {j : Nat} {v : Value} (hj : (List.replicate (min 1 m) (Value.int .u8 z))[j]? = some v) : W.cell? (ad.add j) = some v := by
  rw [List.getElem?_replicate] at hj
  split at hj
  · rename_i hlt
    obtain rfl : j = 0 := by omega
    obtain rfl := Option.some.inj hj
    have : ad.add 0 = ad := by cases ad; simp [Addr.add]
    rw [this]; exact h
  · cases hj
theorem copy_row {W : World} {B n m : Nat} {z : Int} {T : TypeId} (h : W.heap[B]? = some (.cells (cellsR z n m).toArray T (0, 0))) {j : Nat} {v : Value} (hj : (List.replicate (min n (m - n)) (Value.int .u8 z))[j]? = some v) : W.cell? ((⟨B, 0, none⟩ : Addr).add j) = some v := by
  rw [List.getElem?_replicate] at hj
  split at hj
  · rename_i hlt
    obtain rfl := Option.some.inj hj
    rw [add_plain, blk_cell h, List.getElem?_toArray, cellsR_get z n m j (by omega)]
  · cases hj
theorem wrap_min (n m : Nat) (h : m ≤ 64) (hn : n ≤ m) : IntKind.i64.wrap ((n : Int) + ((min n (m - n) : Nat) : Int)) = ((n + min n (m - n) : Nat) : Int) := by
  rw [IntKind.wrap_i64]; omega
set_option maxRecDepth 100000 in
theorem slice_from (W : World) (B n m : Nat) (h : n < m) : (Instr.slice 23 (.slice (some ⟨B, 0, none⟩) m m) (some (.int .i64 (n : Int))) none none).run Tryz.prog W = .ok (.slice (some ⟨B, n, none⟩) (m - n) (m - n)) W := by
  have hs : (sizeOf (Tryz.prog.elem 23)).run Tryz.prog W = .ok 1 W := by kernel_rfl
  rw [run_slice_l (P := Tryz.prog) W 23 (some ⟨B, 0, none⟩) m m Tryz.underlying23 .i64 (n : Int) (by omega) (by omega), hs]
  simp only [Result.andThen, sliced, Int.toNat_natCast]
  rw [if_neg (by omega)]
  simp only [Option.map_some, Nat.mul_one, add_plain]
set_option maxRecDepth 100000 in
set_option maxHeartbeats 1000000 in
theorem repeat_calls (ad : Addr) (c m : Nat) (z : Int) (hm : m ≤ 64) (w : World) (hx : w.cell? ad = some (.int .u8 z)) :
    Calls Tryz.prog 109 #[.slice (some ad) 1 c, .int .i64 m] w fun e w' => ∃ v, e = .returned v ∧ (Kd.int .u8).R 5 w' w.heap.size (fun _ => True) v (List.replicate m z) ∧ Below w.heap.size w w' := by
  have H1 := Lib.hid (Tryz.bits_Mul 1 m (by omega) (by omega) w)
  rw [show 1 * m / 18446744073709551616 = 0 by omega, show 1 * m % 18446744073709551616 = m by omega] at H1
  have hmk := run_mk w m (by omega)
  have HX := Lib.hid hx
  clear hx
  go_enter Tryz.func109, Tryz.ntmps109
  go_upto_region 7 with (go_at_call 133; refine H1.out.mono ?_; rintro e w1 ⟨rfl, rfl⟩)
  have hsz : (Tryz.prog.info? 5).map (·.size) = some 1 := by kernel_rfl
  have HSZ := Lib.hid hsz
  have HXX := Lib.hid (show (w1.alloc (.cells (Array.replicate m (Value.int .u8 0)) 5)).cell? ad = some (.int .u8 z) from bkeep (balloc (Below.refl _ _) _) HX.out)
  have HG := Lib.hid (show (w1.alloc (.cells (Array.replicate m (Value.int .u8 0)) 5)).heap[w1.heap.size]? = some (.cells (cellsR z 0 m).toArray 5 (0, 0)) by
    have h := heap_alloc_new w1 (.cells (Array.replicate m (Value.int .u8 0)) 5)
    rw [h]
    unfold cellsR
    simp)
  have HBB := Lib.hid (show Below w1.heap.size w1 (w1.alloc (.cells (Array.replicate m (Value.int .u8 0)) 5)) from balloc (Below.refl _ _) _)
  clear hmk hsz
  have hn1 : (List.replicate (min 1 m) (Value.int .u8 z)).length = Nat.min 1 m := by rw [List.length_replicate]
  have hf1 : 0 + (List.replicate (min 1 m) (Value.int .u8 z)).length ≤ (cellsR z 0 m).length := by rw [cellsR_len _ _ _ (by omega), List.length_replicate]; omega
  have ho1 : ∀ v ∈ List.replicate (min 1 m) (Value.int .u8 z), v.oneCell' = true := fun v hv => by rw [List.eq_of_mem_replicate hv]; rfl
  have HN1 := Lib.hid hn1
  have HF1 := Lib.hid hf1
  have HO1 := Lib.hid ho1
  clear hn1 hf1 ho1
  go_wp2_with (with_reducible refine wpList_copy_splice rfl (.tmp 31) (.tmp 32) 23 23 rfl 5 Tryz.underlying23 HSZ.out (some ⟨w1.heap.size, 0, none⟩) (some ad) m m 1 c rfl rfl w1.heap.size 0 (cellsR z 0 m) 5 HG.out (List.replicate (min 1 m) (.int .u8 z)) HN1.out (fun h => ⟨rfl, ad, rfl, fun j v hj => copy_one HXX.out hj⟩) HF1.out HO1.out w1.heap.size w1 HBB.out (Nat.le_refl _) ?_; intro w2 hg2 hb2)
  have HG2 := Lib.hid (show w2.heap[w1.heap.size]? = some (.cells (cellsR z (min 1 m) m).toArray 5 (0, 0)) by
    have h := hg2.out
    have e := cellsR_splice z 0 (min 1 m) m (by omega)
    rw [Nat.zero_add] at e
    rw [e] at h
    exact h)
  have HB2 := Lib.hid hb2
  clear hg2 hb2 HN1 HF1 HO1 HG HXX
  go_loopw [8] (fun v8 wr => ∃ n : Nat, v8 = .int .i64 n ∧ n ≤ m ∧ (0 < n ∨ m = 0) ∧ Hid (wr.heap[w1.heap.size]? = some (.cells (cellsR z n m).toArray 5 (0, 0))) ∧ Hid (Below w1.heap.size w1 wr)) (fun v8 _ => (m - intOf v8).toNat)
  case atStart => exact ⟨min 1 m, rfl, by omega, by omega, HG2, HB2⟩
  case round =>
    clear HG2 HB2
    obtain ⟨n, rfl, hn, hpos, hG, hB⟩ := hrel
    by_cases hlt : n < m
    · have n0 : (0 : Int) ≤ (n : Int) := by omega
      have n1 : (n : Int) ≤ (m : Int) := by omega
      have HPOS := Lib.hid (show 0 < n by omega)
      clear hpos
      have hs1 := fun W => slice_from W w1.heap.size n m hlt
      have hmn : ¬ m = n := by omega
      have HGD := Lib.hid (show wr.drew.heap[w1.heap.size]? = some (.cells (cellsR z n m).toArray 5 (0, 0)) from hG.out)
      have HBD := Lib.hid (show Below w1.heap.size w1 wr.drew from bdrew hB.out)
      have HNN := Lib.hid (show (List.replicate (min n (m - n)) (Value.int .u8 z)).length = Nat.min n (m - n) by rw [List.length_replicate])
      have HFF := Lib.hid (show n + (List.replicate (min n (m - n)) (Value.int .u8 z)).length ≤ (cellsR z n m).length by rw [cellsR_len _ _ _ hn, List.length_replicate]; omega)
      have HOO := Lib.hid (show ∀ v ∈ List.replicate (min n (m - n)) (Value.int .u8 z), v.oneCell' = true from fun v hv => by rw [List.eq_of_mem_replicate hv]; rfl)
      have HPP := Lib.hid (show 0 < (List.replicate (min n (m - n)) (Value.int .u8 z)).length → (some (⟨w1.heap.size, n, none⟩ : Addr)) = some ⟨w1.heap.size, n, none⟩ ∧ ∃ ad, (some (⟨w1.heap.size, 0, none⟩ : Addr)) = some ad ∧ ∀ j v, (List.replicate (min n (m - n)) (Value.int .u8 z))[j]? = some v → wr.drew.cell? (ad.add j) = some v from fun _ => ⟨rfl, _, rfl, fun j v hj => copy_row HGD.out hj⟩)
      go_wp2
      go_region_law (refine step_copy_splice rfl (.tmp 41) (.tmp 44) 23 23 rfl 5 Tryz.underlying23 HSZ.out (some ⟨w1.heap.size, n, none⟩) (some ⟨w1.heap.size, 0, none⟩) (m - n) (m - n) n m (by simp [Act.eval, Act.put, hmn]) (by simp [Act.eval, Act.put]) w1.heap.size n (cellsR z n m) 5 HGD.out (List.replicate (min n (m - n)) (.int .u8 z)) HNN.out (fun h => ⟨rfl, (HPP.out h).2⟩) HFF.out HOO.out w1.heap.size w1 HBD.out (Nat.le_refl _) ?_; intro w4 hg4 hb4)
      have HG4 := Lib.hid (show w4.heap[w1.heap.size]? = some (.cells (cellsR z (n + min n (m - n)) m).toArray 5 (0, 0)) by
        have h := hg4.out
        rw [cellsR_splice z n (min n (m - n)) m (by omega)] at h
        exact h)
      have HB4 := Lib.hid hb4
      have HMIN := Lib.hid (show (List.replicate (min n (m - n)) (Value.int .u8 z)).length = min n (m - n) by rw [List.length_replicate])
      clear hg4 hb4
      go_wp2
      have hw := wrap_min n m (by omega) hn
      rw [hw]
      refine ⟨⟨_, _, _, _, _, _, _, _, _, _, _, _, _, _, ⟨n + min n (m - n), rfl, by omega, by have := HPOS.out; omega, HG4, HB4⟩, rfl⟩, ?_⟩
      have := HPOS.out
      show (m - intOf (.int .i64 ((n + min n (m - n) : Nat) : Int))).toNat < (m - intOf (.int .i64 (n : Int))).toNat
      simp [intOf]
      omega
    · obtain rfl : n = m := by omega
      have HR := Lib.hid (show (Kd.int .u8).R 5 wr w1.heap.size (fun _ => True) (.slice (some ⟨w1.heap.size, 0, none⟩) n n) (List.replicate n z) by
        refine Kd.R_of_own ?_ (fun _ _ => trivial)
        rw [List.length_replicate]
        refine ⟨by simp [encs], .inr ⟨w1.heap.size, n, (cellsR z n n).toArray, rfl, Nat.le_refl _, hG.out, Nat.le_refl _, by unfold maxLen; omega, by simp [cellsR], ?_⟩⟩
        unfold cellsR
        simp [encs])
      go_wp2
      go_ret
      exact ⟨_, rfl, HR.out, hB.out⟩
end Go.Proofs.YtkmjbakiippfpaaGreatDoor.Oct
set_option linter.unusedVariables false
set_option linter.unusedSimpArgs false
namespace Go.Proofs.YtkmjbakiippfpaaGreatDoor.Oct
open Go.RowKit Go.BigFrame Go.Lib Go.Proofs.YtkmjbakiippfpaaGreatDoor.Reg Go.Proofs.YtkmjbakiippfpaaGreatDoorW.PrintWords Go.Proofs.YtkmjbakiippfpaaGreatDoorW.PrintLast Go.Proofs.YtkmjbakiippfpaaGreatDoorW.PrintMore
/-- What the library's table says at the place of 8. -/
def Tz (w : World) : Prop := w.cell? ⟨7, 7, none⟩ = some (.int .u8 3)
theorem Tz.below {w w1 : World} (h : Tz w) (hb : Below w.heap.size w w1) : Tz w1 := bkeep hb h
theorem tz64_calls (w : World) (h : Tz w) : Calls Tryz.prog 152 #[.int .u64 8] w fun e w' => e = .returned (.int .i64 3) ∧ w = w' := by
  unfold Tz at h
  have E : IntKind.u64.wrap (bits BinOp.and IntKind.u64 8 (IntKind.u64.wrap (-8)) * 285870213051353865) / 288230376151711744 = 7 := by kernel_rfl
  go_enter Tryz.func152, Tryz.ntmps152
  go_wp2
  go_ret
  exact ⟨rfl, rfl⟩
theorem tz_calls (w : World) (h : Tz w) : Calls Tryz.prog 145 #[.int .u64 8] w fun e w' => e = .returned (.int .i64 3) ∧ w = w' := by
  have H := Lib.hid (tz64_calls w h)
  clear h
  go_enter Tryz.func145, Tryz.ntmps145
  go_wp2_with (go_at_call 152; refine H.out.mono ?_; rintro e w1 ⟨rfl, rfl⟩)
  go_ret
  exact ⟨rfl, rfl⟩
theorem pow2_calls (w : World) : Calls Tryz.prog 144 #[.int .i64 8] w fun e w' => e = .returned (.bool true) ∧ w = w' := by
  go_enter Tryz.func144, Tryz.ntmps144
  go_wp2
  go_ret
  exact ⟨rfl, rfl⟩
/-- The digits to the base 8. -/
def octF : Nat → Nat → List Int
  | 0, _ => []
  | f + 1, n => if n < 8 then [(48 : Int) + n] else octF f (n / 8) ++ [(48 : Int) + (n % 8 : Nat)]
theorem octF_step (f n : Nat) : octF (f + 1) n = if n < 8 then [(48 : Int) + n] else octF f (n / 8) ++ [(48 : Int) + (n % 8 : Nat)] := rfl
/-- The array, filled from place i on. -/
def Arr (w : World) (B i : Nat) (ds : List Int) : Prop :=
  (∀ j, j < 65 → ∃ z, w.cell? ⟨B, j, none⟩ = some (.int .u8 z)) ∧ (∀ j, w.frozen? ⟨B, j, none⟩ = false) ∧ ∀ q x, ds[q]? = some x → w.cell? ⟨B, i + q, none⟩ = some (.int .u8 x)
theorem zero65 : Tryz.zeroCells171 = Array.replicate 65 (.int .u8 0) := by kernel_rfl
theorem cell_of_blk {w : World} {B j : Nat} {cs : Array Value} {T : TypeId} (h : w.heap[B]? = some (.cells cs T (0, 0))) : w.cell? ⟨B, j, none⟩ = cs[j]? := blk_cell h j
theorem frozen_of_blk {w : World} {B : Nat} {cs : Array Value} {T : TypeId} (h : w.heap[B]? = some (.cells cs T (0, 0))) (j : Nat) : w.frozen? ⟨B, j, none⟩ = false := blk_frozen h j
theorem arr_new (w : World) : Arr (w.alloc (.cells Tryz.zeroCells171 171)) w.heap.size 65 [] := by
  refine ⟨fun j hj => ⟨0, ?_⟩, fun j => ?_, fun q x h => by simp at h⟩
  · have := cell_of_blk (w := w.alloc (.cells Tryz.zeroCells171 171)) (B := w.heap.size) (j := j) (heap_alloc_new w _)
    rw [this, zero65]
    simp [hj]
  · exact frozen_of_blk (heap_alloc_new w _) j
theorem Arr.set {w : World} {B i : Nat} {ds : List Int} (h : Arr w B (i + 1) ds) (hi : i < 65) (z : Int) : Arr (w.setCell ⟨B, i, none⟩ (.int .u8 z)) B i (z :: ds) := by
  obtain ⟨h1, h2, h3⟩ := h
  refine ⟨fun j hj => ?_, fun j => by rw [World.frozen?_setCell]; exact h2 j, fun q x hq => ?_⟩
  · by_cases e : i = j
    · subst e
      obtain ⟨z0, hz0⟩ := h1 i hi
      exact ⟨z, World.cell?_setCell_same (h := hz0) ..⟩
    · obtain ⟨z0, hz0⟩ := h1 j hj
      exact ⟨z0, (World.cell?_setCell_other (h := fun e2 => e (by injection e2)) ..).trans hz0⟩
  · cases q with
    | zero =>
      obtain rfl : z = x := by simpa using hq
      obtain ⟨z0, hz0⟩ := h1 i hi
      exact World.cell?_setCell_same (h := hz0) ..
    | succ q =>
      have := h3 q x (by simpa using hq)
      rw [show i + 1 + q = i + (q + 1) by omega] at this
      exact (World.cell?_setCell_other (h := fun e2 => by injection e2; omega) ..).trans this
theorem Arr.C {w : World} {B i : Nat} {ds : List Int} (h : Arr w B i ds) (hl : ds.length ≤ 65) : (Kd.int .u8).C w (some ⟨B, i, none⟩) ds.length ds := by
  refine ⟨rfl, by omega, fun _ => ⟨⟨B, i, none⟩, rfl, fun j p hj => ⟨[.int .u8 p], rfl, rfl, fun q u hq => ?_⟩⟩⟩
  cases q with
  | zero =>
    obtain rfl : Value.int .u8 p = u := by simpa using hq
    have := h.2.2 j p hj
    simp only [Addr.add]
    split
    · rename_i hz
      have hz2 : j = 0 := by
        have : j * 1 + 0 = 0 := hz
        omega
      subst hz2
      exact this
    · have e : j * (Kd.int .u8).sz + 0 = j := by show j * 1 + 0 = j; omega
      rw [e]
      exact this
  | succ q => simp at hq
theorem slice65 (B j : Nat) (hj : j < 65) (W : World) : (Instr.sliceAt 171 (.pointer (some ⟨B, 0, none⟩)) (some (.int .i64 (j : Int))) none none).run Tryz.prog W = .ok (.slice (some ⟨B, j, none⟩) (65 - j) (65 - j)) W := by
  have hL : Tryz.prog.arrayLen 171 = 65 := by kernel_rfl
  have hs : (sizeOf (Tryz.prog.elem 171)).run Tryz.prog W = .ok 1 W := by kernel_rfl
  rw [run_sliceAt_array_l (P := Tryz.prog) W 171 ⟨B, 0, none⟩ (by kernel_rfl) .i64 (j : Int) (by omega) (by rw [hL]; omega), hs]
  simp only [Result.andThen, slicedAt, hL, Int.toNat_natCast]
  rw [if_neg (by omega), Nat.mul_one, add_plain]
theorem pow8 (m : Nat) : 8 ^ (m + 1) = 8 * 8 ^ m := by rw [Nat.pow_succ]; omega
theorem hex8 (r : Nat) (h : r < 8) (hp : r < (⟨#[48, 49, 50, 51, 52, 53, 54, 55, 56, 57, 97, 98, 99, 100, 101, 102, 103, 104, 105, 106, 107, 108, 109, 110, 111, 112, 113, 114, 115, 116, 117, 118, 119, 120, 121, 122]⟩ : ByteArray).size) : ((⟨#[48, 49, 50, 51, 52, 53, 54, 55, 56, 57, 97, 98, 99, 100, 101, 102, 103, 104, 105, 106, 107, 108, 109, 110, 111, 112, 113, 114, 115, 116, 117, 118, 119, 120, 121, 122]⟩ : ByteArray)[r]'hp).toNat = 48 + r := by
  match r, h with
  | 0, _ => rfl
  | 1, _ => rfl
  | 2, _ => rfl
  | 3, _ => rfl
  | 4, _ => rfl
  | 5, _ => rfl
  | 6, _ => rfl
  | 7, _ => rfl
theorem and7 (u : Nat) (h : u < 18446744073709551616) : bits .and .u64 (u : Int) 7 = ((u % 8 : Nat) : Int) := by
  show IntKind.u64.wrap ((BitVec.ofInt 64 (u : Int) &&& BitVec.ofInt 64 (7 : Int)).toNat : Int) = _
  rw [BitVec.toNat_and]
  have e1 : (BitVec.ofInt 64 (u : Int)).toNat = u := by rw [BitVec.toNat_ofInt]; omega
  have e2 : (BitVec.ofInt 64 (7 : Int)).toNat = 7 := by rfl
  rw [e1, e2, show (7 : Nat) = 2 ^ 3 - 1 by rfl, Nat.and_two_pow_sub_one_eq_mod, IntKind.wrap_u64]
  omega
set_option maxRecDepth 100000 in
set_option maxHeartbeats 4000000 in
theorem formatBits_calls (v : Nat) (hv : v < 9223372036854775808) (w : World) (h : Tz w) :
    Calls Tryz.prog 132 #[.slice none 0 0, .int .u64 v, .int .i64 8, .bool false, .bool false] w fun e w' => e = .returned (.tuple #[.slice none 0 0, .string (strOfNums (octF 21 v))]) ∧ Below w.heap.size w w' := by
  have HT := Lib.hid h
  have HV := Lib.hid hv
  clear h
  go_enter Tryz.func132, Tryz.ntmps132
  go_wp2_with (first
    | (go_at_call 144; refine (pow2_calls _).mono ?_; rintro e w1 ⟨rfl, rfl⟩)
    | (go_at_call 145; refine (tz_calls _ (HT.out.below (balloc (Below.refl _ _) _))).mono ?_; rintro e w1 ⟨rfl, rfl⟩))
  go_loopw [1, 13] (fun u i wr => ∃ (uu j m : Nat) (ds : List Int), u = .int .u64 uu ∧ i = .int .i64 j ∧ j = 44 + m ∧ m ≤ 21 ∧ 1 ≤ m ∧ ds.length + j = 65 ∧ Hid (uu < 8 ^ m) ∧ Hid (octF m uu ++ ds = octF 21 v) ∧ uu < 9223372036854775808 ∧ Hid (Arr wr w.heap.size j ds) ∧ Hid (Below w.heap.size w wr)) (fun u _ _ => (intOf u).toNat)
  case atStart => exact ⟨v, 65, 21, [], rfl, rfl, rfl, by omega, by omega, rfl, Lib.hid (by have := HV.out; omega), Lib.hid (List.append_nil _), hv, Lib.hid (arr_new w), Lib.hid (balloc (Below.refl _ _) _)⟩
  case round =>
    obtain ⟨uu, j, m, ds, rfl, rfl, hj, hm, hm1, hds, hlt, ho, hu, hA, hB⟩ := hrel
    obtain ⟨j, rfl⟩ : ∃ q, j = q + 1 := ⟨j - 1, by omega⟩
    obtain ⟨z, hz⟩ := hA.out.1 j (by omega)
    have hfz := hA.out.2.1 j
    have HJ := Lib.hid hj
    clear hj
    have hj1 : (j : Int) < 65 := by omega
    by_cases h8 : 8 ≤ uu
    · have E := and7 uu (by omega)
      have hx := hex8 (uu % 8) (by omega)
      have HO := Lib.hid (show m = (m - 1) + 1 by omega)
      go_wp2
      clear hx E hz hfz
      go_roundw
      have hm2 : 2 ≤ m := by
        rcases Nat.lt_or_ge m 2 with h | h
        · obtain rfl : m = 1 := by omega
          have := hlt.out
          omega
        · exact h
      have hp8 := pow8 (m - 1)
      rw [← HO.out] at hp8
      case rel => exact ⟨uu / 8, j, m - 1, (48 + (uu : Int) % 8) :: ds, by rw [Int.natCast_ediv]; rfl, rfl, by have := HJ.out; omega, by omega, by omega, by simp; omega, Lib.hid (by have := hlt.out; omega), Lib.hid (by
        have h1 := ho.out
        rw [HO.out, octF_step (m - 1) uu] at h1
        rw [if_neg (by omega), List.append_assoc] at h1
        rw [← h1]
        congr 2), by omega, Lib.hid (hA.out.set (by omega) _), Lib.hid (hB.out.setCell (Nat.le_refl _) _)⟩
      case measure => simp [intOf]; omega
    · have hx := hex8 uu (by omega)
      have HO := Lib.hid (show m = (m - 1) + 1 by omega)
      have HE := Lib.hid (show ((48 + (uu : Int)) :: ds) = octF 21 v by
        have h1 := ho.out
        rw [HO.out, octF_step (m - 1) uu] at h1
        rw [if_pos (by omega)] at h1
        exact h1)
      have HA2 := Lib.hid (Arr.set hA.out (by omega : j < 65) (48 + (uu : Int)))
      have hn : ((48 + (uu : Int)) :: ds).length = 65 - j := by simp; omega
      have hC := Arr.C HA2.out (by rw [hn]; omega)
      rw [hn] at hC
      have hcv := Kd.C_string (P := Tryz.prog) (w := wr.setCell ⟨w.heap.size, j, none⟩ (.int .u8 (48 + (uu : Int)))) (src := 23) (dst := 9) (c := 65 - j) Tryz.underlying23 Tryz.underlying5 Tryz.underlying9 hC
      rw [HE.out] at hcv
      clear hC hn
      have harr := slice65 w.heap.size j (by omega) (wr.setCell ⟨w.heap.size, j, none⟩ (.int .u8 (48 + (uu : Int))))
      go_wp2
      go_ret2
      exact ⟨rfl, hB.out.setCell (Nat.le_refl _) _⟩
set_option maxHeartbeats 2000000 in
theorem formatInt_in (v : Int) (h0 : 0 ≤ v) (h1 : v < 9223372036854775808) (w : World) (h : Tz w) :
    Calls Tryz.prog 107 #[.int .i64 v, .int .i64 8] w fun e w' => e = .returned (.string (strOfNums (octF 21 v.toNat))) ∧ Below w.heap.size w w' := by
  obtain ⟨n, rfl⟩ := Int.eq_ofNat_of_zero_le h0
  have H := Lib.hid (formatBits_calls n (by omega) w h)
  have hn : n < 9223372036854775808 := by omega
  rw [Int.toNat_natCast]
  clear h
  go_enter Tryz.func107, Tryz.ntmps107
  go_wp2_with (go_at_call 132; refine H.out.mono ?_; rintro e w1 ⟨rfl, hb1⟩)
  go_ret
  exact ⟨rfl, hb1⟩
theorem formatInt_calls (v : Int) (h0 : 0 ≤ v) (h1 : v < 9223372036854775808) (w : World) (h : Tz w) :
    Calls Tryz.prog 108 #[.int .i64 v, .int .i64 8] w fun e w' => e = .returned (.string (strOfNums (octF 21 v.toNat))) ∧ Below w.heap.size w w' := by
  have H := Lib.hid (formatInt_in v h0 h1 w h)
  clear h
  go_enter Tryz.func108, Tryz.ntmps108
  go_wp2_with (go_at_call 107; refine H.out.mono ?_; rintro e w1 ⟨rfl, hb1⟩)
  go_ret
  exact ⟨rfl, hb1⟩
end Go.Proofs.YtkmjbakiippfpaaGreatDoor.Oct
set_option linter.unusedVariables false
set_option linter.unusedSimpArgs false
namespace Go.Proofs.YtkmjbakiippfpaaGreatDoor.Oct
open Go.RowKit Go.BigFrame Go.Proofs.YtkmjbakiippfpaaGreatDoor.Reg Go.Proofs.YtkmjbakiippfpaaGreatDoorW.PrintWords Go.Proofs.YtkmjbakiippfpaaGreatDoorW.PrintLast Go.Proofs.YtkmjbakiippfpaaGreatDoorW.PrintMore
/-! ### plain -/
theorem octF_dig : ∀ (f n : Nat), ∀ b ∈ octF f n, 48 ≤ b ∧ b ≤ 55
  | 0, n, b, h => absurd h (by simp [octF])
  | f + 1, n, b, h => by
    rw [octF_step] at h
    split at h
    · obtain rfl := List.mem_singleton.1 h
      omega
    · rcases List.mem_append.1 h with h | h
      · exact octF_dig f _ b h
      · obtain rfl := List.mem_singleton.1 h
        omega
theorem octF_pos (f n : Nat) : 1 ≤ (octF (f + 1) n).length ∧ (octF (f + 1) n).length ≤ f + 1 := by
  induction f generalizing n with
  | zero =>
    rw [octF_step]
    split
    · simp
    · simp [octF]
  | succ f ih =>
    rw [octF_step]
    split
    · simp
    · have := ih (n / 8)
      rw [List.length_append, List.length_singleton]
      omega
theorem bytes_back (xs : List Int) (h : ∀ b ∈ xs, 0 ≤ b ∧ b ≤ 255) : bytesOf (strOfNums xs) = xs := by
  unfold bytesOf
  rw [strOfNums_data, List.map_map]
  conv => rhs; rw [← List.map_id xs]
  refine List.map_congr_left (fun b hb => ?_)
  have := h b hb
  show ((UInt8.ofNat b.toNat).toNat : Int) = b
  simp
  omega
def digs (v : Int) : List Int := octF 21 v.toNat
def octP (v n : Int) : List Int × Int :=
  if n < 2 ∨ 64 < n ∨ v < 0 then ([], 2) else if n - 1 < (digs v).length then ([], 3) else (List.replicate (n.toNat - 1 - (digs v).length) 48 ++ digs v ++ [0], 0)
/-! ### the walk -/
def OctPost (v n : Int) (w : World) (e : Ending) (w' : World) : Prop := ∃ x, e = .returned (.tuple #[x, .int .i64 (octP v n).2]) ∧ (Kd.int .u8).R 5 w' w.heap.size (fun _ => True) x (octP v n).1 ∧ Below w.heap.size w w'
theorem opost_none {v n k : Int} {w w' : World} (h : octP v n = ([], k)) (hb : Below w.heap.size w w') : OctPost v n w (.returned (.tuple #[.slice none 0 0, .int .i64 k])) w' := by
  unfold OctPost
  rw [h]
  exact ⟨_, rfl, Kd.R_nil _ _ _ _ _, hb⟩
set_option maxRecDepth 100000 in
set_option maxHeartbeats 4000000 in
theorem putOctal_calls (v n : Int) (hv : v ≤ 9223372036854775807) (w : World) (h : Tz w) :
    Calls Tryz.prog 77 #[.int .i64 v, .int .i64 n] w (OctPost v n w) := by
  by_cases ho : n < 2 ∨ 64 < n ∨ v < 0
  · have hE := Lib.hid (show octP v n = ([], 2) by unfold octP; rw [if_pos ho])
    clear h
    by_cases h1 : n < 2
    · clear ho
      go_enter Tryz.func77, Tryz.ntmps77
      go_wp2
      go_ret2
      exact opost_none hE.out (Below.refl _ _)
    by_cases h2 : 64 < n
    · clear ho
      go_enter Tryz.func77, Tryz.ntmps77
      go_wp2
      go_ret2
      exact opost_none hE.out (Below.refl _ _)
    have h3 : v < 0 := by omega
    clear ho
    go_enter Tryz.func77, Tryz.ntmps77
    go_wp2
    go_ret2
    exact opost_none hE.out (Below.refl _ _)
  have HP := Lib.hid (show octP v n = if n - 1 < (digs v).length then ([], 3) else (List.replicate (n.toNat - 1 - (digs v).length) 48 ++ digs v ++ [0], 0) by unfold octP; rw [if_neg ho])
  have HF := Lib.hid (show Calls Tryz.prog 108 #[.int .i64 v, .int .i64 8] w _ from formatInt_calls v (by omega) (by omega) w h)
  have hdb := bytes_back (digs v) (fun b hb => by have := octF_dig 21 v.toNat b hb; omega)
  have hlen := octF_pos 20 v.toNat
  have hsz := strOfNums_size (digs v)
  have hd : digs v = octF 21 v.toNat := rfl
  rw [← hd] at HF hlen
  clear h hd
  generalize digs v = D at *
  have HSZ := Lib.hid hsz
  have HDB := Lib.hid hdb
  clear hsz hdb
  have hn2 : 2 ≤ n := by omega
  have hn64 : n ≤ 64 := by omega
  have hv0 : 0 ≤ v := by omega
  clear ho
  go_enter Tryz.func77, Tryz.ntmps77
  go_upto_region 4 with (go_at_call 108; refine HF.out.mono ?_; rintro e w1 ⟨rfl, hb1⟩; have HB1 := Lib.hid hb1; clear hb1)
  generalize strOfNums D = s at *
  by_cases hbig : n - 1 < (D.length : Int)
  · have hE := Lib.hid (show octP v n = ([], 3) by rw [HP.out, if_pos hbig])
    have hb2 : n - 1 < (s.size : Int) := by have := HSZ.out; omega
    clear hbig HP
    go_wp2
    go_ret2
    exact opost_none hE.out HB1.out
  · have hE := Lib.hid (show octP v n = (List.replicate (n.toNat - 1 - D.length) 48 ++ D ++ [0], 0) by rw [HP.out, if_neg hbig])
    have hb2 : ¬ n - 1 < (s.size : Int) := by have := HSZ.out; omega
    clear hbig HP
    obtain ⟨m, hm⟩ : ∃ m : Nat, n - 1 - (s.size : Int) = (m : Int) := ⟨(n - 1 - (s.size : Int)).toNat, by have := HSZ.out; omega⟩
    have HM := Lib.hid (show n.toNat - 1 - D.length = m by have := HSZ.out; omega)
    have hm64 : m ≤ 62 := by have := HSZ.out; omega
    have HR := Lib.hid (repeat_calls ⟨w1.heap.size, 0, none⟩ 1 m 48 (by omega) (w1.alloc (.cells #[.int .u8 48] 5)) (by simp))
    have HBA := Lib.hid (show Below w.heap.size w (w1.alloc (.cells #[.int .u8 48] 5)) from balloc HB1.out _)
    have HDL := Lib.hid hlen
    clear hlen
    go_upto_region 7 with (go_at_call 109; with_reducible refine HR.out.mono ?_; rintro e w2 ⟨x, rfl, hR2, hb2⟩; have HR2 := Lib.hid (Kd.R_lower hR2 HBA.out.size); have HB2 := Lib.hid (bgo HBA.out hb2); clear hR2 hb2)
    have HO2 := Lib.hid (show w2.ownsRow w.heap.size 5 1 x (List.replicate m (48 : Int)).length (nums .u8 (List.replicate m 48)) from Kd.own_of_R HR2.out)
    clear HR HR2
    go_wp2_with (first
      | (at_builtin; refine print_append_str w.heap.size rfl (.tmp 32) (.tmp 33) 23 9 5 rfl Tryz.underlying23 Tryz.underlying9 info5 x (List.replicate m 48) s rfl rfl HO2.out HB2.out HB2.out.size (by have := HSZ.out; have := HDL.out; rw [List.length_replicate]; omega) ?_; intro x3 w3 hown3 hb3 hg3; have HR3 := Lib.hid (show (Kd.int .u8).R 5 w3 w.heap.size (fun _ => True) x3 (List.replicate m 48 ++ bytesOf s) from Kd.R_of_own hown3 (fun _ _ => trivial)); have HB3 := Lib.hid hb3; clear hown3 hb3 hg3)
      | (at_builtin; refine Kd.R_append (Kd.int .u8) (w0 := w) w.heap.size rfl (.tmp 34) (.tmp 35) 23 5 (.int .u8 0) 1 rfl Tryz.underlying23 info5 rfl (show 0 < 1 by decide) (by omega) x3 (List.replicate m 48 ++ bytesOf s) (0 : Int) [.int .u8 0] (fun _ => True) (fun _ => False) rfl rfl rfl (fun _ h => h.elim) (fun _ _ => trivial) HR3.out HB3.out HB3.out.size (by have := HDB.out; have := HDL.out; rw [HDB.out, List.length_append, List.length_replicate]; omega) ?_; intro x4 w4 hR4 hb4 hg4 hat4; have HR4 := Lib.hid hR4; have HB4 := Lib.hid hb4; clear hR4 hb4 hg4 hat4))
    go_ret2
    refine ⟨_, by rw [hE.out]; rfl, ?_, HB4.out⟩
    rw [hE.out, HM.out]
    have h := HR4.out
    rw [HDB.out] at h
    exact h
end Go.Proofs.YtkmjbakiippfpaaGreatDoor.Oct
set_option linter.unusedVariables false
set_option linter.unusedSimpArgs false
namespace Go.Proofs.YtkmjbakiippfpaaGreatDoor.Oct
open Go.RowKit Go.BigFrame Go.Proofs.YtkmjbakiippfpaaGreatDoor.Reg Go.Proofs.YtkmjbakiippfpaaGreatDoorW.PrintWords Go.Proofs.YtkmjbakiippfpaaGreatDoorW.PrintLast Go.Proofs.YtkmjbakiippfpaaGreatDoorW.PrintMore
/-- The three questions. -/
def isQ (q : Nat) (x : Int) : Bool := if q = 0 then x == 32 else if q = 1 then decide (48 ≤ x) && decide (x ≤ 55) else (x == 0) || (x == 32)
theorem q0_calls (x : Int) (w : World) : Calls Tryz.prog 89 #[.int .u8 x] w fun e w' => e = .returned (.bool (isQ 0 x)) ∧ w = w' := by
  have HE := Lib.hid (show isQ 0 x = (x == 32) from rfl)
  go_enter Tryz.func89, Tryz.ntmps89
  go_wp2
  go_ret
  exact ⟨by rw [HE.out]; rfl, rfl⟩
theorem q1_calls (x : Int) (w : World) : Calls Tryz.prog 90 #[.int .u8 x] w fun e w' => e = .returned (.bool (isQ 1 x)) ∧ w = w' := by
  have HE := Lib.hid (show isQ 1 x = (decide (48 ≤ x) && decide (x ≤ 55)) from rfl)
  by_cases h : 48 ≤ x
  · go_enter Tryz.func90, Tryz.ntmps90
    go_wp2
    go_ret
    exact ⟨by rw [HE.out, decide_eq_true h, Bool.true_and]; rfl, rfl⟩
  · go_enter Tryz.func90, Tryz.ntmps90
    go_wp2
    go_ret
    exact ⟨by rw [HE.out, decide_eq_false (by omega), Bool.false_and]; rfl, rfl⟩
theorem q2_calls (x : Int) (w : World) : Calls Tryz.prog 91 #[.int .u8 x] w fun e w' => e = .returned (.bool (isQ 2 x)) ∧ w = w' := by
  have HE := Lib.hid (show isQ 2 x = ((x == 0) || (x == 32)) from rfl)
  cases h : (x == 0)
  · go_enter Tryz.func91, Tryz.ntmps91
    go_wp2
    go_ret
    exact ⟨by rw [HE.out, h, Bool.false_or]; rfl, rfl⟩
  · go_enter Tryz.func91, Tryz.ntmps91
    go_wp2
    go_ret
    exact ⟨by rw [HE.out, h, Bool.true_or]; rfl, rfl⟩
/-! ### plain -/
def runL (q : Nat) (xs : List Int) : Nat := (xs.takeWhile (isQ q)).length
def idxL (q : Nat) (xs : List Int) : Int := if runL q xs = xs.length then -1 else (runL q xs : Int)
theorem runL_le (q : Nat) (xs : List Int) : runL q xs ≤ xs.length := by
  unfold runL
  induction xs with
  | nil => simp
  | cons x xs ih => rw [List.takeWhile_cons]; split <;> simp; exact ih
theorem idx_at (q : Nat) (xs : List Int) (n : Nat) (h : runL q xs = n) (hn : n < xs.length) : idxL q xs = n := by
  unfold idxL
  rw [h, if_neg (by omega)]
theorem idx_none (q : Nat) (xs : List Int) (h : runL q xs = xs.length) : idxL q xs = -1 := by
  unfold idxL
  rw [if_pos h]
theorem run_cons (q : Nat) (x : Int) (xs : List Int) : runL q (x :: xs) = if isQ q x then runL q xs + 1 else 0 := by
  unfold runL
  rw [List.takeWhile_cons]
  split <;> simp
theorem run_both (q : Nat) (xs : List Int) (k : Nat) (h : k ≤ runL q xs) (hk : k < xs.length) : (isQ q (rd xs (k : Int)) = true → k + 1 ≤ runL q xs) ∧ (isQ q (rd xs (k : Int)) = false → runL q xs = k) := by
  induction xs generalizing k with
  | nil => simp at hk
  | cons x xs ih =>
    rw [run_cons] at h ⊢
    cases k with
    | zero =>
      have : rd (x :: xs) ((0 : Nat) : Int) = x := rfl
      rw [this]
      constructor
      · intro h; rw [if_pos h]; omega
      · intro h; rw [if_neg (by simp [h])]
    | succ k =>
      have : rd (x :: xs) ((k + 1 : Nat) : Int) = rd xs (k : Int) := by
        unfold rd
        rw [Int.toNat_natCast, Int.toNat_natCast]
        simp
      rw [this]
      split at h
      · have := ih k (by omega) (by simpa using hk)
        rw [if_pos (by assumption)]
        exact ⟨fun h => by have := this.1 h; omega, fun h => by have := this.2 h; omega⟩
      · omega
theorem run_more (q : Nat) (xs : List Int) (k : Nat) (h : k ≤ runL q xs) (hk : k < xs.length) : isQ q (rd xs (k : Int)) = true → k + 1 ≤ runL q xs := (run_both q xs k h hk).1
theorem run_stop (q : Nat) (xs : List Int) (k : Nat) (h : k ≤ runL q xs) (hk : k < xs.length) : isQ q (rd xs (k : Int)) = false → runL q xs = k := (run_both q xs k h hk).2
/-! ### the runs -/
theorem not0_calls (x : Int) (p : Addr) (w : World) (hc : w.cell? p = some (.func (.func 89) #[] #[])) :
    Calls Tryz.prog 117 #[.int .u8 x, .pointer (some p)] w fun e w' => e = .returned (.bool (!isQ 0 x)) ∧ w = w' := by
  go_enter Tryz.func117, Tryz.ntmps117
  go_wp2_with fail
  refine (q0_calls x _).mono ?_
  rintro e w' ⟨rfl, rfl⟩
  obtain ⟨t, ht⟩ : ∃ t, isQ 0 x = t := ⟨_, rfl⟩
  rw [ht]
  have HT := Lib.hid ht
  clear ht
  go_wp2
  go_ret
  exact ⟨by rw [HT.out]; rfl, rfl⟩
set_option maxHeartbeats 1000000 in
theorem index0_calls (A : Option Addr) (c : Nat) (xs : List Int) (p : Addr) (w : World) (hC : (Kd.int .u8).C w A xs.length xs) (hl : xs.length ≤ 140737488355328) (hc : w.cell? p = some (.func (.func 89) #[] #[])) :
    Calls Tryz.prog 116 #[.slice A xs.length c, .func (.func 117) #[] #[.pointer (some p)]] w fun e w' => e = .returned (.int .i64 (idxL 0 xs)) ∧ w = w' := by
  have HC := Lib.hid hC
  have HP := Lib.hid hc
  have HI : Hid (∀ n : Nat, runL 0 xs = n → n < xs.length → idxL 0 xs = n) := Lib.hid (idx_at 0 xs)
  have HN : Hid (runL 0 xs = xs.length → idxL 0 xs = -1) := Lib.hid (idx_none 0 xs)
  have HL := Lib.hid (runL_le 0 xs)
  clear hC hc
  go_enter Tryz.func116, Tryz.ntmps116
  go_wp2
  go_loopw [8] (fun j wr => ∃ k : Nat, Hid (k ≤ runL 0 xs) ∧ k ≤ xs.length ∧ j = .int .i64 k ∧ w = wr) (fun j _ => xs.length - (intOf j).toNat)
  case atStart => exact ⟨0, Lib.hid (by omega), by omega, rfl, rfl⟩
  case round =>
    obtain ⟨k, hk, hkl, rfl, rfl⟩ := hrel
    by_cases hkk : k < xs.length
    · obtain ⟨ad, hA, hx⟩ := Kd.at_int HC.out (k : Int) (by omega) (by omega)
      subst hA
      rw [Int.toNat_natCast] at hx
      have HT := Lib.hid (run_more 0 xs k hk.out hkk)
      have HF := Lib.hid (run_stop 0 xs k hk.out hkk)
      generalize rd xs (k : Int) = z at *
      go_wp2_with fail
      refine (not0_calls z p _ HP.out).mono ?_
      rintro e w' ⟨rfl, rfl⟩
      cases hz : isQ 0 z
      · have HI2 := Lib.hid (HI.out k (HF.out hz) hkk)
        clear hz
        go_wp2
        go_ret
        exact ⟨by rw [HI2.out]; rfl, rfl⟩
      · have HK2 := Lib.hid (HT.out hz)
        clear hz
        go_wp2
        go_roundw
        case rel => exact ⟨k + 1, HK2, by omega, by go_num, trivial⟩
        case measure => simp [intOf]; omega
    · have HE := Lib.hid (HN.out (by have h1 := HL.out; have h2 := hk.out; omega))
      go_wp2
      go_ret
      exact ⟨by rw [HE.out]; rfl, rfl⟩
set_option maxHeartbeats 1000000 in
theorem run0_calls (A : Option Addr) (c : Nat) (xs : List Int) (w : World) (hC : (Kd.int .u8).C w A xs.length xs) (hl : xs.length ≤ 140737488355328) :
    Calls Tryz.prog 88 #[.slice A xs.length c, .func (.func 89) #[] #[]] w fun e w' => e = .returned (.int .i64 (runL 0 xs)) ∧ Below w.heap.size w w' := by
  have HC := Lib.hid hC
  clear hC
  have HL := Lib.hid (runL_le 0 xs)
  by_cases hr : runL 0 xs = xs.length
  · have HN := Lib.hid (idx_none 0 xs hr)
    have HR := Lib.hid hr
    clear hr
    go_enter Tryz.func88, Tryz.ntmps88
    go_wp2_with (go_at_call 116; refine (index0_calls A c xs _ _ (Kd.C_below HC.out (balloc (Below.refl _ _) _)) hl (by simp)).mono ?_; rintro e w' ⟨rfl, rfl⟩; rw [HN.out])
    go_ret
    exact ⟨by rw [HR.out]; rfl, balloc (Below.refl _ _) _⟩
  · have HN := Lib.hid (idx_at 0 xs _ rfl (by have := HL.out; omega))
    have HR := Lib.hid hr
    clear hr
    generalize runL 0 xs = n at *
    go_enter Tryz.func88, Tryz.ntmps88
    go_wp2_with (go_at_call 116; refine (index0_calls A c xs _ _ (Kd.C_below HC.out (balloc (Below.refl _ _) _)) hl (by simp)).mono ?_; rintro e w' ⟨rfl, rfl⟩; rw [HN.out])
    go_ret
    exact ⟨rfl, balloc (Below.refl _ _) _⟩
theorem not1_calls (x : Int) (p : Addr) (w : World) (hc : w.cell? p = some (.func (.func 90) #[] #[])) :
    Calls Tryz.prog 117 #[.int .u8 x, .pointer (some p)] w fun e w' => e = .returned (.bool (!isQ 1 x)) ∧ w = w' := by
  go_enter Tryz.func117, Tryz.ntmps117
  go_wp2_with fail
  refine (q1_calls x _).mono ?_
  rintro e w' ⟨rfl, rfl⟩
  obtain ⟨t, ht⟩ : ∃ t, isQ 1 x = t := ⟨_, rfl⟩
  rw [ht]
  have HT := Lib.hid ht
  clear ht
  go_wp2
  go_ret
  exact ⟨by rw [HT.out]; rfl, rfl⟩
set_option maxHeartbeats 1000000 in
theorem index1_calls (A : Option Addr) (c : Nat) (xs : List Int) (p : Addr) (w : World) (hC : (Kd.int .u8).C w A xs.length xs) (hl : xs.length ≤ 140737488355328) (hc : w.cell? p = some (.func (.func 90) #[] #[])) :
    Calls Tryz.prog 116 #[.slice A xs.length c, .func (.func 117) #[] #[.pointer (some p)]] w fun e w' => e = .returned (.int .i64 (idxL 1 xs)) ∧ w = w' := by
  have HC := Lib.hid hC
  have HP := Lib.hid hc
  have HI : Hid (∀ n : Nat, runL 1 xs = n → n < xs.length → idxL 1 xs = n) := Lib.hid (idx_at 1 xs)
  have HN : Hid (runL 1 xs = xs.length → idxL 1 xs = -1) := Lib.hid (idx_none 1 xs)
  have HL := Lib.hid (runL_le 1 xs)
  clear hC hc
  go_enter Tryz.func116, Tryz.ntmps116
  go_wp2
  go_loopw [8] (fun j wr => ∃ k : Nat, Hid (k ≤ runL 1 xs) ∧ k ≤ xs.length ∧ j = .int .i64 k ∧ w = wr) (fun j _ => xs.length - (intOf j).toNat)
  case atStart => exact ⟨0, Lib.hid (by omega), by omega, rfl, rfl⟩
  case round =>
    obtain ⟨k, hk, hkl, rfl, rfl⟩ := hrel
    by_cases hkk : k < xs.length
    · obtain ⟨ad, hA, hx⟩ := Kd.at_int HC.out (k : Int) (by omega) (by omega)
      subst hA
      rw [Int.toNat_natCast] at hx
      have HT := Lib.hid (run_more 1 xs k hk.out hkk)
      have HF := Lib.hid (run_stop 1 xs k hk.out hkk)
      generalize rd xs (k : Int) = z at *
      go_wp2_with fail
      refine (not1_calls z p _ HP.out).mono ?_
      rintro e w' ⟨rfl, rfl⟩
      cases hz : isQ 1 z
      · have HI2 := Lib.hid (HI.out k (HF.out hz) hkk)
        clear hz
        go_wp2
        go_ret
        exact ⟨by rw [HI2.out]; rfl, rfl⟩
      · have HK2 := Lib.hid (HT.out hz)
        clear hz
        go_wp2
        go_roundw
        case rel => exact ⟨k + 1, HK2, by omega, by go_num, trivial⟩
        case measure => simp [intOf]; omega
    · have HE := Lib.hid (HN.out (by have h1 := HL.out; have h2 := hk.out; omega))
      go_wp2
      go_ret
      exact ⟨by rw [HE.out]; rfl, rfl⟩
set_option maxHeartbeats 1000000 in
theorem run1_calls (A : Option Addr) (c : Nat) (xs : List Int) (w : World) (hC : (Kd.int .u8).C w A xs.length xs) (hl : xs.length ≤ 140737488355328) :
    Calls Tryz.prog 88 #[.slice A xs.length c, .func (.func 90) #[] #[]] w fun e w' => e = .returned (.int .i64 (runL 1 xs)) ∧ Below w.heap.size w w' := by
  have HC := Lib.hid hC
  clear hC
  have HL := Lib.hid (runL_le 1 xs)
  by_cases hr : runL 1 xs = xs.length
  · have HN := Lib.hid (idx_none 1 xs hr)
    have HR := Lib.hid hr
    clear hr
    go_enter Tryz.func88, Tryz.ntmps88
    go_wp2_with (go_at_call 116; refine (index1_calls A c xs _ _ (Kd.C_below HC.out (balloc (Below.refl _ _) _)) hl (by simp)).mono ?_; rintro e w' ⟨rfl, rfl⟩; rw [HN.out])
    go_ret
    exact ⟨by rw [HR.out]; rfl, balloc (Below.refl _ _) _⟩
  · have HN := Lib.hid (idx_at 1 xs _ rfl (by have := HL.out; omega))
    have HR := Lib.hid hr
    clear hr
    generalize runL 1 xs = n at *
    go_enter Tryz.func88, Tryz.ntmps88
    go_wp2_with (go_at_call 116; refine (index1_calls A c xs _ _ (Kd.C_below HC.out (balloc (Below.refl _ _) _)) hl (by simp)).mono ?_; rintro e w' ⟨rfl, rfl⟩; rw [HN.out])
    go_ret
    exact ⟨rfl, balloc (Below.refl _ _) _⟩
theorem not2_calls (x : Int) (p : Addr) (w : World) (hc : w.cell? p = some (.func (.func 91) #[] #[])) :
    Calls Tryz.prog 117 #[.int .u8 x, .pointer (some p)] w fun e w' => e = .returned (.bool (!isQ 2 x)) ∧ w = w' := by
  go_enter Tryz.func117, Tryz.ntmps117
  go_wp2_with fail
  refine (q2_calls x _).mono ?_
  rintro e w' ⟨rfl, rfl⟩
  obtain ⟨t, ht⟩ : ∃ t, isQ 2 x = t := ⟨_, rfl⟩
  rw [ht]
  have HT := Lib.hid ht
  clear ht
  go_wp2
  go_ret
  exact ⟨by rw [HT.out]; rfl, rfl⟩
set_option maxHeartbeats 1000000 in
theorem index2_calls (A : Option Addr) (c : Nat) (xs : List Int) (p : Addr) (w : World) (hC : (Kd.int .u8).C w A xs.length xs) (hl : xs.length ≤ 140737488355328) (hc : w.cell? p = some (.func (.func 91) #[] #[])) :
    Calls Tryz.prog 116 #[.slice A xs.length c, .func (.func 117) #[] #[.pointer (some p)]] w fun e w' => e = .returned (.int .i64 (idxL 2 xs)) ∧ w = w' := by
  have HC := Lib.hid hC
  have HP := Lib.hid hc
  have HI : Hid (∀ n : Nat, runL 2 xs = n → n < xs.length → idxL 2 xs = n) := Lib.hid (idx_at 2 xs)
  have HN : Hid (runL 2 xs = xs.length → idxL 2 xs = -1) := Lib.hid (idx_none 2 xs)
  have HL := Lib.hid (runL_le 2 xs)
  clear hC hc
  go_enter Tryz.func116, Tryz.ntmps116
  go_wp2
  go_loopw [8] (fun j wr => ∃ k : Nat, Hid (k ≤ runL 2 xs) ∧ k ≤ xs.length ∧ j = .int .i64 k ∧ w = wr) (fun j _ => xs.length - (intOf j).toNat)
  case atStart => exact ⟨0, Lib.hid (by omega), by omega, rfl, rfl⟩
  case round =>
    obtain ⟨k, hk, hkl, rfl, rfl⟩ := hrel
    by_cases hkk : k < xs.length
    · obtain ⟨ad, hA, hx⟩ := Kd.at_int HC.out (k : Int) (by omega) (by omega)
      subst hA
      rw [Int.toNat_natCast] at hx
      have HT := Lib.hid (run_more 2 xs k hk.out hkk)
      have HF := Lib.hid (run_stop 2 xs k hk.out hkk)
      generalize rd xs (k : Int) = z at *
      go_wp2_with fail
      refine (not2_calls z p _ HP.out).mono ?_
      rintro e w' ⟨rfl, rfl⟩
      cases hz : isQ 2 z
      · have HI2 := Lib.hid (HI.out k (HF.out hz) hkk)
        clear hz
        go_wp2
        go_ret
        exact ⟨by rw [HI2.out]; rfl, rfl⟩
      · have HK2 := Lib.hid (HT.out hz)
        clear hz
        go_wp2
        go_roundw
        case rel => exact ⟨k + 1, HK2, by omega, by go_num, trivial⟩
        case measure => simp [intOf]; omega
    · have HE := Lib.hid (HN.out (by have h1 := HL.out; have h2 := hk.out; omega))
      go_wp2
      go_ret
      exact ⟨by rw [HE.out]; rfl, rfl⟩
set_option maxHeartbeats 1000000 in
theorem run2_calls (A : Option Addr) (c : Nat) (xs : List Int) (w : World) (hC : (Kd.int .u8).C w A xs.length xs) (hl : xs.length ≤ 140737488355328) :
    Calls Tryz.prog 88 #[.slice A xs.length c, .func (.func 91) #[] #[]] w fun e w' => e = .returned (.int .i64 (runL 2 xs)) ∧ Below w.heap.size w w' := by
  have HC := Lib.hid hC
  clear hC
  have HL := Lib.hid (runL_le 2 xs)
  by_cases hr : runL 2 xs = xs.length
  · have HN := Lib.hid (idx_none 2 xs hr)
    have HR := Lib.hid hr
    clear hr
    go_enter Tryz.func88, Tryz.ntmps88
    go_wp2_with (go_at_call 116; refine (index2_calls A c xs _ _ (Kd.C_below HC.out (balloc (Below.refl _ _) _)) hl (by simp)).mono ?_; rintro e w' ⟨rfl, rfl⟩; rw [HN.out])
    go_ret
    exact ⟨by rw [HR.out]; rfl, balloc (Below.refl _ _) _⟩
  · have HN := Lib.hid (idx_at 2 xs _ rfl (by have := HL.out; omega))
    have HR := Lib.hid hr
    clear hr
    generalize runL 2 xs = n at *
    go_enter Tryz.func88, Tryz.ntmps88
    go_wp2_with (go_at_call 116; refine (index2_calls A c xs _ _ (Kd.C_below HC.out (balloc (Below.refl _ _) _)) hl (by simp)).mono ?_; rintro e w' ⟨rfl, rfl⟩; rw [HN.out])
    go_ret
    exact ⟨rfl, balloc (Below.refl _ _) _⟩
end Go.Proofs.YtkmjbakiippfpaaGreatDoor.Oct
set_option linter.unusedVariables false
set_option linter.unusedSimpArgs false
namespace Go.Proofs.YtkmjbakiippfpaaGreatDoor.Oct
open Go.RowKit Go.BigFrame Go.Proofs.YtkmjbakiippfpaaGreatDoor.Reg Go.Proofs.YtkmjbakiippfpaaGreatDoorW.PrintWords Go.Proofs.YtkmjbakiippfpaaGreatDoorW.PrintLast Go.Proofs.YtkmjbakiippfpaaGreatDoorW.PrintMore
def octV : Int → List Int → Int × Int
  | v, [] => if 4611686018427387904 < v then (0, 3) else (v, 0)
  | v, x :: r => if 576460752303423488 < v then (0, 3) else octV (v * 8 + (x - 48)) r
def octO (xs : List Int) : Int × Int :=
  let ys := xs.drop (runL 0 xs)
  let zs := ys.drop (runL 1 ys)
  if runL 2 zs < zs.length then (0, 11) else octV 0 (ys.take (runL 1 ys))
theorem octV_big (v : Int) (xs : List Int) (k : Nat) (hk : k < xs.length) (h : 576460752303423488 < v) : octV v (xs.drop k) = (0, 3) := by
  rw [List.drop_eq_getElem_cons hk, octV, if_pos h]
theorem octV_next (v : Int) (xs : List Int) (k : Nat) (hk : k < xs.length) (h : ¬ 576460752303423488 < v) : octV v (xs.drop k) = octV (v * 8 + (rd xs (k : Int) - 48)) (xs.drop (k + 1)) := by
  have hr : rd xs (k : Int) = xs[k] := by
    unfold rd
    rw [Int.toNat_natCast, List.getD_eq_getElem?_getD, List.getElem?_eq_getElem hk]
    rfl
  rw [List.drop_eq_getElem_cons hk, octV, if_neg h, hr]
theorem octV_end (v : Int) : octV v [] = if 4611686018427387904 < v then (0, 3) else (v, 0) := by rw [octV]
theorem rd_take (xs : List Int) (n k : Nat) (h : k < n) (hk : k < xs.length) : rd (xs.take n) (k : Int) = rd xs (k : Int) := by
  unfold rd
  rw [List.getD_eq_getElem?_getD, List.getD_eq_getElem?_getD, Int.toNat_natCast, List.getElem?_take, if_pos h]
theorem take_dig (xs : List Int) (k : Nat) (h : k < (xs.take (runL 1 xs)).length) : 48 ≤ rd (xs.take (runL 1 xs)) (k : Int) ∧ rd (xs.take (runL 1 xs)) (k : Int) ≤ 55 := by
  have hl : (xs.take (runL 1 xs)).length = runL 1 xs := by rw [List.length_take]; have := runL_le 1 xs; omega
  have hq : isQ 1 (rd xs (k : Int)) = true := by
    cases hq : isQ 1 (rd xs (k : Int))
    · have := run_stop 1 xs k (by omega) (by have := runL_le 1 xs; omega) hq
      omega
    · rfl
  rw [rd_take xs _ k (by omega) (by have := runL_le 1 xs; omega)]
  simpa [isQ] using hq
theorem ofInt_i64 (a : Nat) (ha : a < 9223372036854775808) : (BitVec.ofInt 64 (a : Int)).toNat = a := by
  rw [BitVec.ofInt_natCast, BitVec.toNat_ofNat]; exact Nat.mod_eq_of_lt (by omega)
theorem i64_or_nat (a b : Nat) (ha : a < 9223372036854775808) (hb : b < 9223372036854775808) : bits .or .i64 (a : Int) (b : Int) = ((a ||| b : Nat) : Int) := by
  have hx : a ||| b < 2 ^ 63 := Nat.or_lt_two_pow (by omega) (by omega)
  show IntKind.i64.wrap ((BitVec.ofInt 64 (a : Int) ||| BitVec.ofInt 64 (b : Int)).toNat : Int) = _
  rw [BitVec.toNat_or, ofInt_i64 a ha, ofInt_i64 b hb, IntKind.wrap_i64]
  omega
theorem or_oct (a b : Int) (ha : 0 ≤ a) (ha1 : a ≤ 576460752303423488) (hb : 0 ≤ b) (hb1 : b < 8) : bits .or .i64 (a * 8) b = a * 8 + b := by
  obtain ⟨n, rfl⟩ := Int.eq_ofNat_of_zero_le ha
  obtain ⟨m, rfl⟩ := Int.eq_ofNat_of_zero_le hb
  have hm : m < 2 ^ 3 := by omega
  rw [show ((n : Int) * 8) = ((n * 2 ^ 3 : Nat) : Int) by simp, i64_or_nat _ _ (by omega) (by omega), ← Nat.shiftLeft_eq, ← Nat.shiftLeft_add_eq_or_of_lt hm]
  simp [Nat.shiftLeft_eq]
theorem cutF (A : Option Addr) (n c j : Nat) (h : j ≤ n) : ∀ W, (Instr.slice 23 (.slice A n c) (some (.int .i64 (j : Int))) none none).run Tryz.prog W = .ok (.slice (if c = j then A else A.map (·.add (j * 1))) (n - j) (c - j)) W := by
  obtain ⟨i, hi, hzz⟩ := Option.map_eq_some_iff.1 info5
  simp only [Prod.mk.injEq] at hzz
  exact cut_from 23 5 .i64 Tryz.underlying23 hi 1 hzz.2.1 A n c (j : Int) (by omega) (by omega)
theorem cutT (A : Option Addr) (n c j : Nat) (h : j ≤ n) (hc : n ≤ c) : ∀ W, (Instr.slice 23 (.slice A n c) none (some (.int .i64 (j : Int))) none).run Tryz.prog W = .ok (.slice A j c) W := by
  obtain ⟨i, hi, hzz⟩ := Option.map_eq_some_iff.1 info5
  exact cut_to 23 5 .i64 Tryz.underlying23 hi A n c (j : Int) (by omega) (by omega) hc
set_option maxRecDepth 100000 in
set_option maxHeartbeats 4000000 in
theorem octal_calls (A : Option Addr) (c : Nat) (xs : List Int) (w : World) (hC : (Kd.int .u8).C w A xs.length xs) (hl : xs.length ≤ 140737488355320) (hc : xs.length ≤ c) :
    Calls Tryz.prog 66 #[.slice A xs.length c] w fun e w' => e = .returned (.tuple #[.int .i64 (octO xs).1, .int .i64 (octO xs).2]) ∧ Below w.heap.size w w' := by
  have hL0 := runL_le 0 xs
  have H1 := Lib.hid (run0_calls A c xs w hC (by omega))
  have hO : octO xs = if runL 2 ((xs.drop (runL 0 xs)).drop (runL 1 (xs.drop (runL 0 xs)))) < ((xs.drop (runL 0 xs)).drop (runL 1 (xs.drop (runL 0 xs)))).length then (0, 11) else octV 0 ((xs.drop (runL 0 xs)).take (runL 1 (xs.drop (runL 0 xs)))) := rfl
  generalize octO xs = R at *
  have s1 := cutF A xs.length c (runL 0 xs) hL0
  have hC1 : (Kd.int .u8).C w (if c = runL 0 xs then A else A.map (·.add (runL 0 xs * 1))) (xs.drop (runL 0 xs)).length (xs.drop (runL 0 xs)) := Kd.C_drop hC hL0 hc
  have hlen : (xs.drop (runL 0 xs)).length = xs.length - runL 0 xs := List.length_drop
  rw [← hlen] at s1
  have hc1 : (xs.drop (runL 0 xs)).length ≤ c - runL 0 xs := by omega
  have hl1 : (xs.drop (runL 0 xs)).length ≤ 140737488355320 := by omega
  generalize (if c = runL 0 xs then A else A.map (·.add (runL 0 xs * 1))) = A1 at *
  generalize xs.drop (runL 0 xs) = ys at *
  generalize c - runL 0 xs = c1 at *
  generalize runL 0 xs = n0 at *
  have hL1 := runL_le 1 ys
  have s2 := cutT A1 ys.length c1 (runL 1 ys) hL1 hc1
  have s3 := cutF A1 ys.length c1 (runL 1 ys) hL1
  have H2 := Lib.hid (fun W (hb : Below w.heap.size w W) => run1_calls A1 c1 ys W (Kd.C_below hC1 hb) (by omega))
  have hCd : (Kd.int .u8).C w A1 (ys.take (runL 1 ys)).length (ys.take (runL 1 ys)) := Kd.C_take hC1 hL1
  have hlt : (ys.take (runL 1 ys)).length = runL 1 ys := by rw [List.length_take]; omega
  have HD := Lib.hid (take_dig ys)
  have hC2 : (Kd.int .u8).C w (if c1 = runL 1 ys then A1 else A1.map (·.add (runL 1 ys * 1))) (ys.drop (runL 1 ys)).length (ys.drop (runL 1 ys)) := Kd.C_drop hC1 hL1 hc1
  have hlen2 : (ys.drop (runL 1 ys)).length = ys.length - runL 1 ys := List.length_drop
  rw [← hlen2] at s3
  have hl2 : (ys.drop (runL 1 ys)).length ≤ 140737488355320 := by omega
  have hld : (ys.take (runL 1 ys)).length ≤ 140737488355320 := by omega
  generalize (if c1 = runL 1 ys then A1 else A1.map (·.add (runL 1 ys * 1))) = A2 at *
  generalize ys.drop (runL 1 ys) = zs at *
  generalize ys.take (runL 1 ys) = ds at *
  generalize c1 - runL 1 ys = c2 at *
  rw [← hlt] at s2 s3
  have H2' : Hid (∀ W (hb : Below w.heap.size w W), Calls Tryz.prog 88 #[.slice A1 ys.length c1, .func (.func 90) #[] #[]] W fun e w' => e = .returned (.int .i64 (ds.length : Int)) ∧ Below W.heap.size W w') := Lib.hid (by rw [hlt]; exact H2.out)
  clear H2
  have H3 := Lib.hid (fun W (hb : Below w.heap.size w W) => run2_calls A2 c2 zs W (Kd.C_below hC2 hb) (by omega))
  have HL2 := Lib.hid (runL_le 2 zs)
  have HC := Lib.hid hCd
  have HO := Lib.hid hO
  clear hC hC1 hC2 hCd hO hlen hlen2 hlt hL1 hL0
  generalize runL 2 zs = n2 at *
  go_enter Tryz.func66, Tryz.ntmps66
  go_upto_region 2 with (go_at_call 88; refine H1.out.mono ?_; rintro e w1 ⟨rfl, hb1⟩)
  go_upto_region 3 with (go_at_call 88; refine (H2'.out _ hb1).mono ?_; rintro e w2 ⟨rfl, hb2⟩)
  have hb12 := bgo hb1 hb2
  clear hb1 hb2
  go_region
  have hb2 := bdrew hb12
  clear hb12
  by_cases hz : n2 < zs.length
  · have HR : Hid (R = (0, 11)) := Lib.hid (by rw [HO.out, if_pos hz])
    clear HO
    go_upto_region 6 with (go_at_call 88; refine (H3.out _ hb2).mono ?_; rintro e w3 ⟨rfl, hb3⟩)
    go_ret2
    exact ⟨by rw [HR.out]; rfl, bgo hb2 hb3⟩
  have HR : Hid (R = octV 0 ds) := Lib.hid (by rw [HO.out, if_neg hz])
  clear HO
  go_upto_region 6 with (go_at_call 88; refine (H3.out _ hb2).mono ?_; rintro e w3 ⟨rfl, hb3⟩)
  have hb4 := bgo hb2 hb3
  have HB := Lib.hid hb4
  have HC4 := Lib.hid (Kd.C_below HC.out hb4)
  clear hb2 hb3 hb4 HC H3 s1 s2 s3 H1 H2'
  go_wp2
  go_loopw [7, 29] (fun a j wr => ∃ (k : Nat) (v : Int), k ≤ ds.length ∧ a = .int .i64 v ∧ j = .int .i64 k ∧ 0 ≤ v ∧ v ≤ 4611686018427387911 ∧ Hid (R = octV v (ds.drop k)) ∧ w3 = wr) (fun _ j _ => ds.length - (intOf j).toNat)
  case atStart => exact ⟨0, 0, by omega, rfl, rfl, by omega, by omega, Lib.hid (by rw [List.drop_zero]; exact HR.out), rfl⟩
  case round =>
    obtain ⟨k, v, hk, rfl, rfl, v0, v1, HV, rfl⟩ := hrel
    by_cases hkk : k < ds.length
    · obtain ⟨ad, hA, hx⟩ := Kd.at_int HC4.out (k : Int) (by omega) (by omega)
      subst hA
      rw [Int.toNat_natCast] at hx
      obtain ⟨z0, z1⟩ := HD.out k hkk
      by_cases hb : 576460752303423488 < v
      · have HE : Hid (R = (0, 3)) := Lib.hid (by rw [HV.out, octV_big v ds k hkk hb])
        generalize rd ds (k : Int) = z at *
        go_wp2
        go_ret2
        exact ⟨by rw [HE.out]; rfl, HB.out⟩
      · have HN : Hid (R = octV (v * 8 + (rd ds (k : Int) - 48)) (ds.drop (k + 1))) := Lib.hid (by rw [HV.out, octV_next v ds k hkk hb])
        generalize rd ds (k : Int) = z at *
        have HOR := or_oct v (z - 48) v0 (by omega) (by omega) (by omega)
        go_wp2
        go_roundw
        case rel => exact ⟨k + 1, _, by omega, rfl, by go_num, by omega, by omega, HN, trivial⟩
        case measure => simp [intOf]; omega
    · have hke : k = ds.length := by omega
      subst hke
      by_cases hb : 4611686018427387904 < v
      · have HE : Hid (R = (0, 3)) := Lib.hid (by rw [HV.out, List.drop_length, octV_end, if_pos hb])
        go_wp2
        go_ret2
        exact ⟨by rw [HE.out]; rfl, HB.out⟩
      · have HE : Hid (R = (v, 0)) := Lib.hid (by rw [HV.out, List.drop_length, octV_end, if_neg hb])
        go_wp2
        go_ret2
        exact ⟨by rw [HE.out]; rfl, HB.out⟩
end Go.Proofs.YtkmjbakiippfpaaGreatDoor.Oct
