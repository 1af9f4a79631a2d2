/- slices.Repeat of one byte, walked. -/
import Derived.Test.YtfnncfgdlinmcaaDoorReg
import Derived.Test.YtfnncfgdlinmcaaDoorOctShelf
import Derived.Test.YtfnncfgdlinmcaaDoorWLast
import Derived.Test.YtfnncfgdlinmcaaDoorWMore
import Derived.Lib.Hide
import Derived.Laws.MakeOwn
import Derived.Laws.CopyOwn
import Derived.Deep.RegionLaw
set_option linter.unusedVariables false
set_option linter.unusedSimpArgs false
namespace Go.Proofs.YtfnncfgdlinmcaaDoor.Oct
open Go.RowKit Go.BigFrame Go.Lib Go.Proofs.YtfnncfgdlinmcaaDoor.Reg Go.Proofs.YtfnncfgdlinmcaaDoorW.PrintWords Go.Proofs.YtfnncfgdlinmcaaDoorW.PrintLast Go.Proofs.YtfnncfgdlinmcaaDoorW.PrintMore
theorem info5 : (Tryd.prog.info? 5).map (fun i => (i.zero, i.size, i.bytes)) = some (some (.int .u8 0), 1, 1) := by kernel_rfl
theorem made_rep (m : Nat) : madeCells (Value.int .u8 0).cells (m * 1) = (List.replicate m (Value.int .u8 0)).toArray := by
  unfold madeCells
  apply Array.ext
  · simp
  · intro i h1 h2
    simp at h1 ⊢
    simp [Value.cells, Nat.mod_one]
theorem run_mk (W : World) (m : Nat) (hm : m ≤ 281474976710656) : (Instr.makeSlice 22 (.int .i64 (m : Int)) (.int .i64 (m : Int))).run Tryd.prog W = .ok (.slice (some ⟨W.heap.size, 0, none⟩) m m) (W.alloc (.cells (List.replicate m (Value.int .u8 0)).toArray 5)) := by
  obtain ⟨i, hi, hzz⟩ := Option.map_eq_some_iff.1 info5
  simp only [Prod.mk.injEq] at hzz
  obtain ⟨hz0, hz1, hz2⟩ := hzz
  have h := run_make (P := Tryd.prog) W 22 5 i (.int .u8 0) Tryd.underlying22 hi hz0 .i64 .i64 (m : Int) (m : Int) (by omega) (by omega) (by rw [hz2]; omega) (by omega)
  rw [Int.toNat_natCast, hz1, made_rep] at h
  exact h
/-- The cells: n are the byte, the others 0. -/
def cellsR (z : Int) (n m : Nat) : List Value := List.replicate n (.int .u8 z) ++ List.replicate (m - n) (.int .u8 0)
theorem cellsR_len (z : Int) (n m : Nat) (h : n ≤ m) : (cellsR z n m).length = m := by unfold cellsR; simp; omega
theorem cellsR_splice (z : Int) (n k m : Nat) (h : n + k ≤ m) : splice (cellsR z n m) n (List.replicate k (.int .u8 z)) = cellsR z (n + k) m := by
  unfold splice cellsR
  rw [List.length_replicate]
  have e1 : (List.replicate n (Value.int .u8 z) ++ List.replicate (m - n) (Value.int .u8 0)).take n = List.replicate n (.int .u8 z) := by
    rw [List.take_append_of_le_length (by simp), List.take_of_length_le (by simp)]
  have e2 : (List.replicate n (Value.int .u8 z) ++ List.replicate (m - n) (Value.int .u8 0)).drop (n + k) = List.replicate (m - (n + k)) (Value.int .u8 0) := by
    rw [List.drop_append, List.drop_of_length_le (by simp), List.nil_append, List.length_replicate, List.drop_replicate]
    congr 1
    omega
  rw [e1, e2, ← List.append_assoc, List.replicate_append_replicate]
theorem cellsR_get (z : Int) (n m j : Nat) (h : j < n) : (cellsR z n m)[j]? = some (.int .u8 z) := by
  unfold cellsR
  rw [List.getElem?_append_left (by simpa using h), List.getElem?_replicate, if_pos h]
theorem copy_one {W : World} {ad : Addr} {m : Nat} {z : Int} (h : W.cell? ad = some (.int .u8 z)) {j : Nat} {v : Value} (hj : (List.replicate (min 1 m) (Value.int .u8 z))[j]? = some v) : W.cell? (ad.add j) = some v := by
  rw [List.getElem?_replicate] at hj
  split at hj
  · rename_i hlt
    obtain rfl : j = 0 := by omega
    obtain rfl := Option.some.inj hj
    have : ad.add 0 = ad := by cases ad; simp [Addr.add]
    rw [this]; exact h
  · cases hj
theorem copy_row {W : World} {B n m : Nat} {z : Int} {T : TypeId} (h : W.heap[B]? = some (.cells (cellsR z n m).toArray T (0, 0))) {j : Nat} {v : Value} (hj : (List.replicate (min n (m - n)) (Value.int .u8 z))[j]? = some v) : W.cell? ((⟨B, 0, none⟩ : Addr).add j) = some v := by
  rw [List.getElem?_replicate] at hj
  split at hj
  · rename_i hlt
    obtain rfl := Option.some.inj hj
    rw [add_plain, blk_cell h, List.getElem?_toArray, cellsR_get z n m j (by omega)]
  · cases hj
theorem wrap_min (n m : Nat) (h : m ≤ 64) (hn : n ≤ m) : IntKind.i64.wrap ((n : Int) + ((min n (m - n) : Nat) : Int)) = ((n + min n (m - n) : Nat) : Int) := by
  rw [IntKind.wrap_i64]; omega
set_option maxRecDepth 100000 in
theorem slice_from (W : World) (B n m : Nat) (h : n < m) : (Instr.slice 22 (.slice (some ⟨B, 0, none⟩) m m) (some (.int .i64 (n : Int))) none none).run Tryd.prog W = .ok (.slice (some ⟨B, n, none⟩) (m - n) (m - n)) W := by
  have hs : (sizeOf (Tryd.prog.elem 22)).run Tryd.prog W = .ok 1 W := by kernel_rfl
  rw [run_slice_l (P := Tryd.prog) W 22 (some ⟨B, 0, none⟩) m m Tryd.underlying22 .i64 (n : Int) (by omega) (by omega), hs]
  simp only [Result.andThen, sliced, Int.toNat_natCast]
  rw [if_neg (by omega)]
  simp only [Option.map_some, Nat.mul_one, add_plain]
set_option maxRecDepth 100000 in
set_option maxHeartbeats 1000000 in
theorem repeat_calls (ad : Addr) (c m : Nat) (z : Int) (hm : m ≤ 64) (w : World) (hx : w.cell? ad = some (.int .u8 z)) :
    Calls Tryd.prog 20 #[.slice (some ad) 1 c, .int .i64 m] w fun e w' => ∃ v, e = .returned v ∧ (Kd.int .u8).R 5 w' w.heap.size (fun _ => True) v (List.replicate m z) ∧ Below w.heap.size w w' := by
  have H1 := Lib.hid (Tryd.bits_Mul 1 m (by omega) (by omega) w)
  rw [show 1 * m / 18446744073709551616 = 0 by omega, show 1 * m % 18446744073709551616 = m by omega] at H1
  have hmk := run_mk w m (by omega)
  have HX := Lib.hid hx
  clear hx
  go_enter Tryd.func20, Tryd.ntmps20
  go_upto_region 7 with (go_at_call 38; refine H1.out.mono ?_; rintro e w1 ⟨rfl, rfl⟩)
  have hsz : (Tryd.prog.info? 5).map (·.size) = some 1 := by kernel_rfl
  have HSZ := Lib.hid hsz
  have HXX := Lib.hid (show (w1.alloc (.cells (Array.replicate m (Value.int .u8 0)) 5)).cell? ad = some (.int .u8 z) from bkeep (balloc (Below.refl _ _) _) HX.out)
  have HG := Lib.hid (show (w1.alloc (.cells (Array.replicate m (Value.int .u8 0)) 5)).heap[w1.heap.size]? = some (.cells (cellsR z 0 m).toArray 5 (0, 0)) by
    have h := heap_alloc_new w1 (.cells (Array.replicate m (Value.int .u8 0)) 5)
    rw [h]
    unfold cellsR
    simp)
  have HBB := Lib.hid (show Below w1.heap.size w1 (w1.alloc (.cells (Array.replicate m (Value.int .u8 0)) 5)) from balloc (Below.refl _ _) _)
  clear hmk hsz
  have hn1 : (List.replicate (min 1 m) (Value.int .u8 z)).length = Nat.min 1 m := by rw [List.length_replicate]
  have hf1 : 0 + (List.replicate (min 1 m) (Value.int .u8 z)).length ≤ (cellsR z 0 m).length := by rw [cellsR_len _ _ _ (by omega), List.length_replicate]; omega
  have ho1 : ∀ v ∈ List.replicate (min 1 m) (Value.int .u8 z), v.oneCell' = true := fun v hv => by rw [List.eq_of_mem_replicate hv]; rfl
  have HN1 := Lib.hid hn1
  have HF1 := Lib.hid hf1
  have HO1 := Lib.hid ho1
  clear hn1 hf1 ho1
  go_wp2_with (with_reducible refine wpList_copy_splice rfl (.tmp 31) (.tmp 32) 22 22 rfl 5 Tryd.underlying22 HSZ.out (some ⟨w1.heap.size, 0, none⟩) (some ad) m m 1 c rfl rfl w1.heap.size 0 (cellsR z 0 m) 5 HG.out (List.replicate (min 1 m) (.int .u8 z)) HN1.out (fun h => ⟨rfl, ad, rfl, fun j v hj => copy_one HXX.out hj⟩) HF1.out HO1.out w1.heap.size w1 HBB.out (Nat.le_refl _) ?_; intro w2 hg2 hb2)
  have HG2 := Lib.hid (show w2.heap[w1.heap.size]? = some (.cells (cellsR z (min 1 m) m).toArray 5 (0, 0)) by
    have h := hg2.out
    have e := cellsR_splice z 0 (min 1 m) m (by omega)
    rw [Nat.zero_add] at e
    rw [e] at h
    exact h)
  have HB2 := Lib.hid hb2
  clear hg2 hb2 HN1 HF1 HO1 HG HXX
  go_loopw [8] (fun v8 wr => ∃ n : Nat, v8 = .int .i64 n ∧ n ≤ m ∧ (0 < n ∨ m = 0) ∧ Hid (wr.heap[w1.heap.size]? = some (.cells (cellsR z n m).toArray 5 (0, 0))) ∧ Hid (Below w1.heap.size w1 wr)) (fun v8 _ => (m - intOf v8).toNat)
  case atStart => exact ⟨min 1 m, rfl, by omega, by omega, HG2, HB2⟩
  case round =>
    clear HG2 HB2
    obtain ⟨n, rfl, hn, hpos, hG, hB⟩ := hrel
    by_cases hlt : n < m
    · have n0 : (0 : Int) ≤ (n : Int) := by omega
      have n1 : (n : Int) ≤ (m : Int) := by omega
      have HPOS := Lib.hid (show 0 < n by omega)
      clear hpos
      have hs1 := fun W => slice_from W w1.heap.size n m hlt
      have hmn : ¬ m = n := by omega
      have HGD := Lib.hid (show wr.drew.heap[w1.heap.size]? = some (.cells (cellsR z n m).toArray 5 (0, 0)) from hG.out)
      have HBD := Lib.hid (show Below w1.heap.size w1 wr.drew from bdrew hB.out)
      have HNN := Lib.hid (show (List.replicate (min n (m - n)) (Value.int .u8 z)).length = Nat.min n (m - n) by rw [List.length_replicate])
      have HFF := Lib.hid (show n + (List.replicate (min n (m - n)) (Value.int .u8 z)).length ≤ (cellsR z n m).length by rw [cellsR_len _ _ _ hn, List.length_replicate]; omega)
      have HOO := Lib.hid (show ∀ v ∈ List.replicate (min n (m - n)) (Value.int .u8 z), v.oneCell' = true from fun v hv => by rw [List.eq_of_mem_replicate hv]; rfl)
      have HPP := Lib.hid (show 0 < (List.replicate (min n (m - n)) (Value.int .u8 z)).length → (some (⟨w1.heap.size, n, none⟩ : Addr)) = some ⟨w1.heap.size, n, none⟩ ∧ ∃ ad, (some (⟨w1.heap.size, 0, none⟩ : Addr)) = some ad ∧ ∀ j v, (List.replicate (min n (m - n)) (Value.int .u8 z))[j]? = some v → wr.drew.cell? (ad.add j) = some v from fun _ => ⟨rfl, _, rfl, fun j v hj => copy_row HGD.out hj⟩)
      go_wp2
      go_region_law (refine step_copy_splice rfl (.tmp 41) (.tmp 44) 22 22 rfl 5 Tryd.underlying22 HSZ.out (some ⟨w1.heap.size, n, none⟩) (some ⟨w1.heap.size, 0, none⟩) (m - n) (m - n) n m (by simp [Act.eval, Act.put, hmn]) (by simp [Act.eval, Act.put]) w1.heap.size n (cellsR z n m) 5 HGD.out (List.replicate (min n (m - n)) (.int .u8 z)) HNN.out (fun h => ⟨rfl, (HPP.out h).2⟩) HFF.out HOO.out w1.heap.size w1 HBD.out (Nat.le_refl _) ?_; intro w4 hg4 hb4)
      have HG4 := Lib.hid (show w4.heap[w1.heap.size]? = some (.cells (cellsR z (n + min n (m - n)) m).toArray 5 (0, 0)) by
        have h := hg4.out
        rw [cellsR_splice z n (min n (m - n)) m (by omega)] at h
        exact h)
      have HB4 := Lib.hid hb4
      have HMIN := Lib.hid (show (List.replicate (min n (m - n)) (Value.int .u8 z)).length = min n (m - n) by rw [List.length_replicate])
      clear hg4 hb4
      go_wp2
      have hw := wrap_min n m (by omega) hn
      rw [hw]
      refine ⟨⟨_, _, _, _, _, _, _, _, _, _, _, _, _, _, ⟨n + min n (m - n), rfl, by omega, by have := HPOS.out; omega, HG4, HB4⟩, rfl⟩, ?_⟩
      have := HPOS.out
      show (m - intOf (.int .i64 ((n + min n (m - n) : Nat) : Int))).toNat < (m - intOf (.int .i64 (n : Int))).toNat
      simp [intOf]
      omega
    · obtain rfl : n = m := by omega
      have HR := Lib.hid (show (Kd.int .u8).R 5 wr w1.heap.size (fun _ => True) (.slice (some ⟨w1.heap.size, 0, none⟩) n n) (List.replicate n z) by
        refine Kd.R_of_own ?_ (fun _ _ => trivial)
        rw [List.length_replicate]
        refine ⟨by simp [encs], .inr ⟨w1.heap.size, n, (cellsR z n n).toArray, rfl, Nat.le_refl _, hG.out, Nat.le_refl _, by unfold maxLen; omega, by simp [cellsR], ?_⟩⟩
        unfold cellsR
        simp [encs])
      go_wp2
      go_ret
      exact ⟨_, rfl, HR.out, hB.out⟩
end Go.Proofs.YtfnncfgdlinmcaaDoor.Oct
