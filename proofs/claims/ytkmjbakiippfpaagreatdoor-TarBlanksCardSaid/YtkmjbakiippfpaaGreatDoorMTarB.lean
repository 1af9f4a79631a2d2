/- TarA, TarB, TarT, InvR, TarC, TarD put together. -/
import Derived.Test.YtkmjbakiippfpaaGreatDoorMTree
import Derived.Test.YtkmjbakiippfpaaGreatDoorMOct
import Derived.Test.YtkmjbakiippfpaaGreatDoorTarShelf
import Derived.Lib.BufferWrite
import Derived.LoopN
import Derived.Test.YtkmjbakiippfpaaGreatDoorWZeros
import Derived.BigQuiet
import Derived.WalkKit
import Derived.Orders
import Derived.Test.YtkmjbakiippfpaaGreatDoorMRout
import Derived.Deep.DeepCutAuto
import Derived.Deep.RegionHeld3
set_option linter.unusedVariables false
set_option linter.unusedSimpArgs false
namespace Go.Proofs.YtkmjbakiippfpaaGreatDoor.Tar
open Go.RowKit Go.BigFrame Go.Maps Go.Proofs.YtkmjbakiippfpaaGreatDoor.Reg Go.Proofs.YtkmjbakiippfpaaGreatDoor.Rout Go.Proofs.YtkmjbakiippfpaaGreatDoor.Node Go.Proofs.YtkmjbakiippfpaaGreatDoor.Tree Go.Proofs.YtkmjbakiippfpaaGreatDoorW.PrintWords Go.Proofs.YtkmjbakiippfpaaGreatDoorW.PrintLast Go.Proofs.YtkmjbakiippfpaaGreatDoorW.PrintMore
theorem infoU : (Tryz.prog.info? 5).map (fun i => (i.zero, i.size, i.bytes)) = some (some (.int .u8 0), 1, 1) := by kernel_rfl
/-- A call that hands back a row of bytes of its own. -/
def Made (xs : List Int) (w : World) (e : Ending) (w' : World) : Prop := ∃ (A : Option Addr) (c : Nat), e = .returned (.slice A xs.length c) ∧ xs.length ≤ c ∧ Hid ((Kd.int .u8).R 5 w' w.heap.size (fun _ => True) (.slice A xs.length c) xs) ∧ Hid (Below w.heap.size w w')
theorem Made.mk {xs : List Int} {w w' : World} {v : Value} (hR : (Kd.int .u8).R 5 w' w.heap.size (fun _ => True) v xs) (hb : Below w.heap.size w w') : Made xs w (.returned v) w' := by
  obtain ⟨A, c, rfl, hl, _⟩ := Kd.R_reads hR
  exact ⟨A, c, rfl, hl, Lib.hid hR, Lib.hid hb⟩
theorem rowC {w : World} {base n c : Nat} {ok : Nat → Prop} {A : Option Addr} {xs : List Int} (h : (Kd.int .u8).R 5 w base ok (.slice A n c) xs) : (Kd.int .u8).C w A xs.length xs := by
  obtain ⟨_, _, e, _, hC⟩ := Kd.R_reads h
  injection e with e _ _
  subst e
  exact hC
/-! ### slices.Concat -/
theorem grow_bytes (n : Nat) (w : World) (hn : n ≤ 140737488355328) :
    Calls Tryz.prog 76 #[.slice none 0 0, .int .i64 n] w fun e w' => ∃ v, e = .returned v ∧ (Kd.int .u8).R 5 w' w.heap.size (fun q => w.heap.size ≤ q) v [] ∧ Below w.heap.size w w' := by
  by_cases h0 : n = 0
  · subst h0
    refine (Any8.slices_Grow_room Tryz.laysGrow none 0 0 0 w (by omega) (by omega) (by omega) (by omega)).mono ?_
    rintro e w' ⟨rfl, rfl⟩
    exact ⟨_, rfl, Kd.R_nil _ _ _ _ _, Below.refl _ _⟩
  · obtain ⟨i0, hi, hzz⟩ := Option.map_eq_some_iff.1 infoU
    simp only [Prod.mk.injEq] at hzz
    obtain ⟨hz0, hz1, hz2⟩ := hzz
    refine (Any8.slices_Grow_grow Tryz.laysGrow i0 (.int .u8 0) hi hz0 (by omega) none 0 0 n [] w (by omega) (by omega) (by rw [hz2]; omega) (by omega) (by simp) (fun _ => rfl) (fun a h => by cases h)).mono ?_
    rintro e w' ⟨rfl, rfl⟩
    have hge := grownCap_ge w (0 + n) 0 (Tryz.laysGrow_ren.t 25)
    have hle := grownCap_le_maxLen w (0 + n) 0 (Tryz.laysGrow_ren.t 25) (by unfold maxLen; omega)
    generalize grownCap w (0 + n) 0 (Tryz.laysGrow_ren.t 25) = G at *
    refine ⟨_, rfl, Kd.R_of_own (xs := []) ⟨rfl, .inr ⟨w.heap.size, _, _, rfl, Nat.le_refl _, heap_alloc_new w.drew _, by simp, hle, ?_, rfl⟩⟩ (fun k hk => ?_), balloc (bdrew (Below.refl _ _)) _⟩
    · simp only [Array.size_append, List.size_toArray, List.length_nil, size_zeroCells, Value.cells]
      simp
      omega
    · have : w.heap.size = k := by simpa [Value.ownBlock] using hk
      omega
/-- Rows that lie side by side. -/
def RowsAt (w : World) (A : Option Addr) (fs : List (List Int)) : Prop := 0 < fs.length → ∃ ad, A = some ad ∧ ∀ i x, fs[i]? = some x → ∃ Ai ci, w.cell? (ad.add i) = some (.slice Ai x.length ci) ∧ (Kd.int .u8).C w Ai x.length x ∧ x.length ≤ ci
theorem RowsAt.below {w W : World} {A : Option Addr} {fs : List (List Int)} (h : RowsAt w A fs) (hb : Below w.heap.size w W) : RowsAt W A fs := fun h0 => by
  obtain ⟨ad, e, hj⟩ := h h0
  refine ⟨ad, e, fun i x hx => ?_⟩
  obtain ⟨Ai, ci, h1, h2, h3⟩ := hj i x hx
  exact ⟨Ai, ci, bkeep hb h1, Kd.C_below h2 hb, h3⟩
def sumL (fs : List (List Int)) : Nat := fs.flatten.length
theorem flat_take (fs : List (List Int)) (k : Nat) (h : k < fs.length) : (fs.take (k + 1)).flatten = (fs.take k).flatten ++ fs[k] := by
  rw [List.take_succ_eq_append_getElem h, List.flatten_append]
  simp
theorem flat_le (fs : List (List Int)) (k : Nat) : (fs.take k).flatten.length ≤ fs.flatten.length := by
  conv => rhs; rw [← List.take_append_drop k fs, List.flatten_append, List.length_append]
  omega
set_option maxRecDepth 100000 in
set_option maxHeartbeats 4000000 in
theorem concat_calls (A : Option Addr) (c : Nat) (fs : List (List Int)) (w : World) (h : RowsAt w A fs) (hl : fs.flatten.length ≤ 140737488355328) (hn : fs.length ≤ 65536) :
    Calls Tryz.prog 50 #[.slice A fs.length c] w (Made fs.flatten w) := by
  obtain ⟨S, s0, ss, sb⟩ : ∃ S : Nat → Nat, S 0 = 0 ∧ (∀ k x, fs[k]? = some x → S (k + 1) = S k + x.length) ∧ ∀ k, S k = (fs.take k).flatten.length := by
    refine ⟨fun k => (fs.take k).flatten.length, rfl, fun k x hx => ?_, fun k => rfl⟩
    obtain ⟨hk, e⟩ := List.getElem?_eq_some_iff.1 hx
    dsimp only
    rw [flat_take fs k hk, List.length_append, e]
  have hSb : ∀ k, S k ≤ 140737488355328 := fun k => by rw [sb k]; exact Nat.le_trans (flat_le fs k) hl
  have H := Lib.hid h
  have SS := Lib.hid ss
  have SB := Lib.hid sb
  have HSB := Lib.hid hSb
  have HG := Lib.hid (fun k => grow_bytes (S k) w (hSb k))
  have hs0 : (0 : Int) = ((S 0 : Nat) : Int) := by rw [s0]; rfl
  have HS0 := Lib.hid hs0
  clear h ss sb hSb s0 hs0
  go_enter Tryz.func50, Tryz.ntmps50
  go_wp2
  go_loopw [3, 5, 11] (fun z _ i wr => ∃ k : Nat, i = .int .i64 k ∧ k ≤ fs.length ∧ z = .int .i64 (S k) ∧ w = wr) (fun _ _ i _ => (fs.length - intOf i).toNat)
  case atStart => exact ⟨0, rfl, by omega, by rw [← HS0.out], rfl⟩
  case round =>
    obtain ⟨k, rfl, hk, rfl, rfl⟩ := hrel
    by_cases hlt : k < fs.length
    · obtain ⟨ad, e, hj⟩ := H.out (by omega)
      have hx : fs[k]? = some fs[k] := List.getElem?_eq_getElem hlt
      obtain ⟨Ai, ci, h1, h2, h3⟩ := hj k _ hx
      have hS := SS.out k _ hx
      have hSB := HSB.out (k + 1)
      clear hj hx h2
      generalize fs[k] = x at *
      subst e
      have k0 : (0 : Int) ≤ (k : Int) := by omega
      have k1 : (k : Int) < fs.length := by omega
      have hw : wrap64 ((S k : Int) + (x.length : Int)) = ((S (k + 1) : Nat) : Int) := by rw [hS]; unfold wrap64; omega
      have hn : ¬ (((S (k + 1) : Nat) : Int) < 0) := by omega
      clear hS
      go_wp2
      go_roundw
      case rel => exact ⟨k + 1, by go_num, by omega, by rw [hw], trivial⟩
      case measure => simp [intOf]; omega
    · obtain rfl : k = fs.length := by omega
      have k1 : ¬ (fs.length : Int) < fs.length := by omega
      have HGN := Lib.hid (HG.out fs.length)
      clear hlt HG
      go_wp2_with (go_at_call 76; refine HGN.out.mono ?_; rintro e w1 ⟨v1, rfl, hR1, hb1⟩; obtain ⟨A1, c1, rfl⟩ := Kd.R_slice hR1; have HR1 := Lib.hid (Kd.R_mono hR1 (fun _ _ => trivial) (ok' := fun _ => True)); have HB1 := Lib.hid hb1; clear hR1 hb1)
      have hs1 := HB1.out.size
      go_loopw [6, 8, 27] (fun v _ i w2 => ∃ (k : Nat) (A2 : Option Addr) (c2 : Nat) (xs : List Int), i = .int .i64 k ∧ k ≤ fs.length ∧ v = .slice A2 xs.length c2 ∧ Hid (xs = (fs.take k).flatten) ∧ Hid ((Kd.int .u8).R 5 w2 w.heap.size (fun _ => True) (.slice A2 xs.length c2) xs) ∧ Hid (Below w.heap.size w w2)) (fun _ _ i _ => (fs.length - intOf i).toNat)
      case atStart => exact ⟨0, A1, c1, [], rfl, by omega, rfl, Lib.hid rfl, HR1, HB1⟩
      case round =>
        clear HR1 HB1 hs1
        obtain ⟨q, A2, c2, xs, rfl, hq, rfl, HX, HR2, HB2⟩ := hrel
        by_cases hlt : q < fs.length
        · obtain ⟨ad, e, hj⟩ := H.out (by omega)
          have hx : fs[q]? = some fs[q] := List.getElem?_eq_getElem hlt
          obtain ⟨Ai, ci, h1, h2, h3⟩ := hj q _ hx
          have h1' := bkeep HB2.out h1
          have HC2 := Lib.hid (Kd.C_below h2 HB2.out)
          have hS := SS.out q _ hx
          have hSq := SB.out q
          have hSB := HSB.out (q + 1)
          have HXN := Lib.hid (show xs ++ fs[q] = (fs.take (q + 1)).flatten by rw [HX.out, flat_take fs q hlt])
          have hxl : xs.length = S q := by rw [HX.out, hSq]
          clear hj hx h2 h1 hSq
          generalize fs[q] = x at *
          subst e
          have k0 : (0 : Int) ≤ (q : Int) := by omega
          have k1' : (q : Int) < fs.length := by omega
          have hlb : xs.length + x.length ≤ 140737488355328 := by omega
          clear hS hxl hSB
          go_wp2_with (at_builtin; refine Kd.R_append_row (Value.int .u8) 0 (w0 := w) w.heap.size rfl (.tmp 31) (.tmp 32) 23 5 (.int .u8 0) 1 rfl Tryz.underlying23 infoU rfl (by omega) _ xs x Ai x.length ci (fun _ => True) rfl rfl (fun _ _ => trivial) HR2.out HC2.out HB2.out HB2.out.size (by omega) ?_; intro v3 w3 hR3 hb3 hg3 hat3; obtain ⟨A3, c3, rfl⟩ := Kd.R_slice hR3; have HR3 := Lib.hid hR3; have HB3 := Lib.hid hb3; clear hR3 hb3 hg3 hat3)
          go_roundw
          case rel => exact ⟨q + 1, A3, c3, xs ++ x, by go_num, by omega, by rw [List.length_append], HXN, HR3, HB3⟩
          case measure => simp [intOf]; omega
        · obtain rfl : q = fs.length := by omega
          have k1' : ¬ (fs.length : Int) < fs.length := by omega
          have HF := Lib.hid (show xs = fs.flatten by rw [HX.out, List.take_length])
          clear hlt HX
          go_wp2
          go_ret
          have hR := HR2.out
          have hF := HF.out
          subst hF
          exact Made.mk hR HB2.out
theorem laid_calls (A : Option Addr) (c : Nat) (fs : List (List Int)) (w : World) (h : RowsAt w A fs) (hl : fs.flatten.length ≤ 140737488355328) (hn : fs.length ≤ 65536) :
    Calls Tryz.prog 27 #[.slice A fs.length c] w (Made fs.flatten w) := by
  have H := Lib.hid (concat_calls A c fs w h hl hn)
  clear h hl
  generalize fs.flatten = xs at *
  go_enter Tryz.func27, Tryz.ntmps27
  go_wp2_with (go_at_call 50; refine H.out.mono ?_; rintro e w1 ⟨A1, c1, rfl, hl1, HR, HB⟩)
  go_ret
  exact ⟨A1, c1, rfl, hl1, HR, HB⟩
/-! ### text -/
theorem run_copy_str {P : Program} (w : World) (dT sT ty elem : TypeId) (g dLen dCap : Nat) (s : ByteArray) (cur : Array Value) (t : TypeId)
    (hu : P.underlying dT = some (.slice elem)) (hs : (P.info? elem).map (·.size) = some 1) (hg : w.heap[g]? = some (.cells cur t (0, 0))) (hfit : dLen ≤ cur.size) :
    (Builtin.copy_ #[dT, sT] ty #[.slice (some ⟨g, 0, none⟩) dLen dCap, .string s]).run P w =
      .ok (goInt ((min s.size dLen : Nat) : Int)) (w.setRow g (Lib.byteCells (s.data.toList.take dLen) ++ cur.toList.drop (min s.size dLen)).toArray) := by
  have hsz : s.data.toList.length = s.size := by rw [Array.length_toList]; rfl
  have hlen : (Lib.byteCells (s.data.toList.take dLen)).length = min s.size dLen := by rw [Lib.byteCells_length, List.length_take, hsz]; omega
  have hst := run_storeCells_at P g 0 t (Lib.byteCells (s.data.toList.take dLen)) 0 cur w hg (by rw [hlen]; omega) (Lib.byteCells_one _)
  have htk : List.take (min s.size dLen) (List.map (fun b : UInt8 => Value.int IntKind.u8 (b.toNat : Int)) s.data.toList) = Lib.byteCells (s.data.toList.take dLen) := by
    unfold Lib.byteCells
    rw [← List.map_take]
    congr 1
    rw [← hsz, List.take_eq_take_iff]
    omega
  rw [hlen] at hst
  simp only [Nat.add_zero, List.take_zero, List.nil_append, Nat.zero_add] at hst
  cases hq : P.info? elem with
  | none => simp [hq] at hs
  | some i =>
    have hmm : Nat.min s.size dLen = min s.size dLen := rfl
    simp [Builtin.copy_, run_underlying hu, Builtin.lenOf, Builtin.firstCells, sizeOf, typeInfo, hq, hmm]
    rw [htk, hst]
    simp [Result.andThen]
/-- A field's bytes. -/
def textF (s : ByteArray) (n : Nat) : List Int := (bytesOf s).take n ++ List.replicate (n - s.size) 0
theorem textF_len (s : ByteArray) (n : Nat) : (textF s n).length = n := by
  unfold textF
  rw [List.length_append, List.length_take, bytesOf_length, List.length_replicate]
  omega
theorem textF_cells (s : ByteArray) (n : Nat) : Lib.byteCells (s.data.toList.take n) ++ (List.replicate n (Value.int .u8 0)).drop (min s.size n) = (textF s n).map (Value.int .u8) := by
  unfold textF bytesOf Lib.byteCells
  rw [List.map_append, List.map_take, List.map_take, List.map_map, List.map_replicate, List.drop_replicate]
  congr 1
  congr 1
  omega
theorem heap_setRow {w : World} {g : Nat} {cur cur' : Array Value} {t : TypeId} (hg : w.heap[g]? = some (.cells cur t (0, 0))) : (w.setRow g cur').heap[g]? = some (.cells cur' t (0, 0)) := by
  show (w.heap.modify g _)[g]? = _
  rw [Array.getElem?_modify, if_pos rfl, hg]
  rfl
theorem setRow_below {w W : World} {g : Nat} {cur : Array Value} (h : Below w.heap.size w W) (hg : w.heap.size ≤ g) : Below w.heap.size w (W.setRow g cur) := by
  refine ⟨h.os, h.tape, h.output, ?_, fun i hi => ?_⟩
  · show w.heap.size ≤ (W.heap.modify g _).size
    rw [Array.size_modify]
    exact h.size
  · show (W.heap.modify g _)[i]? = _
    rw [Array.getElem?_modify, if_neg (by omega)]
    exact h.block i hi
theorem row_made (w : World) (xs : List Int) (n : Nat) (hx : xs.length = n) (hn : n ≤ 140737488355328) :
    (Kd.int .u8).R 5 ((w.alloc (.cells (Array.replicate n (Value.int .u8 0)) 5)).setRow w.heap.size (xs.map (Value.int .u8)).toArray) w.heap.size (fun _ => True) (.slice (some ⟨w.heap.size, 0, none⟩) n n) xs ∧ Below w.heap.size w ((w.alloc (.cells (Array.replicate n (Value.int .u8 0)) 5)).setRow w.heap.size (xs.map (Value.int .u8)).toArray) := by
  subst hx
  refine ⟨Kd.R_of_own ⟨by simp [encs], .inr ⟨w.heap.size, _, _, rfl, Nat.le_refl _, heap_setRow (heap_alloc_new w _), Nat.le_refl _, by unfold maxLen; omega, by simp, ?_⟩⟩ (fun k _ => trivial), setRow_below (balloc (Below.refl _ _) _) (Nat.le_refl _)⟩
  simp only [encs, List.toList_toArray]
  exact List.take_of_length_le (by simp)
set_option maxRecDepth 100000 in
set_option maxHeartbeats 4000000 in
theorem text_calls (s : ByteArray) (n : Nat) (hn : n ≤ 4096) (hs : s.size ≤ 140737488351232) (w : World) :
    Calls Tryz.prog 52 #[.string s, .int .i64 n] w (Made (textF s n) w) := by
  have hmk := Oct.run_mk w n (by omega)
  have HG := Lib.hid (heap_alloc_new w (.cells (List.replicate n (Value.int .u8 0)).toArray 5))
  have hcp : ∀ ty, (Builtin.copy_ #[23, 9] ty #[.slice (some ⟨w.heap.size, 0, none⟩) n n, .string s]).run Tryz.prog (w.alloc (.cells (Array.replicate n (Value.int .u8 0)) 5)) = .ok (.int .i64 ((min s.size n : Nat) : Int)) ((w.alloc (.cells (Array.replicate n (Value.int .u8 0)) 5)).setRow w.heap.size ((textF s n).map (Value.int .u8)).toArray) := fun ty => by
    rw [← List.toArray_replicate]
    rw [run_copy_str (P := Tryz.prog) _ 23 9 ty 5 w.heap.size n n s _ 5 Tryz.underlying23 (by kernel_rfl) HG.out (by simp)]
    rw [List.toList_toArray, textF_cells]
    rfl
  go_enter Tryz.func52, Tryz.ntmps52
  have HR := Lib.hid (row_made w (textF s n) n (textF_len s n) (by omega))
  have HN := Lib.hid (textF_len s n)
  clear HG
  go_wp2
  go_ret
  exact Made.mk HR.out.1 HR.out.2
end Go.Proofs.YtkmjbakiippfpaaGreatDoor.Tar
set_option linter.unusedVariables false
set_option linter.unusedSimpArgs false
namespace Go.Proofs.YtkmjbakiippfpaaGreatDoor.Tar
open Go.RowKit Go.BigFrame Go.Maps Go.Proofs.YtkmjbakiippfpaaGreatDoor.Reg Go.Proofs.YtkmjbakiippfpaaGreatDoor.Rout Go.Proofs.YtkmjbakiippfpaaGreatDoor.Node Go.Proofs.YtkmjbakiippfpaaGreatDoor.Tree Go.Proofs.YtkmjbakiippfpaaGreatDoorW.PrintWords Go.Proofs.YtkmjbakiippfpaaGreatDoorW.PrintLast Go.Proofs.YtkmjbakiippfpaaGreatDoorW.PrintMore
open Go.Proofs.YtkmjbakiippfpaaGreatDoor.Oct (octP OctPost Tz putOctal_calls octO octal_calls)
def octB (v n : Int) : List Int := (octP v n).1
theorem oct_calls (v n : Int) (hv : v ≤ 9223372036854775807) (w : World) (h : Tz w) :
    Calls Tryz.prog 51 #[.int .i64 v, .int .i64 n] w (Made (octB v n) w) := by
  have H := Lib.hid (show Calls Tryz.prog 77 #[.int .i64 v, .int .i64 n] w fun e w' => ∃ (A : Option Addr) (c : Nat), e = .returned (.tuple #[.slice A (octB v n).length c, .int .i64 (octP v n).2]) ∧ Hid ((Kd.int .u8).R 5 w' w.heap.size (fun _ => True) (.slice A (octB v n).length c) (octB v n)) ∧ Hid (Below w.heap.size w w') from
    (putOctal_calls v n hv w h).mono fun e w' ⟨x, he, hR, hb⟩ => by
      obtain ⟨A, c, rfl, _, _⟩ := Kd.R_reads hR
      exact ⟨A, c, he, Lib.hid hR, Lib.hid hb⟩)
  clear h
  generalize octB v n = xs at *
  generalize (octP v n).2 = er at *
  go_enter Tryz.func51, Tryz.ntmps51
  go_wp2_with (go_at_call 77; refine H.out.mono ?_; rintro e w1 ⟨A, c, rfl, HR, HB⟩)
  go_ret
  exact Made.mk HR.out HB.out
/-! ### whole -/
def padN (n : Nat) : Nat := (512 - n % 512) % 512
theorem neg_511 (n : Nat) (hn : n ≤ 140737488355328) : bits .and .i64 (-(n : Int)) 511 = ((padN n : Nat) : Int) := by
  unfold padN
  show IntKind.i64.wrap ((BitVec.ofInt 64 (-(n : Int)) &&& BitVec.ofInt 64 511).toNat : Int) = _
  rw [BitVec.toNat_and, show (BitVec.ofInt 64 511).toNat = 2 ^ 9 - 1 from rfl, Nat.and_two_pow_sub_one_eq_mod, BitVec.toNat_ofInt, IntKind.wrap_i64]
  omega
def wholeF (xs : List Int) : List Int := xs ++ List.replicate (padN xs.length) 0
set_option maxRecDepth 100000 in
set_option maxHeartbeats 4000000 in
theorem whole_calls (A : Option Addr) (c : Nat) (xs : List Int) (w : World) (hC : (Kd.int .u8).C w A xs.length xs) (hl : xs.length ≤ 137438953472) :
    Calls Tryz.prog 29 #[.slice A xs.length c] w (Made (wholeF xs) w) := by
  have H := Lib.hid (bclone_calls A c xs w hC (by omega))
  have hneg := neg_511 xs.length (by omega)
  have HP := Lib.hid (show padN xs.length < 512 by unfold padN; omega)
  have HW := Lib.hid (show wholeF xs = xs ++ List.replicate (padN xs.length) 0 from rfl)
  clear hC
  generalize padN xs.length = p at *
  go_enter Tryz.func29, Tryz.ntmps29
  go_wp2_with (first | (go_at_call 53; refine H.out.mono ?_; rintro e w1 ⟨v1, rfl, hR1, hb1⟩; obtain ⟨A1, c1, rfl⟩ := Kd.R_slice hR1; have HR1 := Lib.hid hR1; have HB1 := Lib.hid hb1; clear hR1 hb1) | (at_builtin; refine Kd.R_append_zeros (Kd.int .u8) (w0 := w) w.heap.size rfl (.tmp 4) (.tmp 8) 23 3 5 (.int .u8 0) 1 rfl Tryz.underlying23 Tryz.underlying3 infoU rfl (show 0 < 1 by decide) (by decide) (.slice A1 xs.length c1) xs 0 (kx := .i64) (p : Int) (fun _ => True) rfl rfl rfl (fun _ _ => trivial) HR1.out (by omega) HB1.out HB1.out.size (by have := HP.out; simp; omega) ?_; intro v2 w2 hR2 hb2 hg2 hat2; rw [Int.toNat_natCast, ← HW.out] at hR2; have HR2 := Lib.hid hR2; have HB2 := Lib.hid hb2; clear hR2 hb2 hg2 hat2))
  go_ret
  exact Made.mk HR2.out HB2.out
end Go.Proofs.YtkmjbakiippfpaaGreatDoor.Tar
set_option linter.unusedVariables false
set_option linter.unusedSimpArgs false
namespace Go.Proofs.YtkmjbakiippfpaaGreatDoor.Tar
open Go.RowKit Go.BigFrame Go.Maps Go.Proofs.YtkmjbakiippfpaaGreatDoor.Reg Go.Proofs.YtkmjbakiippfpaaGreatDoor.Rout Go.Proofs.YtkmjbakiippfpaaGreatDoor.Node Go.Proofs.YtkmjbakiippfpaaGreatDoor.Tree Go.Proofs.YtkmjbakiippfpaaGreatDoorW.PrintWords Go.Proofs.YtkmjbakiippfpaaGreatDoorW.PrintLast Go.Proofs.YtkmjbakiippfpaaGreatDoorW.PrintMore
/-- The sum of the first k bytes of a header, but for the sum's own field. -/
def totN (xs : List Int) : Nat → Int
  | 0 => 256
  | k + 1 => if k < 148 ∨ 156 ≤ k then totN xs k + rd xs (k : Int) else totN xs k
def totalF (xs : List Int) : Int := totN xs 512
theorem rd_in {xs : List Int} (h : ∀ b ∈ xs, 0 ≤ b ∧ b ≤ 255) (k : Nat) (hk : k < xs.length) : 0 ≤ rd xs (k : Int) ∧ rd xs (k : Int) ≤ 255 := by
  have e : rd xs (k : Int) = xs[k] := by unfold rd; rw [Int.toNat_natCast, List.getD_eq_getElem?_getD, List.getElem?_eq_getElem hk]; rfl
  rw [e]
  exact h _ (List.getElem_mem hk)
theorem totN_in {xs : List Int} (h : ∀ b ∈ xs, 0 ≤ b ∧ b ≤ 255) : ∀ k, k ≤ xs.length → 256 ≤ totN xs k ∧ totN xs k ≤ 256 + 255 * k
  | 0, _ => by unfold totN; omega
  | k + 1, hk => by
    have ih := totN_in h k (by omega)
    have hr := rd_in h k (by omega)
    unfold totN
    split <;> omega
set_option maxRecDepth 100000 in
set_option maxHeartbeats 4000000 in
theorem total_calls (A : Option Addr) (c : Nat) (xs : List Int) (w : World) (hC : (Kd.int .u8).C w A xs.length xs) (hb : ∀ b ∈ xs, 0 ≤ b ∧ b ≤ 255) (hl : 512 ≤ xs.length) (hc : xs.length ≤ c) :
    Calls Tryz.prog 38 #[.slice A xs.length c] w fun e w' => e = .returned (.int .i64 (totalF xs)) ∧ w' = w := by
  have hcut : ∀ W, (Instr.slice 23 (.slice A xs.length c) none (some (.int .i64 512)) none).run Tryz.prog W = .ok (.slice A 512 c) W := Oct.cutT A xs.length c 512 hl hc
  have HC := Lib.hid hC
  have HB := Lib.hid (fun k (hk : k < 512) => rd_in hb k (by omega))
  have HT := Lib.hid (fun k (hk : k ≤ 512) => totN_in hb k (by omega))
  have HF := Lib.hid (show totalF xs = totN xs 512 from rfl)
  have HN := Lib.hid (show ∀ k, totN xs (k + 1) = if k < 148 ∨ 156 ≤ k then totN xs k + rd xs (k : Int) else totN xs k from fun k => rfl)
  have HZ := Lib.hid (show totN xs 0 = 256 from rfl)
  clear hC hb
  generalize totN xs = T at *
  go_enter Tryz.func38, Tryz.ntmps38
  go_wp2
  go_loopw [3, 4, 5, 9] (fun z _ _ i wr => ∃ k : Nat, i = .int .i64 k ∧ k ≤ 512 ∧ z = .int .i64 (T k) ∧ w = wr) (fun _ _ _ i _ => (512 - intOf i).toNat)
  case atStart => exact ⟨0, rfl, by omega, by rw [HZ.out], rfl⟩
  case round =>
    obtain ⟨k, rfl, hk, rfl, rfl⟩ := hrel
    by_cases hlt : k < 512
    · obtain ⟨ad, hA, hx⟩ := Kd.at_int HC.out (k : Int) (by omega) (by omega)
      subst hA
      rw [Int.toNat_natCast] at hx
      have hr := HB.out k hlt
      have ht := HT.out k (by omega)
      have hn := HN.out k
      generalize rd xs (k : Int) = x at *
      have k0 : (0 : Int) ≤ (k : Int) := by omega
      have k1 : (k : Int) < 512 := by omega
      have hw : wrap64 (T k + x) = T k + x := by unfold wrap64; omega
      by_cases h1 : k < 148
      · have t1 : (k : Int) < 148 := by omega
        rw [if_pos (.inl h1)] at hn
        go_wp2
        go_roundw
        case rel => exact ⟨k + 1, by go_num, by omega, by rw [hn], trivial⟩
        case measure => simp [intOf]; omega
      · have t1 : ¬ (k : Int) < 148 := by omega
        by_cases h2 : 156 ≤ k
        · have t2 : (156 : Int) ≤ (k : Int) := by omega
          rw [if_pos (.inr h2)] at hn
          go_wp2
          go_roundw
          case rel => exact ⟨k + 1, by go_num, by omega, by rw [hn], trivial⟩
          case measure => simp [intOf]; omega
        · have t2 : ¬ (156 : Int) ≤ (k : Int) := by omega
          rw [if_neg (fun e => e.elim h1 h2)] at hn
          go_wp2
          go_roundw
          case rel => exact ⟨k + 1, by go_num, by omega, by rw [hn], trivial⟩
          case measure => simp [intOf]; omega
    · obtain rfl : k = 512 := by omega
      go_wp2
      go_ret
      exact ⟨by rw [HF.out]; rfl, rfl⟩
end Go.Proofs.YtkmjbakiippfpaaGreatDoor.Tar
namespace Go.Proofs.YtkmjbakiippfpaaGreatDoor.InvR
open Go.RowKit Go.Proofs.YtkmjbakiippfpaaGreatDoor.Reg
/-- The post that knows of the ordinary end alone. -/
def Only (K : Act → World → Prop) : Exit → Act → World → Prop := fun e a w => match e with
  | .normal => K a w
  | _ => False
section
variable {P : Program} {ops : Array Oper} {Q : Exit → Act → World → Prop} {a : Act} {w : World}
theorem no_lets {K : Act → World → Prop} (h : LetsOut (Only K)) : False := by
  obtain ⟨_, _, h⟩ := h
  exact h
theorem op_only {o : Oper} {K K' : Act → World → Prop} (h : o.wp P a w K (Only K')) : o.wp P a w K Q := by
  unfold Oper.wp at *
  generalize (execOp a.eval o).run P w = r at *
  cases r with
  | ok n w' =>
    cases n <;> simp only [Oper.upon] at h ⊢ <;>
      first
        | exact h
        | exact Calls.mono h (fun e w'' he => by cases e <;> first | exact he | exact (he : False).elim | exact (no_lets he).elim)
  | halt x w' => cases x <;> simp only [Oper.upon] at h ⊢ <;> first | exact h | exact (h : False).elim
theorem list_only {o : Oper} {i : Nat} {K : Act → World → Prop} (hi : ops[i]? = some o) (hg : o.guard = none) (h : wpList P #[o] (Only K) [o] a w) : wpOp P ops Q i K a w := by
  have hw : ∀ ys, Region.wanted o ys = true := fun ys => by simp only [Region.wanted, hg]
  unfold wpOp
  simp only [hi, hw, if_true]
  unfold wpList at h
  simp only [hw, if_true] at h
  rcases h with h | ⟨_, h⟩
  · exact .inl (op_only h)
  · exact (no_lets h).elim
theorem all_listed {md : Region.Mode} {listed : Array Bool} (hs : listed.size = ops.size) (hd : ∀ (i : Nat) (o : Oper), ops[i]? = some o → ∀ e ∈ o.after, e.on < i) (hr : Region.ready md ops listed = []) : listed = Array.replicate ops.size true := by
  have key : ∀ n i, i < n → i < ops.size → listed.getD i true = true := by
    intro n
    induction n with
    | zero => intro i h; omega
    | succ n ih =>
      intro i hi hlt
      cases hb : listed.getD i true with
      | true => rfl
      | false =>
        have : i ∈ Region.ready md ops listed := by
          rw [mem_ready]
          refine ⟨hb, ops[i], Array.getElem?_eq_getElem hlt, fun e he _ => ?_⟩
          have h1 := hd i _ (Array.getElem?_eq_getElem hlt) e he
          have h2 := ih e.on (by omega) (by omega)
          have h3 : e.on < listed.size := by omega
          simp only [Array.getD, h3, dif_pos] at h2 ⊢
          exact h2
        rw [hr] at this
        cases this
  apply Array.ext
  · simp [hs]
  · intro i h1 h2
    have := key (i + 1) i (by omega) (by omega)
    unfold Array.getD at this
    rw [dif_pos h1] at this
    rw [Array.getElem_replicate]
    exact this
theorem any_inv {md : Region.Mode} (J : Array Bool → Act → World → Prop) (hg : ∀ (i : Nat) (o : Oper), ops[i]? = some o → o.guard = none) (hd : ∀ (i : Nat) (o : Oper), ops[i]? = some o → ∀ e ∈ o.after, e.on < i)
    (hstep : ∀ (i : Nat) (o : Oper), ops[i]? = some o → ∀ listed a w, listed.size = ops.size → listed.getD i true = false → (∀ e ∈ o.after, Region.binds md e = true → listed.getD e.on false = true) → J listed a w → ∀ K : Act → World → Prop, (∀ a' w', J (listed.setIfInBounds i true) a' w' → K a' w') → wpList P #[o] (Only K) [o] a w)
    (hend : ∀ a w, J (Array.replicate ops.size true) a w → Q .normal a w) :
    ∀ (fuel : Nat) (listed : Array Bool) (a : Act) (w : World), listed.size = ops.size → listed.toList.count false ≤ fuel → J listed a w → wpAny P md ops Q fuel listed a w
  | 0, listed, a, w, hs, hc, hJ => by
    have ht : listed = Array.replicate ops.size true := by
      apply Array.ext
      · simp [hs]
      · intro i h1 h2
        cases hb : listed[i] with
        | true => simp
        | false =>
          have : false ∈ listed.toList := by rw [← hb]; simp
          have := List.count_pos_iff.2 this
          omega
    subst ht
    refine ⟨?_, hend a w hJ⟩
    rw [List.eq_nil_iff_forall_not_mem]
    intro i hi
    have := (mem_ready.1 hi).1
    unfold Array.getD at this
    split at this
    · simp at this
    · cases this
  | fuel + 1, listed, a, w, hs, hc, hJ => by
    refine ⟨fun hr => ?_, fun i hi => ?_⟩
    · have ht := all_listed hs hd hr
      rw [ht] at hJ
      exact hend a w hJ
    · obtain ⟨h0, o, ho, hall⟩ := mem_ready.1 hi
      have hlt : i < listed.size := by
        have := (Array.getElem?_eq_some_iff.1 ho).1
        omega
      have hb : listed[i] = false := by
        unfold Array.getD at h0
        rw [dif_pos hlt] at h0
        exact h0
      refine list_only ho (hg i o ho) (hstep i o ho listed a w hs h0 hall hJ _ (fun a' w' hJ' => any_inv J hg hd hstep hend fuel _ a' w' (by simp [hs]) ?_ hJ'))
      have hcs := List.count_set (a := true) (b := false) (l := listed.toList) (i := i) (by simpa using hlt)
      have hmem : 0 < listed.toList.count false := List.count_pos_iff.2 (by rw [← hb]; simp)
      have e1 : (listed.toList[i]'(by simpa using hlt) == false) = true := by rw [Array.getElem_toList, hb]; rfl
      rw [Array.toList_setIfInBounds, hcs, if_pos e1, if_neg (show ¬ (true == false) = true by decide)]
      omega
end
/-- A REGION BY ONE STATEMENT: J listed a w, where listed tells which operations have come up. -/
theorem region_inv {P : Program} {id : Nat} {Q : Exit → Act → World → Prop} {a : Act} {w : World} {ops : Array Oper} (hm : P.follows .mixedOrders = true) (J : Array Bool → Act → World → Prop)
    (hg : ∀ (i : Nat) (o : Oper), ops[i]? = some o → o.guard = none) (hd : ∀ (i : Nat) (o : Oper), ops[i]? = some o → ∀ e ∈ o.after, e.on < i)
    (h0 : J (Array.replicate ops.size false) a w.drew)
    (hstep : ∀ (i : Nat) (o : Oper), ops[i]? = some o → ∀ listed a w, listed.size = ops.size → listed.getD i true = false → (∀ e ∈ o.after, Region.binds .any e = true → listed.getD e.on false = true) → J listed a w → ∀ K : Act → World → Prop, (∀ a' w', J (listed.setIfInBounds i true) a' w' → K a' w') → wpList P #[o] (Only K) [o] a w)
    (hend : ∀ a w, J (Array.replicate ops.size true) a w → Q .normal a w) : (Code.region id ops true).wp P Q a w :=
  wp_region_any hm (any_inv J hg hd hstep hend _ _ _ _ (by simp) (by simp) h0)
def depsB (ops : Array Oper) : Bool := (List.range ops.size).all fun i => match ops[i]? with
  | some o => o.guard.isNone && o.after.all (fun e => decide (e.on < i))
  | none => true
theorem deps_of {ops : Array Oper} (h : depsB ops = true) : (∀ (i : Nat) (o : Oper), ops[i]? = some o → o.guard = none) ∧ ∀ (i : Nat) (o : Oper), ops[i]? = some o → ∀ e ∈ o.after, e.on < i := by
  have key : ∀ (i : Nat) (o : Oper), ops[i]? = some o → o.guard.isNone = true ∧ ∀ e ∈ o.after, e.on < i := fun i o ho => by
    have hlt := (Array.getElem?_eq_some_iff.1 ho).1
    have h1 := List.all_eq_true.1 h i (List.mem_range.2 hlt)
    rw [ho] at h1
    simp only [Bool.and_eq_true, Array.all_eq_true_iff_forall_mem, decide_eq_true_eq] at h1
    exact h1
  exact ⟨fun i o ho => by simpa using (key i o ho).1, fun i o ho => (key i o ho).2⟩
/-- THE SAME, for operations that only make memory: frame us is the frame with the values us in the operations' own slots; T i v w: what is known of the value of the i-th. -/
theorem region_T {P : Program} {id : Nat} {Q : Exit → Act → World → Prop} {w wb : World} {ops : Array Oper} (hm : P.follows .mixedOrders = true) (G : World → World → Prop) (frame : (Nat → Value) → Act) (T : Nat → Value → World → Prop) (us0 : Nat → Value)
    (hG : ∀ w w', Below wb.heap.size wb w → G w w' → Below wb.heap.size wb w') (hmono : ∀ i v w w', Below wb.heap.size wb w → G w w' → T i v w → T i v w')
    (hput : ∀ (i : Nat) (o : Oper), ops[i]? = some o → ∀ us v, (frame us).put o.dst v = frame (fun j => if j = i then v else us j))
    (hg : ∀ (i : Nat) (o : Oper), ops[i]? = some o → o.guard = none) (hd : ∀ (i : Nat) (o : Oper), ops[i]? = some o → ∀ e ∈ o.after, e.on < i) (hb0 : Below wb.heap.size wb w)
    (hstep : ∀ (i : Nat) (o : Oper), ops[i]? = some o → ∀ us w, Below wb.heap.size wb w → (∀ e ∈ o.after, Region.binds .any e = true → T e.on (us e.on) w) → ∀ K : Act → World → Prop, (∀ v w', G w w' → T i v w' → K ((frame us).put o.dst v) w') → wpList P #[o] (Only K) [o] (frame us) w)
    (hend : ∀ us w, Below wb.heap.size wb w → (∀ i, i < ops.size → T i (us i) w) → Q .normal (frame us) w) : (Code.region id ops true).wp P Q (frame us0) w := by
  refine region_inv hm (fun listed a w => ∃ us, a = frame us ∧ Below wb.heap.size wb w ∧ ∀ i, listed.getD i false = true → T i (us i) w) hg hd ?_ ?_ ?_
  · refine ⟨us0, rfl, bdrew hb0, fun i hi => ?_⟩
    unfold Array.getD at hi
    split at hi
    · rename_i hlt
      have : (Array.replicate ops.size false)[i]'hlt = true := hi
      rw [Array.getElem_replicate] at this
      cases this
    · cases hi
  · rintro i o ho listed a w hs _ hall ⟨us, rfl, hb, hT⟩ K hK
    refine hstep i o ho us w hb (fun e he hbi => hT e.on (hall e he hbi)) K (fun v w' hb' hv => hK _ _ ⟨_, hput i o ho us v, hG _ _ hb hb', fun j hj => ?_⟩)
    by_cases hji : j = i
    · subst hji
      rw [if_pos rfl]
      exact hv
    · rw [if_neg hji]
      refine hmono j _ _ _ hb hb' (hT j ?_)
      rwa [getD_set_ne false (fun e => hji e.symm)] at hj
  · rintro a w ⟨us, rfl, hb, hT⟩
    refine hend us w hb (fun i hi => hT i ?_)
    unfold Array.getD
    rw [dif_pos (by simpa using hi)]
    show (Array.replicate ops.size true)[i]'_ = true
    rw [Array.getElem_replicate]
def lastB (ops : Array Oper) (n : Nat) : Bool := (List.range n).all fun i => (List.range (n + 1)).any fun j => decide (i < j) && (match ops[j]? with
  | some o => o.after.any (fun e => e.on == i && Region.binds .any e)
  | none => false)
theorem last_of {ops : Array Oper} {n : Nat} (h : lastB ops n = true) (i : Nat) (hi : i < n) : ∃ j o, i < j ∧ j < n + 1 ∧ ops[j]? = some o ∧ ∃ e ∈ o.after, e.on = i ∧ Region.binds .any e = true := by
  have h1 := List.all_eq_true.1 h i (List.mem_range.2 hi)
  rw [List.any_eq_true] at h1
  obtain ⟨j, hj, h2⟩ := h1
  rw [Bool.and_eq_true] at h2
  obtain ⟨h3, h4⟩ := h2
  cases ho : ops[j]? with
  | none => rw [ho] at h4; cases h4
  | some o =>
    rw [ho] at h4
    obtain ⟨e, he, h5⟩ := Array.any_eq_true'.1 h4
    rw [Bool.and_eq_true] at h5
    exact ⟨j, o, by simpa using h3, List.mem_range.1 hj, ho, e, he, by simpa using h5.1, h5.2⟩
/-- THE SAME, where the last operation, which comes behind all others, does something else. -/
theorem region_last {P : Program} {id : Nat} {Q : Exit → Act → World → Prop} {w wb : World} {ops : Array Oper} (hm : P.follows .mixedOrders = true) (n : Nat) (hn : ops.size = n + 1) (hl : lastB ops n = true) (frame : (Nat → Value) → Act) (T : Nat → Value → World → Prop) (us0 : Nat → Value)
    (hmono : ∀ i v w w', Below w.heap.size w w' → T i v w → T i v w')
    (hput : ∀ (i : Nat) (o : Oper), ops[i]? = some o → i < n → ∀ us v, (frame us).put o.dst v = frame (fun j => if j = i then v else us j))
    (hg : ∀ (i : Nat) (o : Oper), ops[i]? = some o → o.guard = none) (hd : ∀ (i : Nat) (o : Oper), ops[i]? = some o → ∀ e ∈ o.after, e.on < i) (hb0 : Below wb.heap.size wb w)
    (hstep : ∀ (i : Nat) (o : Oper), ops[i]? = some o → i < n → ∀ us w, Below wb.heap.size wb w → (∀ e ∈ o.after, Region.binds .any e = true → T e.on (us e.on) w) → ∀ K : Act → World → Prop, (∀ v w', Below w.heap.size w w' → T i v w' → K ((frame us).put o.dst v) w') → wpList P #[o] (Only K) [o] (frame us) w)
    (hlast : ∀ (o : Oper), ops[n]? = some o → ∀ us w, Below wb.heap.size wb w → (∀ i, i < n → T i (us i) w) → ∀ K : Act → World → Prop, (∀ a' w', Q .normal a' w' → K a' w') → wpList P #[o] (Only K) [o] (frame us) w) : (Code.region id ops true).wp P Q (frame us0) w := by
  refine region_inv hm (fun listed a w => (∀ (i : Nat) (o : Oper), ops[i]? = some o → listed.getD i false = true → ∀ e ∈ o.after, Region.binds .any e = true → listed.getD e.on false = true) ∧ ((listed.getD n true = false ∧ ∃ us, a = frame us ∧ Below wb.heap.size wb w ∧ ∀ i, listed.getD i false = true → T i (us i) w) ∨ ((∀ i, i < n + 1 → listed.getD i true = true) ∧ Q .normal a w))) hg hd ?_ ?_ ?_
  · have hf : ∀ i, (Array.replicate ops.size false).getD i false = true → False := fun i hi => by
      unfold Array.getD at hi
      split at hi
      · rename_i hlt
        have : (Array.replicate ops.size false)[i]'hlt = true := hi
        rw [Array.getElem_replicate] at this
        cases this
      · cases hi
    refine ⟨fun i o _ hi => (hf i hi).elim, .inl ⟨?_, us0, rfl, bdrew hb0, fun i hi => (hf i hi).elim⟩⟩
    unfold Array.getD
    rw [dif_pos (by simp; omega)]
    show (Array.replicate ops.size false)[n]'_ = false
    rw [Array.getElem_replicate]
  · rintro i o ho listed a w hs h0 hall ⟨hcl, hJ⟩ K hK
    have hi : i < n + 1 := by
      have := (Array.getElem?_eq_some_iff.1 ho).1
      omega
    have hcl' : ∀ (j : Nat) (o' : Oper), ops[j]? = some o' → (listed.setIfInBounds i true).getD j false = true → ∀ e ∈ o'.after, Region.binds .any e = true → (listed.setIfInBounds i true).getD e.on false = true := fun j o' ho' hj e he hbi => by
      have h1 : listed.getD e.on false = true := by
        by_cases hji : j = i
        · subst hji
          rw [ho] at ho'
          cases ho'
          exact hall e he hbi
        · rw [getD_set_ne false (fun e => hji e.symm)] at hj
          exact hcl j o' ho' hj e he hbi
      by_cases hei : e.on = i
      · rw [hei]
        unfold Array.getD
        rw [dif_pos (by simp; omega)]
        show (listed.setIfInBounds i true)[i]'_ = true
        simp
      · rw [getD_set_ne false (fun e => hei e.symm)]
        exact h1
    rcases hJ with ⟨hn0, us, rfl, hb, hT⟩ | ⟨hall1, hQ⟩
    · by_cases hin : i = n
      · subst hin
        have key : ∀ k j, i - j ≤ k → j < i → listed.getD j false = true := by
          intro k
          induction k with
          | zero => intro j h1 h2; omega
          | succ k ih =>
            intro j h1 h2
            obtain ⟨m, o', hjm, hmn, ho', e, he, heo, hbi⟩ := last_of hl j h2
            subst heo
            by_cases hmi : m = i
            · subst hmi
              rw [ho] at ho'
              cases ho'
              exact hall e he hbi
            · exact hcl m o' ho' (ih m (by omega) (by omega)) e he hbi
        refine hlast o ho us w hb (fun j hj => hT j (key _ j (Nat.le_refl _) hj)) K (fun a' w' hQ' => hK _ _ ⟨hcl', .inr ⟨fun j hj => ?_, hQ'⟩⟩)
        by_cases hji : j = i
        · subst hji
          unfold Array.getD
          rw [dif_pos (by simp; omega)]
          show (listed.setIfInBounds j true)[j]'_ = true
          simp
        · rw [getD_set_ne true (fun e => hji e.symm)]
          have h1 := key _ j (Nat.le_refl _) (by omega)
          unfold Array.getD at h1 ⊢
          rw [dif_pos (by omega)] at h1 ⊢
          exact h1
      · refine hstep i o ho (by omega) us w hb (fun e he hbi => hT e.on (hall e he hbi)) K (fun v w' hb' hv => hK _ _ ⟨hcl', .inl ⟨?_, _, hput i o ho (by omega) us v, bgo hb hb', fun j hj => ?_⟩⟩)
        · rw [getD_set_ne true hin]
          exact hn0
        · by_cases hji : j = i
          · subst hji
            rw [if_pos rfl]
            exact hv
          · rw [if_neg hji]
            refine hmono j _ _ _ hb' (hT j ?_)
            rwa [getD_set_ne false (fun e => hji e.symm)] at hj
    · rw [hall1 i hi] at h0
      cases h0
  · rintro a w ⟨_, ⟨hn0, _⟩ | ⟨_, hQ⟩⟩
    · unfold Array.getD at hn0
      rw [dif_pos (by simp; omega)] at hn0
      have : (Array.replicate ops.size true)[n]'(by simp; omega) = false := hn0
      rw [Array.getElem_replicate] at this
      cases this
    · exact hQ
end Go.Proofs.YtkmjbakiippfpaaGreatDoor.InvR
set_option linter.unusedVariables false
set_option linter.unusedSimpArgs false
namespace Go.Proofs.YtkmjbakiippfpaaGreatDoor.Tar
open Go.RowKit Go.BigFrame Go.Maps Go.Proofs.YtkmjbakiippfpaaGreatDoor.Reg Go.Proofs.YtkmjbakiippfpaaGreatDoor.Rout Go.Proofs.YtkmjbakiippfpaaGreatDoor.Node Go.Proofs.YtkmjbakiippfpaaGreatDoor.Tree Go.Proofs.YtkmjbakiippfpaaGreatDoorW.PrintWords Go.Proofs.YtkmjbakiippfpaaGreatDoorW.PrintLast Go.Proofs.YtkmjbakiippfpaaGreatDoorW.PrintMore
open Go.Proofs.YtkmjbakiippfpaaGreatDoor.InvR
open Go.Proofs.YtkmjbakiippfpaaGreatDoor.Oct (octP OctPost Tz putOctal_calls octO octal_calls)
/-- A header, as it is told. -/
structure Hd where
  name : ByteArray
  link : ByteArray
  mode : Int
  size : Int
  time : Int
  kind : Int
def magicL : List Int := [117, 115, 116, 97, 114, 0, 48, 48]
def fieldsL (h : Hd) : List (List Int) := [textF h.name 100, octB h.mode 8, octB 0 8, octB 0 8, octB h.size 12, octB h.time 12, textF ⟨#[]⟩ 8, [h.kind], textF h.link 100, magicL, textF ⟨#[]⟩ 64, octB 0 8, octB 0 8, textF ⟨#[]⟩ 167]
/-- A row that was made, in worlds above wb; Q: what stays. -/
def Made2 (wb : World) (Q : World → Prop) (xs : List Int) (e : Ending) (w' : World) : Prop := ∃ (A : Option Addr) (c : Nat), e = .returned (.slice A xs.length c) ∧ xs.length ≤ c ∧ Hid ((Kd.int .u8).R 5 w' wb.heap.size (fun _ => True) (.slice A xs.length c) xs) ∧ Hid (Below wb.heap.size wb w') ∧ Q w'
theorem made2 {wb : World} {Q : World → Prop} {xs : List Int} {f : FuncId} {args : Array Value} {W : World} (hQ : ∀ W, Below wb.heap.size wb W → Q W) (h : Calls Tryz.prog f args W (Made xs W)) (hb : Below wb.heap.size wb W) : Calls Tryz.prog f args W (Made2 wb Q xs) :=
  h.mono fun e w' ⟨A, c, he, hl, hR, hB⟩ => ⟨A, c, he, hl, Lib.hid (Kd.R_lower hR.out hb.size), Lib.hid (bgo hb hB.out), hQ _ (bgo hb hB.out)⟩
theorem rows_lit (W0 : World) (vs : List Value) (fs : List (List Int)) (t : TypeId) (h : ∀ (i : Nat) (x : List Int), fs[i]? = some x → ∃ (A : Option Addr) (c : Nat), vs[i]? = some (Value.slice A x.length c) ∧ x.length ≤ c ∧ (Kd.int .u8).C W0 A x.length x) : RowsAt (W0.alloc (.cells vs.toArray t)) (some ⟨W0.heap.size, 0, none⟩) fs := fun _ => ⟨_, rfl, fun i x hx => by
  obtain ⟨A, c, h1, h2, h3⟩ := h i x hx
  refine ⟨A, c, ?_, Kd.C_below h3 (balloc (Below.refl _ _) _), h2⟩
  rw [add_plain]
  unfold World.cell?
  dsimp only
  rw [heap_alloc_new]
  simpa using h1⟩
theorem lit_C (W0 : World) (xs : List Int) (t : TypeId) (hl : xs.length ≤ 65536) : (Kd.int .u8).C (W0.alloc (.cells (xs.map (Value.int .u8)).toArray t)) (some ⟨W0.heap.size, 0, none⟩) xs.length xs := by
  refine ⟨rfl, by have : maxLen = 9223372036854775807 := rfl; omega, fun _ => ⟨⟨W0.heap.size, 0, none⟩, rfl, fun j p hp => ⟨[.int .u8 p], rfl, rfl, fun i u hu => ?_⟩⟩⟩
  obtain ⟨rfl, rfl⟩ : i = 0 ∧ u = .int .u8 p := by
    cases i with
    | zero => exact ⟨rfl, (Option.some.inj hu).symm⟩
    | succ i => simp at hu
  rw [add_plain, show j * Kd.sz (Kd.int .u8) + 0 = j from by show j * 1 + 0 = j; omega]
  unfold World.cell?
  dsimp only
  rw [heap_alloc_new]
  simp [hp]
def upd (i : Nat) (v : Value) (us : Nat → Value) : Nat → Value := fun j => if j = i then v else us j
theorem upd_eq {i : Nat} {v : Value} {us : Nat → Value} (h : us i = v) : us = upd i v us := by
  funext j
  unfold upd
  by_cases e : j = i
  · rw [if_pos e, e, h]
  · rw [if_neg e]
def RowV (xs : List Int) (v : Value) (w : World) : Prop := ∃ (A : Option Addr) (c : Nat), v = .slice A xs.length c ∧ xs.length ≤ c ∧ (Kd.int .u8).C w A xs.length xs
/-- A row of 512 bytes and more, made here. -/
def RowB (B : Nat) (xs : List Int) (v : Value) (w : World) : Prop := ∃ (g c : Nat) (cur : Array Value), v = .slice (some ⟨g, 0, none⟩) xs.length c ∧ B ≤ g ∧ w.heap[g]? = some (.cells cur 5 (0, 0)) ∧ xs.length ≤ c ∧ c ≤ maxLen ∧ cur.size = c ∧ cur.toList.take xs.length = xs.map (Value.int .u8)
/-- The literal's row, marked or not. -/
def RowM (B : Nat) (v : Value) (w : World) : Prop := ∃ (g : Nat) (fr : Nat × Nat), v = .slice (some ⟨g, 0, none⟩) 8 8 ∧ B ≤ g ∧ w.heap[g]? = some (.cells (magicL.map (Value.int .u8)).toArray 5 fr)
/-- What an operation may do: make memory, and mark a row of eight. -/
def Gm (wb w w' : World) : Prop := Below wb.heap.size wb w' ∧ w.heap.size ≤ w'.heap.size ∧ ∀ (k : Nat) (o : Obj), w.heap[k]? = some o → w'.heap[k]? = some o ∨ ∃ (cs : Array Value) (t : TypeId) (fr fr' : Nat × Nat), o = Obj.cells cs t fr ∧ cs.size = 8 ∧ w'.heap[k]? = some (Obj.cells cs t fr')
theorem gm {wb w w' : World} (hb : Below wb.heap.size wb w) (h : Below w.heap.size w w') : Gm wb w w' := ⟨bgo hb h, h.size, fun k o ho => .inl (by rw [h.block k (Array.getElem?_eq_some_iff.1 ho).1]; exact ho)⟩
theorem Gm.cell {wb w w' : World} (h : Gm wb w w') {a : Addr} {v : Value} (hv : w.cell? a = some v) : w'.cell? a = some v := by
  unfold World.cell? at hv ⊢
  cases ho : w.heap[a.block]? with
  | none => rw [ho] at hv; cases hv
  | some o =>
    rcases h.2.2 a.block o ho with e | ⟨cs, t, fr, fr', rfl, _, e⟩
    · rw [e]
      rw [ho] at hv
      exact hv
    · rw [e]
      rw [ho] at hv
      exact hv
theorem Gm.row {wb w w' : World} (h : Gm wb w w') {A : Option Addr} {n : Nat} {xs : List Int} (hC : (Kd.int .u8).C w A n xs) : (Kd.int .u8).C w' A n xs := ⟨hC.1, hC.2.1, fun h0 => by
  obtain ⟨ad, e, hj⟩ := hC.2.2 h0
  refine ⟨ad, e, fun j p hp => ?_⟩
  obtain ⟨c, hc, hK, hi⟩ := hj j p hp
  exact ⟨c, hc, hK, fun i u hu => h.cell (hi i u hu)⟩⟩
theorem Gm.rows {wb w w' : World} (h : Gm wb w w') {A : Option Addr} {fs : List (List Int)} (hR : RowsAt w A fs) : RowsAt w' A fs := fun h0 => by
  obtain ⟨ad, e, hj⟩ := hR h0
  refine ⟨ad, e, fun i x hx => ?_⟩
  obtain ⟨Ai, ci, h1, h2, h3⟩ := hj i x hx
  exact ⟨Ai, ci, h.cell h1, h.row h2, h3⟩
theorem Gm.own {wb w w' : World} (h : Gm wb w w') {B : Nat} {xs : List Int} (hx : 512 ≤ xs.length) {v : Value} (hR : RowB B xs v w) : RowB B xs v w' := by
  obtain ⟨g, c, cur, rfl, hB, hg, hl, hc, hz, ht⟩ := hR
  refine ⟨g, c, cur, rfl, hB, ?_, hl, hc, hz, ht⟩
  rcases h.2.2 g _ hg with e | ⟨cs, t, fr, fr', e, h8, _⟩
  · exact e
  · cases e
    omega
theorem Gm.lit {wb w w' : World} (h : Gm wb w w') {B : Nat} {v : Value} (hR : RowM B v w) : RowM B v w' := by
  obtain ⟨g, fr, rfl, hB, hg⟩ := hR
  rcases h.2.2 g _ hg with e | ⟨cs, t, f1, f2, e, _, e2⟩
  · exact ⟨g, fr, rfl, hB, e⟩
  · cases e
    exact ⟨g, f2, rfl, hB, e2⟩
theorem cells_C {w : World} {g : Nat} {xs : List Int} {t : TypeId} {fr : Nat × Nat} (hg : w.heap[g]? = some (.cells (xs.map (Value.int .u8)).toArray t fr)) (hl : xs.length ≤ 65536 := by decide) : (Kd.int .u8).C w (some ⟨g, 0, none⟩) xs.length xs := by
  refine ⟨rfl, by have : maxLen = 9223372036854775807 := rfl; omega, fun _ => ⟨⟨g, 0, none⟩, rfl, fun j p hp => ⟨[.int .u8 p], rfl, rfl, fun i u hu => ?_⟩⟩⟩
  obtain ⟨rfl, rfl⟩ : i = 0 ∧ u = .int .u8 p := by
    cases i with
    | zero => exact ⟨rfl, (Option.some.inj hu).symm⟩
    | succ i => simp at hu
  rw [add_plain, show j * Kd.sz (Kd.int .u8) + 0 = j from by show j * 1 + 0 = j; omega]
  unfold World.cell?
  dsimp only
  rw [hg]
  simp [hp]
theorem rowB_of {w : World} {B B' : Nat} {ok : Nat → Prop} {A : Option Addr} {c : Nat} {xs : List Int} (h : (Kd.int .u8).R 5 w B ok (.slice A xs.length c) xs) (h0 : 0 < xs.length) (hB : B' ≤ B) : RowB B' xs (.slice A xs.length c) w := by
  rcases (Kd.own_of_R h).2 with ⟨_, e⟩ | ⟨g, cap, cur, e, hg, hh, h1, h2, h3, h4⟩
  · omega
  · cases e
    exact ⟨g, c, cur, rfl, Nat.le_trans hB hg, hh, h1, h2, by omega, by rw [Nat.mul_one] at h4; exact h4⟩
def mkO : Obj → Obj
  | .cells c elem (lo, hi) => .cells c elem (if lo == hi then (8, 8 + 1) else (min lo 8, max hi (8 + 1)))
  | o => o
theorem mark_gm {wb w : World} (hb : Below wb.heap.size wb w) {g : Nat} {cs : Array Value} {t : TypeId} {fr : Nat × Nat} (hB : wb.heap.size ≤ g) (hg : w.heap[g]? = some (.cells cs t fr)) (h8 : cs.size = 8) : Gm wb w (w.freeze ⟨g, 8, none⟩ 1) := by
  have hm : ∀ k, (w.freeze ⟨g, 8, none⟩ 1).heap[k]? = if g = k then (w.heap[k]?).map mkO else w.heap[k]? := fun k => by
    unfold World.freeze
    rw [if_neg (by decide)]
    show (w.heap.modify g mkO)[k]? = _
    rw [Array.getElem?_modify]
  have hsz : (w.freeze ⟨g, 8, none⟩ 1).heap.size = w.heap.size := by
    unfold World.freeze
    rw [if_neg (by decide)]
    exact Array.size_modify
  refine ⟨⟨?_, ?_, ?_, by rw [hsz]; exact hb.size, fun k hk => by rw [hm, if_neg (by omega)]; exact hb.block k hk⟩, by rw [hsz]; exact Nat.le_refl _, fun k o ho => ?_⟩
  · rw [← hb.os]; rfl
  · rw [← hb.tape]; rfl
  · rw [← hb.output]; rfl
  · rw [hm]
    by_cases e : g = k
    · subst e
      rw [hg] at ho
      cases ho
      rw [if_pos rfl, hg]
      exact .inr ⟨cs, t, fr, _, rfl, h8, rfl⟩
    · rw [if_neg e]
      exact .inl ho
theorem run_mark (w : World) (g : Nat) {cs : Array Value} {fr : Nat × Nat} (hg : w.heap[g]? = some (.cells cs 5 fr)) (h8 : cs.size = 8) : (convert 23 23 (.slice (some ⟨g, 0, none⟩) 8 8)).run Tryz.prog w = .ok (.slice (some ⟨g, 0, none⟩) 8 8) (w.freeze ⟨g, 8, none⟩ 1) := by
  have hsh : w.shape? g = some (5, 8) := by
    unfold World.shape?
    rw [hg]
    show some (_, cs.size) = _
    rw [h8]
  simp [convert, run_underlying Tryz.underlying23, run_underlying Tryz.underlying5, markStringish, hsh]
def hdT (h : Hd) (xs : List Int) (B wB : Nat) : Nat → Value → World → Prop
  | 0 => fun v _ => v = .pointer (some ⟨B, 0, none⟩)
  | 1 => fun v _ => v = .string h.name
  | 2 => fun v w => RowV (textF h.name 100) v w
  | 3 => fun v _ => v = .pointer (some ⟨B, 2, none⟩)
  | 4 => fun v _ => v = .int .i64 h.mode
  | 5 => fun v w => RowV (octB h.mode 8) v w
  | 6 => fun v w => RowV (octB 0 8) v w
  | 7 => fun v w => RowV (octB 0 8) v w
  | 8 => fun v _ => v = .pointer (some ⟨B, 3, none⟩)
  | 9 => fun v _ => v = .int .i64 h.size
  | 10 => fun v w => RowV (octB h.size 12) v w
  | 11 => fun v _ => v = .pointer (some ⟨B, 4, none⟩)
  | 12 => fun v _ => v = .int .i64 h.time
  | 13 => fun v w => RowV (octB h.time 12) v w
  | 14 => fun v w => RowV (textF ⟨#[]⟩ 8) v w
  | 15 => fun v _ => v = .pointer (some ⟨B, 5, none⟩)
  | 16 => fun v _ => v = .int .u8 h.kind
  | 17 => fun v w => RowV ([h.kind]) v w
  | 18 => fun v _ => v = .pointer (some ⟨B, 1, none⟩)
  | 19 => fun v _ => v = .string h.link
  | 20 => fun v w => RowV (textF h.link 100) v w
  | 21 => fun v w => RowM wB v w
  | 22 => fun v w => RowV (magicL) v w
  | 23 => fun v w => RowV (textF ⟨#[]⟩ 64) v w
  | 24 => fun v w => RowV (octB 0 8) v w
  | 25 => fun v w => RowV (octB 0 8) v w
  | 26 => fun v w => RowV (textF ⟨#[]⟩ 167) v w
  | 27 => fun v w => ∃ (A : Option Addr) (c : Nat), v = .slice A 14 c ∧ RowsAt w A (fieldsL h)
  | 28 => fun v w => RowB wB xs v w
  | 29 => fun v w => RowB wB xs v w
  | _ => fun _ _ => True
theorem hdT_mono (h : Hd) (xs : List Int) (hx : 512 ≤ xs.length) (B : Nat) (wb : World) : ∀ i v w w', Below wb.heap.size wb w → Gm wb w w' → hdT h xs B wb.heap.size i v w → hdT h xs B wb.heap.size i v w'
  | 0, _, _, _, _, hb => id
  | 1, _, _, _, _, hb => id
  | 2, _, _, _, _, hb => fun ⟨A, c, e, hl, hC⟩ => ⟨A, c, e, hl, hb.row hC⟩
  | 3, _, _, _, _, hb => id
  | 4, _, _, _, _, hb => id
  | 5, _, _, _, _, hb => fun ⟨A, c, e, hl, hC⟩ => ⟨A, c, e, hl, hb.row hC⟩
  | 6, _, _, _, _, hb => fun ⟨A, c, e, hl, hC⟩ => ⟨A, c, e, hl, hb.row hC⟩
  | 7, _, _, _, _, hb => fun ⟨A, c, e, hl, hC⟩ => ⟨A, c, e, hl, hb.row hC⟩
  | 8, _, _, _, _, hb => id
  | 9, _, _, _, _, hb => id
  | 10, _, _, _, _, hb => fun ⟨A, c, e, hl, hC⟩ => ⟨A, c, e, hl, hb.row hC⟩
  | 11, _, _, _, _, hb => id
  | 12, _, _, _, _, hb => id
  | 13, _, _, _, _, hb => fun ⟨A, c, e, hl, hC⟩ => ⟨A, c, e, hl, hb.row hC⟩
  | 14, _, _, _, _, hb => fun ⟨A, c, e, hl, hC⟩ => ⟨A, c, e, hl, hb.row hC⟩
  | 15, _, _, _, _, hb => id
  | 16, _, _, _, _, hb => id
  | 17, _, _, _, _, hb => fun ⟨A, c, e, hl, hC⟩ => ⟨A, c, e, hl, hb.row hC⟩
  | 18, _, _, _, _, hb => id
  | 19, _, _, _, _, hb => id
  | 20, _, _, _, _, hb => fun ⟨A, c, e, hl, hC⟩ => ⟨A, c, e, hl, hb.row hC⟩
  | 21, _, _, _, _, hb => fun hR => hb.lit hR
  | 22, _, _, _, _, hb => fun ⟨A, c, e, hl, hC⟩ => ⟨A, c, e, hl, hb.row hC⟩
  | 23, _, _, _, _, hb => fun ⟨A, c, e, hl, hC⟩ => ⟨A, c, e, hl, hb.row hC⟩
  | 24, _, _, _, _, hb => fun ⟨A, c, e, hl, hC⟩ => ⟨A, c, e, hl, hb.row hC⟩
  | 25, _, _, _, _, hb => fun ⟨A, c, e, hl, hC⟩ => ⟨A, c, e, hl, hb.row hC⟩
  | 26, _, _, _, _, hb => fun ⟨A, c, e, hl, hC⟩ => ⟨A, c, e, hl, hb.row hC⟩
  | 27, _, _, _, _, hb => fun ⟨A, c, e, hR⟩ => ⟨A, c, e, hb.rows hR⟩
  | 28, _, _, _, _, hb => fun hR => hb.own hx hR
  | 29, _, _, _, _, hb => fun hR => hb.own hx hR
  | _ + 30, _, _, _, _, _ => id
def headB (xs : List Int) : List Int := xs.take 148 ++ (octB (totalF xs) 7 ++ [32]) ++ xs.drop (148 + (octB (totalF xs) 7 ++ [32]).length)
theorem octP_len (v n : Int) : (octP v n).1.length ≤ 64 := by
  unfold octP
  split
  · simp
  · split
    · simp
    · simp only [List.length_append, List.length_replicate, List.length_singleton]
      omega
theorem take_C {w : World} {g : Nat} {cur : Array Value} {xs : List Int} {t : TypeId} {fr : Nat × Nat} (hg : w.heap[g]? = some (.cells cur t fr)) (ht : cur.toList.take xs.length = xs.map (Value.int .u8)) (hl : xs.length ≤ 65536) : (Kd.int .u8).C w (some ⟨g, 0, none⟩) xs.length xs := by
  refine ⟨rfl, by omega, fun _ => ⟨⟨g, 0, none⟩, rfl, fun j p hp => ⟨[.int .u8 p], rfl, rfl, fun i u hu => ?_⟩⟩⟩
  obtain ⟨rfl, rfl⟩ : i = 0 ∧ u = .int .u8 p := by
    cases i with
    | zero => exact ⟨rfl, (Option.some.inj hu).symm⟩
    | succ i => simp at hu
  rw [add_plain, show j * Kd.sz (Kd.int .u8) + 0 = j from by show j * 1 + 0 = j; omega]
  unfold World.cell?
  dsimp only
  rw [hg]
  have hj : j < xs.length := (List.getElem?_eq_some_iff.1 hp).1
  have e : (cur.toList.take xs.length)[j]? = some (.int .u8 p) := by rw [ht, List.getElem?_map, hp]; rfl
  rw [List.getElem?_take, if_pos hj] at e
  simpa using e
theorem splice_take {X T Y : List Value} {n : Nat} (hX : X.length = n) (h : 148 + Y.length ≤ n) : ((X ++ T).take 148 ++ Y ++ (X ++ T).drop (148 + Y.length)).take n = X.take 148 ++ Y ++ X.drop (148 + Y.length) := by
  have e1 : (X ++ T).take 148 = X.take 148 := List.take_append_of_le_length (by omega)
  have e2 : (X ++ T).drop (148 + Y.length) = X.drop (148 + Y.length) ++ T := List.drop_append_of_le_length (by omega)
  rw [e1, e2, ← List.append_assoc]
  refine List.take_left' ?_
  simp only [List.length_append, List.length_take, List.length_drop]
  omega
theorem patched {w w2 : World} {g c : Nat} {cur : Array Value} {xs Y : List Int} (hB : w.heap.size ≤ g) (hb : Below w.heap.size w w2) (hg : w2.heap[g]? = some (.cells cur 5 (0, 0))) (hl : 512 ≤ c) (hc : c ≤ maxLen) (hz : cur.size = c) (ht : cur.toList.take 512 = xs.map (Value.int .u8)) (hx : xs.length = 512) (hY : 148 + Y.length ≤ 512) :
    Made (xs.take 148 ++ Y ++ xs.drop (148 + Y.length)) w (.returned (.slice (some ⟨g, 0, none⟩) 512 c)) (w2.setRow g (cur.toList.take 148 ++ Y.map (Value.int .u8) ++ cur.toList.drop (148 + (Y.map (Value.int .u8)).length)).toArray) := by
  have hlen : (xs.take 148 ++ Y ++ xs.drop (148 + Y.length)).length = 512 := by
    simp only [List.length_append, List.length_take, List.length_drop]
    omega
  refine Made.mk (Kd.R_of_own ?_ (fun k _ => trivial)) (setRow_below hb hB)
  rw [hlen]
  refine ⟨by simp only [encs, List.length_map]; omega, .inr ⟨g, c, _, rfl, hB, heap_setRow hg, hl, hc, ?_, ?_⟩⟩
  · have := hz
    simp only [List.size_toArray, List.length_append, List.length_take, List.length_drop, List.length_map, Array.length_toList]
    omega
  · have hcur : cur.toList = xs.map (Value.int .u8) ++ cur.toList.drop 512 := by rw [← ht, List.take_append_drop]
    rw [Nat.mul_one, List.toList_toArray, hcur, splice_take (by simpa using hx) (by simpa using hY)]
    simp only [encs, List.map_append, List.map_take, List.map_drop, List.length_map]
theorem copy_148 {w2 : World} {g c : Nat} {cur : Array Value} {Y : List Int} {A : Option Addr} {n : Nat} (hg : w2.heap[g]? = some (.cells cur 5 (0, 0))) (hl : 512 ≤ cur.size) (hY : Y.length ≤ 364) (h0 : 0 < Y.length) (hC : (Kd.int .u8).C w2 A Y.length Y) (ty : TypeId) :
    (Builtin.copy_ #[23, 23] ty #[.slice (some ⟨g, 148, none⟩) 364 (c - 148), .slice A Y.length n]).run Tryz.prog w2 = .ok (.int .i64 (Y.length : Int)) (w2.setRow g (cur.toList.take 148 ++ Y.map (Value.int .u8) ++ cur.toList.drop (148 + (Y.map (Value.int .u8)).length)).toArray) := by
  obtain ⟨ad, rfl, hj⟩ := hC.2.2 h0
  have h := run_copy_row (P := Tryz.prog) w2 23 23 ty 5 g 148 364 (c - 148) ad Y.length n cur 5 (Y.map (Value.int .u8)) Tryz.underlying23 (by kernel_rfl) hg (by rw [List.length_map]; exact (Nat.min_eq_left hY).symm) (fun j v hv => by
    rw [List.getElem?_map] at hv
    obtain ⟨p, hp, rfl⟩ := Option.map_eq_some_iff.1 hv
    obtain ⟨cc, hlen, hK, hi⟩ := hj j p hp
    have hcc : cc = [.int .u8 p] := hK
    subst hcc
    have := hi 0 _ rfl
    rwa [show j * Kd.sz (Kd.int .u8) + 0 = j from by show j * 1 + 0 = j; omega] at this) (by rw [List.length_map]; omega) (fun v hv => by
    obtain ⟨p, _, rfl⟩ := List.mem_map.1 hv
    rfl)
  rw [h, List.length_map]
  rfl
theorem from_148 (g c : Nat) (hc : 512 ≤ c) : ∀ W, (Instr.slice 23 (.slice (some ⟨g, 0, none⟩) 512 c) (some (.int .i64 148)) none none).run Tryz.prog W = .ok (.slice (some ⟨g, 148, none⟩) 364 (c - 148)) W := fun W => by
  have h := Oct.cutF (some ⟨g, 0, none⟩) 512 c 148 (by omega) W
  rw [if_neg (by omega)] at h
  exact h
def ckT (xs Y : List Int) (g c : Nat) : Nat → Value → World → Prop
  | 0 => fun v _ => v = .slice (some ⟨g, 0, none⟩) 512 c
  | 1 => fun v _ => v = .slice (some ⟨g, 148, none⟩) 364 (c - 148)
  | 2 => fun v _ => v = .slice (some ⟨g, 0, none⟩) 512 c
  | 3 => fun v _ => v = .int .i64 (totalF xs)
  | 4 => fun v w => RowV (octB (totalF xs) 7) v w
  | 5 => fun v w => RowV [32] v w
  | 6 => fun v w => ∃ (A : Option Addr) (c : Nat), v = .slice A 2 c ∧ RowsAt w A [octB (totalF xs) 7, [32]]
  | 7 => fun v w => RowV Y v w
  | _ => fun _ _ => True
theorem ckT_mono (xs Y : List Int) (g c : Nat) : ∀ i v w w', Below w.heap.size w w' → ckT xs Y g c i v w → ckT xs Y g c i v w'
  | 0, _, _, _, hb => id
  | 1, _, _, _, hb => id
  | 2, _, _, _, hb => id
  | 3, _, _, _, hb => id
  | 4, _, _, _, hb => fun ⟨A, c, e, hl, hC⟩ => ⟨A, c, e, hl, Kd.C_below hC hb⟩
  | 5, _, _, _, hb => fun ⟨A, c, e, hl, hC⟩ => ⟨A, c, e, hl, Kd.C_below hC hb⟩
  | 6, _, _, _, hb => fun ⟨A, c, e, hR⟩ => ⟨A, c, e, hR.below hb⟩
  | 7, _, _, _, hb => fun ⟨A, c, e, hl, hC⟩ => ⟨A, c, e, hl, Kd.C_below hC hb⟩
  | _ + 8, _, _, _, _ => id
def hdF (ag : Value) (B : Nat) (v3 : Value) (us : Nat → Value) : Act := ⟨#[ag, .pointer (some ⟨B, 0, none⟩), .slice none 0 0, v3, us 29, v3, us 0, us 1, us 2, us 3, us 4, us 5, us 6, us 7, us 8, us 9, us 10, us 11, us 12, us 13, us 14, us 15, us 16, us 17, us 18, us 19, us 20, us 21, us 22, us 23, us 24, us 25, us 26, us 27, us 28, undef, undef, undef, undef, undef, undef, undef, undef, undef, undef], []⟩
set_option maxRecDepth 100000 in
set_option maxHeartbeats 8000000 in
theorem head_calls (h : Hd) (w : World) (hT : Tz w) (h1 : h.name.size ≤ 140737488351232) (h2 : h.link.size ≤ 140737488351232) (h3 : h.mode ≤ 9223372036854775807) (h4 : h.size ≤ 9223372036854775807) (h5 : h.time ≤ 9223372036854775807) (xs : List Int) (hxs : (fieldsL h).flatten = xs) (hlen : xs.length = 512) (hbyte : ∀ b ∈ xs, 0 ≤ b ∧ b ≤ 255) :
    Calls Tryz.prog 28 #[.agg #[.string h.name, .string h.link, .int .i64 h.mode, .int .i64 h.size, .int .i64 h.time, .int .u8 h.kind]] w (Made (headB xs) w) := by
  obtain ⟨wb, hwb⟩ : ∃ wb, wb = w.alloc (.cells #[.string h.name, .string h.link, .int .i64 h.mode, .int .i64 h.size, .int .i64 h.time, .int .u8 h.kind] 50) := ⟨_, rfl⟩
  have hbb : Below w.heap.size w wb := by rw [hwb]; exact balloc (Below.refl _ _) _
  have HBB := Lib.hid hbb
  have hbox : wb.heap[w.heap.size]? = some (.cells #[.string h.name, .string h.link, .int .i64 h.mode, .int .i64 h.size, .int .i64 h.time, .int .u8 h.kind] 50 (0, 0)) := by rw [hwb]; exact heap_alloc_new _ _
  have g0 : wb.cell? ⟨w.heap.size, 0, none⟩ = some (.string h.name) := by simp [World.cell?, hbox]
  have g1 : wb.cell? ⟨w.heap.size, 1, none⟩ = some (.string h.link) := by simp [World.cell?, hbox]
  have g2 : wb.cell? ⟨w.heap.size, 2, none⟩ = some (.int .i64 h.mode) := by simp [World.cell?, hbox]
  have g3 : wb.cell? ⟨w.heap.size, 3, none⟩ = some (.int .i64 h.size) := by simp [World.cell?, hbox]
  have g4 : wb.cell? ⟨w.heap.size, 4, none⟩ = some (.int .i64 h.time) := by simp [World.cell?, hbox]
  have g5 : wb.cell? ⟨w.heap.size, 5, none⟩ = some (.int .u8 h.kind) := by simp [World.cell?, hbox]
  have hQ := fun W (hb : Below wb.heap.size wb W) => (show W.cell? ⟨w.heap.size, 0, none⟩ = some (.string h.name) ∧ W.cell? ⟨w.heap.size, 1, none⟩ = some (.string h.link) ∧ W.cell? ⟨w.heap.size, 2, none⟩ = some (.int .i64 h.mode) ∧ W.cell? ⟨w.heap.size, 3, none⟩ = some (.int .i64 h.size) ∧ W.cell? ⟨w.heap.size, 4, none⟩ = some (.int .i64 h.time) ∧ W.cell? ⟨w.heap.size, 5, none⟩ = some (.int .u8 h.kind) from ⟨bkeep hb g0, bkeep hb g1, bkeep hb g2, bkeep hb g3, bkeep hb g4, bkeep hb g5⟩)
  have HQ := Lib.hid hQ
  have HTw := Lib.hid hT
  have HTb := Lib.hid (fun W (hb : Below wb.heap.size wb W) => (hT.below hbb).below hb)
  have HN := Lib.hid (fun W (hb : Below wb.heap.size wb W) => made2 hQ (text_calls h.name 100 (by omega) h1 W) hb)
  have HL0 := Lib.hid (fun W (hb : Below wb.heap.size wb W) => made2 hQ (text_calls h.link 100 (by omega) h2 W) hb)
  have HE := Lib.hid (fun n (hn : n ≤ 4096) W (hb : Below wb.heap.size wb W) => made2 hQ (text_calls ⟨#[]⟩ n hn (by decide) W) hb)
  have HO0 := Lib.hid (fun W (hb : Below wb.heap.size wb W) => made2 hQ (oct_calls 0 8 (by decide) W ((hT.below hbb).below hb)) hb)
  have HOM := Lib.hid (fun W (hb : Below wb.heap.size wb W) => made2 hQ (oct_calls h.mode 8 h3 W ((hT.below hbb).below hb)) hb)
  have HOS := Lib.hid (fun W (hb : Below wb.heap.size wb W) => made2 hQ (oct_calls h.size 12 h4 W ((hT.below hbb).below hb)) hb)
  have HOT := Lib.hid (fun W (hb : Below wb.heap.size wb W) => made2 hQ (oct_calls h.time 12 h5 W ((hT.below hbb).below hb)) hb)
  have HLEN := Lib.hid hlen
  have HXS := Lib.hid hxs
  have HBY := Lib.hid hbyte
  have HWB := Lib.hid hwb
  have HBX := Lib.hid hbox
  clear hQ hbox hT hwb hbb hlen hxs hbyte
  go_enter Tryz.func28, Tryz.ntmps28
  go_upto_region 1 with fail
  rw [← HWB.out]
  go_upto_region 2 with fail
  go_at_call 51
  with_reducible refine (HO0.out wb (Below.refl _ _)).mono ?_
  rintro e w0 ⟨A0, c0, rfl, l0, R0, B0, i0, i1, i2, i3, i4, i5⟩
  go_upto_region 2 with fail
  go_cut [4] (fun v wc => ∃ g c cur, v = .slice (some ⟨g, 0, none⟩) 512 c ∧ Hid (w.heap.size ≤ g) ∧ Hid (wc.heap[g]? = some (.cells cur 5 (0, 0))) ∧ Hid (512 ≤ c ∧ c ≤ maxLen ∧ cur.size = c ∧ cur.toList.take 512 = xs.map (Value.int .u8)) ∧ Hid (Below w.heap.size w wc))
  case rest =>
    obtain ⟨g, c, cur, rfl, HgB, HG, HL, HBw⟩ := hcut
    have HTc := Lib.hid (HTw.out.below HBw.out)
    have HS := Lib.hid (from_148 g c HL.out.1)
    have HTO := Lib.hid (totN_in HBY.out 512 (by rw [HLEN.out]; exact Nat.le_refl _))
    have HLY := Lib.hid (octP_len (totalF xs) 7)
    obtain ⟨Y, hY⟩ : ∃ Y, octB (totalF xs) 7 ++ [32] = Y := ⟨_, rfl⟩
    have HY := Lib.hid hY
    have HYL := Lib.hid (show 0 < Y.length ∧ Y.length ≤ 65 by
      have := HLY.out
      rw [← hY, List.length_append]
      show 0 < (octP (totalF xs) 7).1.length + 1 ∧ (octP (totalF xs) 7).1.length + 1 ≤ 65
      omega)
    clear hY
    clear HQ HTb HN HL0 HE HO0 HOM HOS HOT g0 g1 g2 g3 g4 g5 HBX HXS i0 i1 i2 i3 i4 i5
    go_upto_region 3 with fail
    refine region_last (wb := wc) (by kernel_rfl) 8 (by rfl) (by kernel_rfl) (fun us => (⟨#[.agg #[.string h.name, .string h.link, .int .i64 h.mode, .int .i64 h.size, .int .i64 h.time, .int .u8 h.kind], .pointer (some ⟨w.heap.size, 0, none⟩), .slice none 0 0, .slice A0 (octB 0 8).length c0, .slice (some ⟨g, 0, none⟩) 512 c, u5, u6, u7, u8, u9, u10, u11, u12, u13, u14, u15, u16, u17, u18, u19, u20, u21, u22, u23, u24, u25, u26, u27, u28, u29, u30, u31, u32, u33, u34, us 0, us 1, us 2, us 3, us 4, us 5, us 6, us 7, u43, u44], []⟩ : Act)) (ckT xs Y g c) (fun i => [u35, u36, u37, u38, u39, u40, u41, u42].getD i undef) (ckT_mono xs Y g c) ?_ (deps_of (by kernel_rfl)).1 (deps_of (by kernel_rfl)).2 (Below.refl _ _) ?_ ?_
    · intro i o ho hi us v
      iterate 8
        rcases i with _ | i
        · obtain rfl := Option.some.inj ho
          rfl
      omega
    · intro i o ho hi us w2 hb hdep K hK
      have hT2 := HTc.out.below hb
      have hg2 : w2.heap[g]? = some (.cells cur 5 (0, 0)) := by rw [hb.block g (Array.getElem?_eq_some_iff.1 HG.out).1]; exact HG.out
      rcases i with _ | i
      · obtain rfl := Option.some.inj ho
        clear ho hi
        clear hg2 hT2
        show wpList _ _ _ _ (⟨#[.agg #[.string h.name, .string h.link, .int .i64 h.mode, .int .i64 h.size, .int .i64 h.time, .int .u8 h.kind], .pointer (some ⟨w.heap.size, 0, none⟩), .slice none 0 0, .slice A0 (octB 0 8).length c0, .slice (some ⟨g, 0, none⟩) 512 c, u5, u6, u7, u8, u9, u10, u11, u12, u13, u14, u15, u16, u17, u18, u19, u20, u21, u22, u23, u24, u25, u26, u27, u28, u29, u30, u31, u32, u33, u34, us 0, us 1, us 2, us 3, us 4, us 5, us 6, us 7, u43, u44], []⟩ : Act) w2
        go_wp2
        exact hK _ _ (Below.refl _ _) rfl
      rcases i with _ | i
      · obtain rfl := Option.some.inj ho
        clear ho hi
        clear hg2 hT2
        obtain ⟨us, rfl⟩ : ∃ us', us = upd 0 (.slice (some ⟨g, 0, none⟩) 512 c) us' := ⟨us, upd_eq (hdep { on := 0, ground := .data } (by simp) rfl)⟩
        have hs1 := HS.out
        show wpList _ _ _ _ (⟨#[.agg #[.string h.name, .string h.link, .int .i64 h.mode, .int .i64 h.size, .int .i64 h.time, .int .u8 h.kind], .pointer (some ⟨w.heap.size, 0, none⟩), .slice none 0 0, .slice A0 (octB 0 8).length c0, .slice (some ⟨g, 0, none⟩) 512 c, u5, u6, u7, u8, u9, u10, u11, u12, u13, u14, u15, u16, u17, u18, u19, u20, u21, u22, u23, u24, u25, u26, u27, u28, u29, u30, u31, u32, u33, u34, .slice (some ⟨g, 0, none⟩) 512 c, us 1, us 2, us 3, us 4, us 5, us 6, us 7, u43, u44], []⟩ : Act) w2
        go_wp2
        exact hK _ _ (Below.refl _ _) rfl
      rcases i with _ | i
      · obtain rfl := Option.some.inj ho
        clear ho hi
        clear hg2 hT2
        show wpList _ _ _ _ (⟨#[.agg #[.string h.name, .string h.link, .int .i64 h.mode, .int .i64 h.size, .int .i64 h.time, .int .u8 h.kind], .pointer (some ⟨w.heap.size, 0, none⟩), .slice none 0 0, .slice A0 (octB 0 8).length c0, .slice (some ⟨g, 0, none⟩) 512 c, u5, u6, u7, u8, u9, u10, u11, u12, u13, u14, u15, u16, u17, u18, u19, u20, u21, u22, u23, u24, u25, u26, u27, u28, u29, u30, u31, u32, u33, u34, us 0, us 1, us 2, us 3, us 4, us 5, us 6, us 7, u43, u44], []⟩ : Act) w2
        go_wp2
        exact hK _ _ (Below.refl _ _) rfl
      rcases i with _ | i
      · obtain rfl := Option.some.inj ho
        clear ho hi
        obtain ⟨us, rfl⟩ : ∃ us', us = upd 2 (.slice (some ⟨g, 0, none⟩) 512 c) us' := ⟨us, upd_eq (hdep { on := 2, ground := .data } (by simp) rfl)⟩
        have HCC := Lib.hid (show Calls Tryz.prog 38 #[.slice (some ⟨g, 0, none⟩) 512 c] w2 (fun e w' => e = .returned (.int .i64 (totalF xs)) ∧ w' = w2) from by have h0 := total_calls (some ⟨g, 0, none⟩) c xs w2 (take_C hg2 (by rw [HLEN.out]; exact HL.out.2.2.2) (by rw [HLEN.out]; omega)) HBY.out (by rw [HLEN.out]; omega) (by rw [HLEN.out]; exact HL.out.1); rw [HLEN.out] at h0; exact h0)
        clear hg2 hT2
        show wpList _ _ _ _ (⟨#[.agg #[.string h.name, .string h.link, .int .i64 h.mode, .int .i64 h.size, .int .i64 h.time, .int .u8 h.kind], .pointer (some ⟨w.heap.size, 0, none⟩), .slice none 0 0, .slice A0 (octB 0 8).length c0, .slice (some ⟨g, 0, none⟩) 512 c, u5, u6, u7, u8, u9, u10, u11, u12, u13, u14, u15, u16, u17, u18, u19, u20, u21, u22, u23, u24, u25, u26, u27, u28, u29, u30, u31, u32, u33, u34, us 0, us 1, .slice (some ⟨g, 0, none⟩) 512 c, us 3, us 4, us 5, us 6, us 7, u43, u44], []⟩ : Act) w2
        go_wp2_with (go_at_call 38; refine HCC.out.mono ?_; rintro e w3 ⟨rfl, rfl⟩)
        exact hK _ _ (Below.refl _ _) rfl
      rcases i with _ | i
      · obtain rfl := Option.some.inj ho
        clear ho hi
        obtain ⟨us, rfl⟩ : ∃ us', us = upd 3 (.int .i64 (totalF xs)) us' := ⟨us, upd_eq (hdep { on := 3, ground := .data } (by simp) rfl)⟩
        have HCC := Lib.hid (oct_calls (totalF xs) 7 (by have := HTO.out.2; show totN xs 512 ≤ _; omega) w2 hT2)
        clear hg2 hT2
        show wpList _ _ _ _ (⟨#[.agg #[.string h.name, .string h.link, .int .i64 h.mode, .int .i64 h.size, .int .i64 h.time, .int .u8 h.kind], .pointer (some ⟨w.heap.size, 0, none⟩), .slice none 0 0, .slice A0 (octB 0 8).length c0, .slice (some ⟨g, 0, none⟩) 512 c, u5, u6, u7, u8, u9, u10, u11, u12, u13, u14, u15, u16, u17, u18, u19, u20, u21, u22, u23, u24, u25, u26, u27, u28, u29, u30, u31, u32, u33, u34, us 0, us 1, us 2, .int .i64 (totalF xs), us 4, us 5, us 6, us 7, u43, u44], []⟩ : Act) w2
        go_wp2_with (go_at_call 51; refine HCC.out.mono ?_; rintro e w3 ⟨A, c', rfl, hl, hR, hB⟩)
        exact hK _ _ hB.out ⟨A, c', rfl, hl, rowC hR.out⟩
      rcases i with _ | i
      · obtain rfl := Option.some.inj ho
        clear ho hi
        clear hg2 hT2
        show wpList _ _ _ _ (⟨#[.agg #[.string h.name, .string h.link, .int .i64 h.mode, .int .i64 h.size, .int .i64 h.time, .int .u8 h.kind], .pointer (some ⟨w.heap.size, 0, none⟩), .slice none 0 0, .slice A0 (octB 0 8).length c0, .slice (some ⟨g, 0, none⟩) 512 c, u5, u6, u7, u8, u9, u10, u11, u12, u13, u14, u15, u16, u17, u18, u19, u20, u21, u22, u23, u24, u25, u26, u27, u28, u29, u30, u31, u32, u33, u34, us 0, us 1, us 2, us 3, us 4, us 5, us 6, us 7, u43, u44], []⟩ : Act) w2
        go_wp2
        exact hK _ _ (balloc (Below.refl _ _) _) ⟨_, 1, rfl, Nat.le_refl _, lit_C w2 [32] _ (show 1 ≤ 65536 by decide)⟩
      rcases i with _ | i
      · obtain rfl := Option.some.inj ho
        clear ho hi
        clear hg2 hT2
        obtain ⟨A4', c4', e4, l4', C4⟩ := (hdep { on := 4, ground := .data } (by simp) rfl)
        obtain ⟨A5', c5', e5, l5', C5⟩ := (hdep { on := 5, ground := .data } (by simp) rfl)
        clear hdep
        obtain ⟨us, rfl⟩ : ∃ us', us = upd 4 (.slice A4' (octB (totalF xs) 7).length c4') us' := ⟨us, upd_eq e4⟩
        obtain ⟨us, rfl⟩ : ∃ us', us = upd 5 (.slice A5' ([32] : List Int).length c5') us' := ⟨us, upd_eq e5⟩
        show wpList _ _ _ _ (⟨#[.agg #[.string h.name, .string h.link, .int .i64 h.mode, .int .i64 h.size, .int .i64 h.time, .int .u8 h.kind], .pointer (some ⟨w.heap.size, 0, none⟩), .slice none 0 0, .slice A0 (octB 0 8).length c0, .slice (some ⟨g, 0, none⟩) 512 c, u5, u6, u7, u8, u9, u10, u11, u12, u13, u14, u15, u16, u17, u18, u19, u20, u21, u22, u23, u24, u25, u26, u27, u28, u29, u30, u31, u32, u33, u34, us 0, us 1, us 2, us 3, .slice A4' (octB (totalF xs) 7).length c4', .slice A5' ([32] : List Int).length c5', us 6, us 7, u43, u44], []⟩ : Act) w2
        go_wp2
        refine hK _ _ (balloc (Below.refl _ _) _) ⟨_, 2, rfl, rows_lit w2 [.slice A4' (octB (totalF xs) 7).length c4', .slice A5' ([32] : List Int).length c5'] [octB (totalF xs) 7, [32]] _ (fun i x hx => ?_)⟩
        rcases i with _ | i
        · obtain rfl := Option.some.inj hx
          exact ⟨_, _, rfl, l4', C4⟩
        rcases i with _ | i
        · obtain rfl := Option.some.inj hx
          exact ⟨_, _, rfl, l5', C5⟩
        cases hx
      rcases i with _ | i
      · obtain rfl := Option.some.inj ho
        clear ho hi
        clear hg2 hT2
        obtain ⟨A, c', d1, hR⟩ := (hdep { on := 6, ground := .data } (by simp) rfl)
        obtain ⟨us, rfl⟩ : ∃ us', us = upd 6 (.slice A 2 c') us' := ⟨us, upd_eq d1⟩
        have HCC := Lib.hid (show Calls Tryz.prog 27 #[.slice A 2 c'] w2 (Made Y w2) from by have h0 := laid_calls A c' [octB (totalF xs) 7, [32]] w2 hR (by have := HYL.out; show (octB (totalF xs) 7 ++ [32]).length ≤ _; rw [HY.out]; omega) (show 2 ≤ 65536 by decide); have e1 : [octB (totalF xs) 7, [32]].flatten = Y := HY.out; rw [e1] at h0; exact h0)
        show wpList _ _ _ _ (⟨#[.agg #[.string h.name, .string h.link, .int .i64 h.mode, .int .i64 h.size, .int .i64 h.time, .int .u8 h.kind], .pointer (some ⟨w.heap.size, 0, none⟩), .slice none 0 0, .slice A0 (octB 0 8).length c0, .slice (some ⟨g, 0, none⟩) 512 c, u5, u6, u7, u8, u9, u10, u11, u12, u13, u14, u15, u16, u17, u18, u19, u20, u21, u22, u23, u24, u25, u26, u27, u28, u29, u30, u31, u32, u33, u34, us 0, us 1, us 2, us 3, us 4, us 5, .slice A 2 c', us 7, u43, u44], []⟩ : Act) w2
        go_wp2_with (go_at_call 27; refine HCC.out.mono ?_; rintro e w3 ⟨A3, c3, rfl, hl, hR3, hB⟩)
        exact hK _ _ hB.out ⟨A3, c3, rfl, hl, rowC hR3.out⟩
      omega
    · intro o ho us w2 hb hT K hK
      have hg2 : w2.heap[g]? = some (.cells cur 5 (0, 0)) := by rw [hb.block g (Array.getElem?_eq_some_iff.1 HG.out).1]; exact HG.out
      have e1 := hT 1 (by omega)
      obtain ⟨A, c', e7, l7, C7⟩ := hT 7 (by omega)
      clear hT
      obtain rfl := Option.some.inj ho
      clear ho
      have hYl := HYL.out
      have hcp := fun ty => copy_148 (c := c) (n := c') hg2 (by rw [HL.out.2.2.1]; exact HL.out.1) (by omega) hYl.1 C7 ty
      have HP := Lib.hid (show Made (headB xs) w (.returned (.slice (some ⟨g, 0, none⟩) 512 c)) (w2.setRow g (cur.toList.take 148 ++ Y.map (Value.int .u8) ++ cur.toList.drop (148 + (Y.map (Value.int .u8)).length)).toArray) from by
        have h0 := patched HgB.out (bgo HBw.out hb) hg2 HL.out.1 HL.out.2.1 HL.out.2.2.1 HL.out.2.2.2 HLEN.out (Y := Y) (by omega)
        unfold headB
        rw [HY.out]
        exact h0)
      generalize (cur.toList.take 148 ++ Y.map (Value.int .u8) ++ cur.toList.drop (148 + (Y.map (Value.int .u8)).length)).toArray = cur2 at *
      clear hg2 hYl C7 l7
      obtain ⟨us, rfl⟩ : ∃ us', us = upd 1 (.slice (some ⟨g, 148, none⟩) 364 (c - 148)) us' := ⟨us, upd_eq e1⟩
      obtain ⟨us, rfl⟩ : ∃ us', us = upd 7 (.slice A Y.length c') us' := ⟨us, upd_eq e7⟩
      show wpList _ _ _ _ (⟨#[.agg #[.string h.name, .string h.link, .int .i64 h.mode, .int .i64 h.size, .int .i64 h.time, .int .u8 h.kind], .pointer (some ⟨w.heap.size, 0, none⟩), .slice none 0 0, .slice A0 (octB 0 8).length c0, .slice (some ⟨g, 0, none⟩) 512 c, u5, u6, u7, u8, u9, u10, u11, u12, u13, u14, u15, u16, u17, u18, u19, u20, u21, u22, u23, u24, u25, u26, u27, u28, u29, u30, u31, u32, u33, u34, us 0, .slice (some ⟨g, 148, none⟩) 364 (c - 148), us 2, us 3, us 4, us 5, us 6, .slice A Y.length c', u43, u44], []⟩ : Act) w2
      go_wp2
      refine hK _ _ ?_
      go_wp2_with fail
      go_ret
      exact HP.out
  refine region_T (wb := w0) (by kernel_rfl) (Gm w0) (hdF (.agg #[.string h.name, .string h.link, .int .i64 h.mode, .int .i64 h.size, .int .i64 h.time, .int .u8 h.kind]) w.heap.size (.slice A0 (octB 0 8).length c0)) (hdT h xs w.heap.size w0.heap.size) (fun _ => undef) (fun _ _ _ h => h.1) (hdT_mono h xs (by rw [HLEN.out]; omega) w.heap.size w0) ?_ (deps_of (by kernel_rfl)).1 (deps_of (by kernel_rfl)).2 (Below.refl _ _) ?_ ?_
  · intro i o ho us v
    iterate 30
      rcases i with _ | i
      · obtain rfl := Option.some.inj ho
        rfl
    cases ho
  · intro i o ho us w2 hb hdep K hK
    have hbb := bgo B0.out hb
    obtain ⟨q0, q1, q2, q3, q4, q5⟩ := HQ.out w2 hbb
    have hT2 := HTb.out w2 hbb
    rcases i with _ | i
    · obtain rfl := Option.some.inj ho
      clear ho
      show wpList _ _ _ _ (⟨#[.agg #[.string h.name, .string h.link, .int .i64 h.mode, .int .i64 h.size, .int .i64 h.time, .int .u8 h.kind], .pointer (some ⟨w.heap.size, 0, none⟩), .slice none 0 0, .slice A0 (octB 0 8).length c0, us 29, .slice A0 (octB 0 8).length c0, us 0, us 1, us 2, us 3, us 4, us 5, us 6, us 7, us 8, us 9, us 10, us 11, us 12, us 13, us 14, us 15, us 16, us 17, us 18, us 19, us 20, us 21, us 22, us 23, us 24, us 25, us 26, us 27, us 28, undef, undef, undef, undef, undef, undef, undef, undef, undef, undef], []⟩ : Act) w2
      go_wp2
      exact hK _ _ (gm hb (Below.refl _ _)) rfl
    rcases i with _ | i
    · obtain rfl := Option.some.inj ho
      clear ho
      obtain ⟨us, rfl⟩ : ∃ us', us = upd 0 (.pointer (some ⟨w.heap.size, 0, none⟩)) us' := ⟨us, upd_eq (hdep { on := 0, ground := .data } (by simp) rfl)⟩
      show wpList _ _ _ _ (⟨#[.agg #[.string h.name, .string h.link, .int .i64 h.mode, .int .i64 h.size, .int .i64 h.time, .int .u8 h.kind], .pointer (some ⟨w.heap.size, 0, none⟩), .slice none 0 0, .slice A0 (octB 0 8).length c0, us 29, .slice A0 (octB 0 8).length c0, .pointer (some ⟨w.heap.size, 0, none⟩), us 1, us 2, us 3, us 4, us 5, us 6, us 7, us 8, us 9, us 10, us 11, us 12, us 13, us 14, us 15, us 16, us 17, us 18, us 19, us 20, us 21, us 22, us 23, us 24, us 25, us 26, us 27, us 28, undef, undef, undef, undef, undef, undef, undef, undef, undef, undef], []⟩ : Act) w2
      go_wp2
      exact hK _ _ (gm hb (Below.refl _ _)) rfl
    rcases i with _ | i
    · obtain rfl := Option.some.inj ho
      clear ho
      obtain ⟨us, rfl⟩ : ∃ us', us = upd 1 (.string h.name) us' := ⟨us, upd_eq (hdep { on := 1, ground := .data } (by simp) rfl)⟩
      have HCC := Lib.hid (text_calls h.name 100 (by omega) h1 w2)
      show wpList _ _ _ _ (⟨#[.agg #[.string h.name, .string h.link, .int .i64 h.mode, .int .i64 h.size, .int .i64 h.time, .int .u8 h.kind], .pointer (some ⟨w.heap.size, 0, none⟩), .slice none 0 0, .slice A0 (octB 0 8).length c0, us 29, .slice A0 (octB 0 8).length c0, us 0, .string h.name, us 2, us 3, us 4, us 5, us 6, us 7, us 8, us 9, us 10, us 11, us 12, us 13, us 14, us 15, us 16, us 17, us 18, us 19, us 20, us 21, us 22, us 23, us 24, us 25, us 26, us 27, us 28, undef, undef, undef, undef, undef, undef, undef, undef, undef, undef], []⟩ : Act) w2
      go_wp2_with (go_at_call 52; refine HCC.out.mono ?_; rintro e w3 ⟨A, c, rfl, hl, hR, hB⟩)
      exact hK _ _ (gm hb hB.out) ⟨A, c, rfl, hl, rowC hR.out⟩
    rcases i with _ | i
    · obtain rfl := Option.some.inj ho
      clear ho
      show wpList _ _ _ _ (⟨#[.agg #[.string h.name, .string h.link, .int .i64 h.mode, .int .i64 h.size, .int .i64 h.time, .int .u8 h.kind], .pointer (some ⟨w.heap.size, 0, none⟩), .slice none 0 0, .slice A0 (octB 0 8).length c0, us 29, .slice A0 (octB 0 8).length c0, us 0, us 1, us 2, us 3, us 4, us 5, us 6, us 7, us 8, us 9, us 10, us 11, us 12, us 13, us 14, us 15, us 16, us 17, us 18, us 19, us 20, us 21, us 22, us 23, us 24, us 25, us 26, us 27, us 28, undef, undef, undef, undef, undef, undef, undef, undef, undef, undef], []⟩ : Act) w2
      go_wp2
      exact hK _ _ (gm hb (Below.refl _ _)) rfl
    rcases i with _ | i
    · obtain rfl := Option.some.inj ho
      clear ho
      obtain ⟨us, rfl⟩ : ∃ us', us = upd 3 (.pointer (some ⟨w.heap.size, 2, none⟩)) us' := ⟨us, upd_eq (hdep { on := 3, ground := .data } (by simp) rfl)⟩
      show wpList _ _ _ _ (⟨#[.agg #[.string h.name, .string h.link, .int .i64 h.mode, .int .i64 h.size, .int .i64 h.time, .int .u8 h.kind], .pointer (some ⟨w.heap.size, 0, none⟩), .slice none 0 0, .slice A0 (octB 0 8).length c0, us 29, .slice A0 (octB 0 8).length c0, us 0, us 1, us 2, .pointer (some ⟨w.heap.size, 2, none⟩), us 4, us 5, us 6, us 7, us 8, us 9, us 10, us 11, us 12, us 13, us 14, us 15, us 16, us 17, us 18, us 19, us 20, us 21, us 22, us 23, us 24, us 25, us 26, us 27, us 28, undef, undef, undef, undef, undef, undef, undef, undef, undef, undef], []⟩ : Act) w2
      go_wp2
      exact hK _ _ (gm hb (Below.refl _ _)) rfl
    rcases i with _ | i
    · obtain rfl := Option.some.inj ho
      clear ho
      obtain ⟨us, rfl⟩ : ∃ us', us = upd 4 (.int .i64 h.mode) us' := ⟨us, upd_eq (hdep { on := 4, ground := .data } (by simp) rfl)⟩
      have HCC := Lib.hid (oct_calls h.mode 8 h3 w2 hT2)
      show wpList _ _ _ _ (⟨#[.agg #[.string h.name, .string h.link, .int .i64 h.mode, .int .i64 h.size, .int .i64 h.time, .int .u8 h.kind], .pointer (some ⟨w.heap.size, 0, none⟩), .slice none 0 0, .slice A0 (octB 0 8).length c0, us 29, .slice A0 (octB 0 8).length c0, us 0, us 1, us 2, us 3, .int .i64 h.mode, us 5, us 6, us 7, us 8, us 9, us 10, us 11, us 12, us 13, us 14, us 15, us 16, us 17, us 18, us 19, us 20, us 21, us 22, us 23, us 24, us 25, us 26, us 27, us 28, undef, undef, undef, undef, undef, undef, undef, undef, undef, undef], []⟩ : Act) w2
      go_wp2_with (go_at_call 51; refine HCC.out.mono ?_; rintro e w3 ⟨A, c, rfl, hl, hR, hB⟩)
      exact hK _ _ (gm hb hB.out) ⟨A, c, rfl, hl, rowC hR.out⟩
    rcases i with _ | i
    · obtain rfl := Option.some.inj ho
      clear ho
      show wpList _ _ _ _ (⟨#[.agg #[.string h.name, .string h.link, .int .i64 h.mode, .int .i64 h.size, .int .i64 h.time, .int .u8 h.kind], .pointer (some ⟨w.heap.size, 0, none⟩), .slice none 0 0, .slice A0 (octB 0 8).length c0, us 29, .slice A0 (octB 0 8).length c0, us 0, us 1, us 2, us 3, us 4, us 5, us 6, us 7, us 8, us 9, us 10, us 11, us 12, us 13, us 14, us 15, us 16, us 17, us 18, us 19, us 20, us 21, us 22, us 23, us 24, us 25, us 26, us 27, us 28, undef, undef, undef, undef, undef, undef, undef, undef, undef, undef], []⟩ : Act) w2
      go_wp2
      exact hK _ _ (gm hb (Below.refl _ _)) ⟨A0, c0, rfl, l0, Kd.C_below (rowC R0.out) hb⟩
    rcases i with _ | i
    · obtain rfl := Option.some.inj ho
      clear ho
      show wpList _ _ _ _ (⟨#[.agg #[.string h.name, .string h.link, .int .i64 h.mode, .int .i64 h.size, .int .i64 h.time, .int .u8 h.kind], .pointer (some ⟨w.heap.size, 0, none⟩), .slice none 0 0, .slice A0 (octB 0 8).length c0, us 29, .slice A0 (octB 0 8).length c0, us 0, us 1, us 2, us 3, us 4, us 5, us 6, us 7, us 8, us 9, us 10, us 11, us 12, us 13, us 14, us 15, us 16, us 17, us 18, us 19, us 20, us 21, us 22, us 23, us 24, us 25, us 26, us 27, us 28, undef, undef, undef, undef, undef, undef, undef, undef, undef, undef], []⟩ : Act) w2
      go_wp2
      exact hK _ _ (gm hb (Below.refl _ _)) ⟨A0, c0, rfl, l0, Kd.C_below (rowC R0.out) hb⟩
    rcases i with _ | i
    · obtain rfl := Option.some.inj ho
      clear ho
      show wpList _ _ _ _ (⟨#[.agg #[.string h.name, .string h.link, .int .i64 h.mode, .int .i64 h.size, .int .i64 h.time, .int .u8 h.kind], .pointer (some ⟨w.heap.size, 0, none⟩), .slice none 0 0, .slice A0 (octB 0 8).length c0, us 29, .slice A0 (octB 0 8).length c0, us 0, us 1, us 2, us 3, us 4, us 5, us 6, us 7, us 8, us 9, us 10, us 11, us 12, us 13, us 14, us 15, us 16, us 17, us 18, us 19, us 20, us 21, us 22, us 23, us 24, us 25, us 26, us 27, us 28, undef, undef, undef, undef, undef, undef, undef, undef, undef, undef], []⟩ : Act) w2
      go_wp2
      exact hK _ _ (gm hb (Below.refl _ _)) rfl
    rcases i with _ | i
    · obtain rfl := Option.some.inj ho
      clear ho
      obtain ⟨us, rfl⟩ : ∃ us', us = upd 8 (.pointer (some ⟨w.heap.size, 3, none⟩)) us' := ⟨us, upd_eq (hdep { on := 8, ground := .data } (by simp) rfl)⟩
      show wpList _ _ _ _ (⟨#[.agg #[.string h.name, .string h.link, .int .i64 h.mode, .int .i64 h.size, .int .i64 h.time, .int .u8 h.kind], .pointer (some ⟨w.heap.size, 0, none⟩), .slice none 0 0, .slice A0 (octB 0 8).length c0, us 29, .slice A0 (octB 0 8).length c0, us 0, us 1, us 2, us 3, us 4, us 5, us 6, us 7, .pointer (some ⟨w.heap.size, 3, none⟩), us 9, us 10, us 11, us 12, us 13, us 14, us 15, us 16, us 17, us 18, us 19, us 20, us 21, us 22, us 23, us 24, us 25, us 26, us 27, us 28, undef, undef, undef, undef, undef, undef, undef, undef, undef, undef], []⟩ : Act) w2
      go_wp2
      exact hK _ _ (gm hb (Below.refl _ _)) rfl
    rcases i with _ | i
    · obtain rfl := Option.some.inj ho
      clear ho
      obtain ⟨us, rfl⟩ : ∃ us', us = upd 9 (.int .i64 h.size) us' := ⟨us, upd_eq (hdep { on := 9, ground := .data } (by simp) rfl)⟩
      have HCC := Lib.hid (oct_calls h.size 12 h4 w2 hT2)
      show wpList _ _ _ _ (⟨#[.agg #[.string h.name, .string h.link, .int .i64 h.mode, .int .i64 h.size, .int .i64 h.time, .int .u8 h.kind], .pointer (some ⟨w.heap.size, 0, none⟩), .slice none 0 0, .slice A0 (octB 0 8).length c0, us 29, .slice A0 (octB 0 8).length c0, us 0, us 1, us 2, us 3, us 4, us 5, us 6, us 7, us 8, .int .i64 h.size, us 10, us 11, us 12, us 13, us 14, us 15, us 16, us 17, us 18, us 19, us 20, us 21, us 22, us 23, us 24, us 25, us 26, us 27, us 28, undef, undef, undef, undef, undef, undef, undef, undef, undef, undef], []⟩ : Act) w2
      go_wp2_with (go_at_call 51; refine HCC.out.mono ?_; rintro e w3 ⟨A, c, rfl, hl, hR, hB⟩)
      exact hK _ _ (gm hb hB.out) ⟨A, c, rfl, hl, rowC hR.out⟩
    rcases i with _ | i
    · obtain rfl := Option.some.inj ho
      clear ho
      show wpList _ _ _ _ (⟨#[.agg #[.string h.name, .string h.link, .int .i64 h.mode, .int .i64 h.size, .int .i64 h.time, .int .u8 h.kind], .pointer (some ⟨w.heap.size, 0, none⟩), .slice none 0 0, .slice A0 (octB 0 8).length c0, us 29, .slice A0 (octB 0 8).length c0, us 0, us 1, us 2, us 3, us 4, us 5, us 6, us 7, us 8, us 9, us 10, us 11, us 12, us 13, us 14, us 15, us 16, us 17, us 18, us 19, us 20, us 21, us 22, us 23, us 24, us 25, us 26, us 27, us 28, undef, undef, undef, undef, undef, undef, undef, undef, undef, undef], []⟩ : Act) w2
      go_wp2
      exact hK _ _ (gm hb (Below.refl _ _)) rfl
    rcases i with _ | i
    · obtain rfl := Option.some.inj ho
      clear ho
      obtain ⟨us, rfl⟩ : ∃ us', us = upd 11 (.pointer (some ⟨w.heap.size, 4, none⟩)) us' := ⟨us, upd_eq (hdep { on := 11, ground := .data } (by simp) rfl)⟩
      show wpList _ _ _ _ (⟨#[.agg #[.string h.name, .string h.link, .int .i64 h.mode, .int .i64 h.size, .int .i64 h.time, .int .u8 h.kind], .pointer (some ⟨w.heap.size, 0, none⟩), .slice none 0 0, .slice A0 (octB 0 8).length c0, us 29, .slice A0 (octB 0 8).length c0, us 0, us 1, us 2, us 3, us 4, us 5, us 6, us 7, us 8, us 9, us 10, .pointer (some ⟨w.heap.size, 4, none⟩), us 12, us 13, us 14, us 15, us 16, us 17, us 18, us 19, us 20, us 21, us 22, us 23, us 24, us 25, us 26, us 27, us 28, undef, undef, undef, undef, undef, undef, undef, undef, undef, undef], []⟩ : Act) w2
      go_wp2
      exact hK _ _ (gm hb (Below.refl _ _)) rfl
    rcases i with _ | i
    · obtain rfl := Option.some.inj ho
      clear ho
      obtain ⟨us, rfl⟩ : ∃ us', us = upd 12 (.int .i64 h.time) us' := ⟨us, upd_eq (hdep { on := 12, ground := .data } (by simp) rfl)⟩
      have HCC := Lib.hid (oct_calls h.time 12 h5 w2 hT2)
      show wpList _ _ _ _ (⟨#[.agg #[.string h.name, .string h.link, .int .i64 h.mode, .int .i64 h.size, .int .i64 h.time, .int .u8 h.kind], .pointer (some ⟨w.heap.size, 0, none⟩), .slice none 0 0, .slice A0 (octB 0 8).length c0, us 29, .slice A0 (octB 0 8).length c0, us 0, us 1, us 2, us 3, us 4, us 5, us 6, us 7, us 8, us 9, us 10, us 11, .int .i64 h.time, us 13, us 14, us 15, us 16, us 17, us 18, us 19, us 20, us 21, us 22, us 23, us 24, us 25, us 26, us 27, us 28, undef, undef, undef, undef, undef, undef, undef, undef, undef, undef], []⟩ : Act) w2
      go_wp2_with (go_at_call 51; refine HCC.out.mono ?_; rintro e w3 ⟨A, c, rfl, hl, hR, hB⟩)
      exact hK _ _ (gm hb hB.out) ⟨A, c, rfl, hl, rowC hR.out⟩
    rcases i with _ | i
    · obtain rfl := Option.some.inj ho
      clear ho
      have HCC := Lib.hid (text_calls ⟨#[]⟩ 8 (by omega) (by decide) w2)
      show wpList _ _ _ _ (⟨#[.agg #[.string h.name, .string h.link, .int .i64 h.mode, .int .i64 h.size, .int .i64 h.time, .int .u8 h.kind], .pointer (some ⟨w.heap.size, 0, none⟩), .slice none 0 0, .slice A0 (octB 0 8).length c0, us 29, .slice A0 (octB 0 8).length c0, us 0, us 1, us 2, us 3, us 4, us 5, us 6, us 7, us 8, us 9, us 10, us 11, us 12, us 13, us 14, us 15, us 16, us 17, us 18, us 19, us 20, us 21, us 22, us 23, us 24, us 25, us 26, us 27, us 28, undef, undef, undef, undef, undef, undef, undef, undef, undef, undef], []⟩ : Act) w2
      go_wp2_with (go_at_call 52; refine HCC.out.mono ?_; rintro e w3 ⟨A, c, rfl, hl, hR, hB⟩)
      exact hK _ _ (gm hb hB.out) ⟨A, c, rfl, hl, rowC hR.out⟩
    rcases i with _ | i
    · obtain rfl := Option.some.inj ho
      clear ho
      show wpList _ _ _ _ (⟨#[.agg #[.string h.name, .string h.link, .int .i64 h.mode, .int .i64 h.size, .int .i64 h.time, .int .u8 h.kind], .pointer (some ⟨w.heap.size, 0, none⟩), .slice none 0 0, .slice A0 (octB 0 8).length c0, us 29, .slice A0 (octB 0 8).length c0, us 0, us 1, us 2, us 3, us 4, us 5, us 6, us 7, us 8, us 9, us 10, us 11, us 12, us 13, us 14, us 15, us 16, us 17, us 18, us 19, us 20, us 21, us 22, us 23, us 24, us 25, us 26, us 27, us 28, undef, undef, undef, undef, undef, undef, undef, undef, undef, undef], []⟩ : Act) w2
      go_wp2
      exact hK _ _ (gm hb (Below.refl _ _)) rfl
    rcases i with _ | i
    · obtain rfl := Option.some.inj ho
      clear ho
      obtain ⟨us, rfl⟩ : ∃ us', us = upd 15 (.pointer (some ⟨w.heap.size, 5, none⟩)) us' := ⟨us, upd_eq (hdep { on := 15, ground := .data } (by simp) rfl)⟩
      show wpList _ _ _ _ (⟨#[.agg #[.string h.name, .string h.link, .int .i64 h.mode, .int .i64 h.size, .int .i64 h.time, .int .u8 h.kind], .pointer (some ⟨w.heap.size, 0, none⟩), .slice none 0 0, .slice A0 (octB 0 8).length c0, us 29, .slice A0 (octB 0 8).length c0, us 0, us 1, us 2, us 3, us 4, us 5, us 6, us 7, us 8, us 9, us 10, us 11, us 12, us 13, us 14, .pointer (some ⟨w.heap.size, 5, none⟩), us 16, us 17, us 18, us 19, us 20, us 21, us 22, us 23, us 24, us 25, us 26, us 27, us 28, undef, undef, undef, undef, undef, undef, undef, undef, undef, undef], []⟩ : Act) w2
      go_wp2
      exact hK _ _ (gm hb (Below.refl _ _)) rfl
    rcases i with _ | i
    · obtain rfl := Option.some.inj ho
      clear ho
      obtain ⟨us, rfl⟩ : ∃ us', us = upd 16 (.int .u8 h.kind) us' := ⟨us, upd_eq (hdep { on := 16, ground := .data } (by simp) rfl)⟩
      show wpList _ _ _ _ (⟨#[.agg #[.string h.name, .string h.link, .int .i64 h.mode, .int .i64 h.size, .int .i64 h.time, .int .u8 h.kind], .pointer (some ⟨w.heap.size, 0, none⟩), .slice none 0 0, .slice A0 (octB 0 8).length c0, us 29, .slice A0 (octB 0 8).length c0, us 0, us 1, us 2, us 3, us 4, us 5, us 6, us 7, us 8, us 9, us 10, us 11, us 12, us 13, us 14, us 15, .int .u8 h.kind, us 17, us 18, us 19, us 20, us 21, us 22, us 23, us 24, us 25, us 26, us 27, us 28, undef, undef, undef, undef, undef, undef, undef, undef, undef, undef], []⟩ : Act) w2
      go_wp2
      exact hK _ _ (gm hb (balloc (Below.refl _ _) _)) ⟨_, 1, rfl, Nat.le_refl _, lit_C w2 [h.kind] _ (show 1 ≤ 65536 by decide)⟩
    rcases i with _ | i
    · obtain rfl := Option.some.inj ho
      clear ho
      show wpList _ _ _ _ (⟨#[.agg #[.string h.name, .string h.link, .int .i64 h.mode, .int .i64 h.size, .int .i64 h.time, .int .u8 h.kind], .pointer (some ⟨w.heap.size, 0, none⟩), .slice none 0 0, .slice A0 (octB 0 8).length c0, us 29, .slice A0 (octB 0 8).length c0, us 0, us 1, us 2, us 3, us 4, us 5, us 6, us 7, us 8, us 9, us 10, us 11, us 12, us 13, us 14, us 15, us 16, us 17, us 18, us 19, us 20, us 21, us 22, us 23, us 24, us 25, us 26, us 27, us 28, undef, undef, undef, undef, undef, undef, undef, undef, undef, undef], []⟩ : Act) w2
      go_wp2
      exact hK _ _ (gm hb (Below.refl _ _)) rfl
    rcases i with _ | i
    · obtain rfl := Option.some.inj ho
      clear ho
      obtain ⟨us, rfl⟩ : ∃ us', us = upd 18 (.pointer (some ⟨w.heap.size, 1, none⟩)) us' := ⟨us, upd_eq (hdep { on := 18, ground := .data } (by simp) rfl)⟩
      show wpList _ _ _ _ (⟨#[.agg #[.string h.name, .string h.link, .int .i64 h.mode, .int .i64 h.size, .int .i64 h.time, .int .u8 h.kind], .pointer (some ⟨w.heap.size, 0, none⟩), .slice none 0 0, .slice A0 (octB 0 8).length c0, us 29, .slice A0 (octB 0 8).length c0, us 0, us 1, us 2, us 3, us 4, us 5, us 6, us 7, us 8, us 9, us 10, us 11, us 12, us 13, us 14, us 15, us 16, us 17, .pointer (some ⟨w.heap.size, 1, none⟩), us 19, us 20, us 21, us 22, us 23, us 24, us 25, us 26, us 27, us 28, undef, undef, undef, undef, undef, undef, undef, undef, undef, undef], []⟩ : Act) w2
      go_wp2
      exact hK _ _ (gm hb (Below.refl _ _)) rfl
    rcases i with _ | i
    · obtain rfl := Option.some.inj ho
      clear ho
      obtain ⟨us, rfl⟩ : ∃ us', us = upd 19 (.string h.link) us' := ⟨us, upd_eq (hdep { on := 19, ground := .data } (by simp) rfl)⟩
      have HCC := Lib.hid (text_calls h.link 100 (by omega) h2 w2)
      show wpList _ _ _ _ (⟨#[.agg #[.string h.name, .string h.link, .int .i64 h.mode, .int .i64 h.size, .int .i64 h.time, .int .u8 h.kind], .pointer (some ⟨w.heap.size, 0, none⟩), .slice none 0 0, .slice A0 (octB 0 8).length c0, us 29, .slice A0 (octB 0 8).length c0, us 0, us 1, us 2, us 3, us 4, us 5, us 6, us 7, us 8, us 9, us 10, us 11, us 12, us 13, us 14, us 15, us 16, us 17, us 18, .string h.link, us 20, us 21, us 22, us 23, us 24, us 25, us 26, us 27, us 28, undef, undef, undef, undef, undef, undef, undef, undef, undef, undef], []⟩ : Act) w2
      go_wp2_with (go_at_call 52; refine HCC.out.mono ?_; rintro e w3 ⟨A, c, rfl, hl, hR, hB⟩)
      exact hK _ _ (gm hb hB.out) ⟨A, c, rfl, hl, rowC hR.out⟩
    rcases i with _ | i
    · obtain rfl := Option.some.inj ho
      clear ho
      show wpList _ _ _ _ (⟨#[.agg #[.string h.name, .string h.link, .int .i64 h.mode, .int .i64 h.size, .int .i64 h.time, .int .u8 h.kind], .pointer (some ⟨w.heap.size, 0, none⟩), .slice none 0 0, .slice A0 (octB 0 8).length c0, us 29, .slice A0 (octB 0 8).length c0, us 0, us 1, us 2, us 3, us 4, us 5, us 6, us 7, us 8, us 9, us 10, us 11, us 12, us 13, us 14, us 15, us 16, us 17, us 18, us 19, us 20, us 21, us 22, us 23, us 24, us 25, us 26, us 27, us 28, undef, undef, undef, undef, undef, undef, undef, undef, undef, undef], []⟩ : Act) w2
      go_wp2
      exact hK _ _ (gm hb (balloc (Below.refl _ _) _)) ⟨_, (0, 0), rfl, hb.size, heap_alloc_new w2 _⟩
    rcases i with _ | i
    · obtain rfl := Option.some.inj ho
      clear ho
      obtain ⟨g, fr, d1, hB, hg⟩ := hdep { on := 21, ground := .data } (by simp) rfl
      obtain ⟨us, rfl⟩ : ∃ us', us = upd 21 (.slice (some ⟨g, 0, none⟩) 8 8) us' := ⟨us, upd_eq d1⟩
      have hcv := run_mark w2 g hg rfl
      have hG := mark_gm hb hB hg rfl
      have hC : (Kd.int .u8).C (w2.freeze ⟨g, 8, none⟩ 1) (some ⟨g, 0, none⟩) magicL.length magicL := hG.row (cells_C hg)
      have HGC := Lib.hid (And.intro hG hC)
      clear hG hC hg
      show wpList _ _ _ _ (⟨#[.agg #[.string h.name, .string h.link, .int .i64 h.mode, .int .i64 h.size, .int .i64 h.time, .int .u8 h.kind], .pointer (some ⟨w.heap.size, 0, none⟩), .slice none 0 0, .slice A0 (octB 0 8).length c0, us 29, .slice A0 (octB 0 8).length c0, us 0, us 1, us 2, us 3, us 4, us 5, us 6, us 7, us 8, us 9, us 10, us 11, us 12, us 13, us 14, us 15, us 16, us 17, us 18, us 19, us 20, .slice (some ⟨g, 0, none⟩) 8 8, us 22, us 23, us 24, us 25, us 26, us 27, us 28, undef, undef, undef, undef, undef, undef, undef, undef, undef, undef], []⟩ : Act) w2
      go_wp2
      exact hK (.slice (some ⟨g, 0, none⟩) 8 8) _ HGC.out.1 ⟨_, 8, rfl, Nat.le_refl _, HGC.out.2⟩
    rcases i with _ | i
    · obtain rfl := Option.some.inj ho
      clear ho
      have HCC := Lib.hid (text_calls ⟨#[]⟩ 64 (by omega) (by decide) w2)
      show wpList _ _ _ _ (⟨#[.agg #[.string h.name, .string h.link, .int .i64 h.mode, .int .i64 h.size, .int .i64 h.time, .int .u8 h.kind], .pointer (some ⟨w.heap.size, 0, none⟩), .slice none 0 0, .slice A0 (octB 0 8).length c0, us 29, .slice A0 (octB 0 8).length c0, us 0, us 1, us 2, us 3, us 4, us 5, us 6, us 7, us 8, us 9, us 10, us 11, us 12, us 13, us 14, us 15, us 16, us 17, us 18, us 19, us 20, us 21, us 22, us 23, us 24, us 25, us 26, us 27, us 28, undef, undef, undef, undef, undef, undef, undef, undef, undef, undef], []⟩ : Act) w2
      go_wp2_with (go_at_call 52; refine HCC.out.mono ?_; rintro e w3 ⟨A, c, rfl, hl, hR, hB⟩)
      exact hK _ _ (gm hb hB.out) ⟨A, c, rfl, hl, rowC hR.out⟩
    rcases i with _ | i
    · obtain rfl := Option.some.inj ho
      clear ho
      show wpList _ _ _ _ (⟨#[.agg #[.string h.name, .string h.link, .int .i64 h.mode, .int .i64 h.size, .int .i64 h.time, .int .u8 h.kind], .pointer (some ⟨w.heap.size, 0, none⟩), .slice none 0 0, .slice A0 (octB 0 8).length c0, us 29, .slice A0 (octB 0 8).length c0, us 0, us 1, us 2, us 3, us 4, us 5, us 6, us 7, us 8, us 9, us 10, us 11, us 12, us 13, us 14, us 15, us 16, us 17, us 18, us 19, us 20, us 21, us 22, us 23, us 24, us 25, us 26, us 27, us 28, undef, undef, undef, undef, undef, undef, undef, undef, undef, undef], []⟩ : Act) w2
      go_wp2
      exact hK _ _ (gm hb (Below.refl _ _)) ⟨A0, c0, rfl, l0, Kd.C_below (rowC R0.out) hb⟩
    rcases i with _ | i
    · obtain rfl := Option.some.inj ho
      clear ho
      show wpList _ _ _ _ (⟨#[.agg #[.string h.name, .string h.link, .int .i64 h.mode, .int .i64 h.size, .int .i64 h.time, .int .u8 h.kind], .pointer (some ⟨w.heap.size, 0, none⟩), .slice none 0 0, .slice A0 (octB 0 8).length c0, us 29, .slice A0 (octB 0 8).length c0, us 0, us 1, us 2, us 3, us 4, us 5, us 6, us 7, us 8, us 9, us 10, us 11, us 12, us 13, us 14, us 15, us 16, us 17, us 18, us 19, us 20, us 21, us 22, us 23, us 24, us 25, us 26, us 27, us 28, undef, undef, undef, undef, undef, undef, undef, undef, undef, undef], []⟩ : Act) w2
      go_wp2
      exact hK _ _ (gm hb (Below.refl _ _)) ⟨A0, c0, rfl, l0, Kd.C_below (rowC R0.out) hb⟩
    rcases i with _ | i
    · obtain rfl := Option.some.inj ho
      clear ho
      have HCC := Lib.hid (text_calls ⟨#[]⟩ 167 (by omega) (by decide) w2)
      show wpList _ _ _ _ (⟨#[.agg #[.string h.name, .string h.link, .int .i64 h.mode, .int .i64 h.size, .int .i64 h.time, .int .u8 h.kind], .pointer (some ⟨w.heap.size, 0, none⟩), .slice none 0 0, .slice A0 (octB 0 8).length c0, us 29, .slice A0 (octB 0 8).length c0, us 0, us 1, us 2, us 3, us 4, us 5, us 6, us 7, us 8, us 9, us 10, us 11, us 12, us 13, us 14, us 15, us 16, us 17, us 18, us 19, us 20, us 21, us 22, us 23, us 24, us 25, us 26, us 27, us 28, undef, undef, undef, undef, undef, undef, undef, undef, undef, undef], []⟩ : Act) w2
      go_wp2_with (go_at_call 52; refine HCC.out.mono ?_; rintro e w3 ⟨A, c, rfl, hl, hR, hB⟩)
      exact hK _ _ (gm hb hB.out) ⟨A, c, rfl, hl, rowC hR.out⟩
    rcases i with _ | i
    · obtain rfl := Option.some.inj ho
      clear ho
      obtain ⟨A2', c2', e2, l2', C2⟩ := hdep { on := 2, ground := .data } (by simp) rfl
      obtain ⟨A5', c5', e5, l5', C5⟩ := hdep { on := 5, ground := .data } (by simp) rfl
      obtain ⟨A6', c6', e6, l6', C6⟩ := hdep { on := 6, ground := .data } (by simp) rfl
      obtain ⟨A7', c7', e7, l7', C7⟩ := hdep { on := 7, ground := .data } (by simp) rfl
      obtain ⟨A10', c10', e10, l10', C10⟩ := hdep { on := 10, ground := .data } (by simp) rfl
      obtain ⟨A13', c13', e13, l13', C13⟩ := hdep { on := 13, ground := .data } (by simp) rfl
      obtain ⟨A14', c14', e14, l14', C14⟩ := hdep { on := 14, ground := .data } (by simp) rfl
      obtain ⟨A17', c17', e17, l17', C17⟩ := hdep { on := 17, ground := .data } (by simp) rfl
      obtain ⟨A20', c20', e20, l20', C20⟩ := hdep { on := 20, ground := .data } (by simp) rfl
      obtain ⟨A22', c22', e22, l22', C22⟩ := hdep { on := 22, ground := .data } (by simp) rfl
      obtain ⟨A23', c23', e23, l23', C23⟩ := hdep { on := 23, ground := .data } (by simp) rfl
      obtain ⟨A24', c24', e24, l24', C24⟩ := hdep { on := 24, ground := .data } (by simp) rfl
      obtain ⟨A25', c25', e25, l25', C25⟩ := hdep { on := 25, ground := .data } (by simp) rfl
      obtain ⟨A26', c26', e26, l26', C26⟩ := hdep { on := 26, ground := .data } (by simp) rfl
      clear hdep
      obtain ⟨us, rfl⟩ : ∃ us', us = upd 2 (.slice A2' (textF h.name 100).length c2') us' := ⟨us, upd_eq e2⟩
      obtain ⟨us, rfl⟩ : ∃ us', us = upd 5 (.slice A5' (octB h.mode 8).length c5') us' := ⟨us, upd_eq e5⟩
      obtain ⟨us, rfl⟩ : ∃ us', us = upd 6 (.slice A6' (octB 0 8).length c6') us' := ⟨us, upd_eq e6⟩
      obtain ⟨us, rfl⟩ : ∃ us', us = upd 7 (.slice A7' (octB 0 8).length c7') us' := ⟨us, upd_eq e7⟩
      obtain ⟨us, rfl⟩ : ∃ us', us = upd 10 (.slice A10' (octB h.size 12).length c10') us' := ⟨us, upd_eq e10⟩
      obtain ⟨us, rfl⟩ : ∃ us', us = upd 13 (.slice A13' (octB h.time 12).length c13') us' := ⟨us, upd_eq e13⟩
      obtain ⟨us, rfl⟩ : ∃ us', us = upd 14 (.slice A14' (textF ⟨#[]⟩ 8).length c14') us' := ⟨us, upd_eq e14⟩
      obtain ⟨us, rfl⟩ : ∃ us', us = upd 17 (.slice A17' ([h.kind]).length c17') us' := ⟨us, upd_eq e17⟩
      obtain ⟨us, rfl⟩ : ∃ us', us = upd 20 (.slice A20' (textF h.link 100).length c20') us' := ⟨us, upd_eq e20⟩
      obtain ⟨us, rfl⟩ : ∃ us', us = upd 22 (.slice A22' (magicL).length c22') us' := ⟨us, upd_eq e22⟩
      obtain ⟨us, rfl⟩ : ∃ us', us = upd 23 (.slice A23' (textF ⟨#[]⟩ 64).length c23') us' := ⟨us, upd_eq e23⟩
      obtain ⟨us, rfl⟩ : ∃ us', us = upd 24 (.slice A24' (octB 0 8).length c24') us' := ⟨us, upd_eq e24⟩
      obtain ⟨us, rfl⟩ : ∃ us', us = upd 25 (.slice A25' (octB 0 8).length c25') us' := ⟨us, upd_eq e25⟩
      obtain ⟨us, rfl⟩ : ∃ us', us = upd 26 (.slice A26' (textF ⟨#[]⟩ 167).length c26') us' := ⟨us, upd_eq e26⟩
      show wpList _ _ _ _ (⟨#[.agg #[.string h.name, .string h.link, .int .i64 h.mode, .int .i64 h.size, .int .i64 h.time, .int .u8 h.kind], .pointer (some ⟨w.heap.size, 0, none⟩), .slice none 0 0, .slice A0 (octB 0 8).length c0, us 29, .slice A0 (octB 0 8).length c0, us 0, us 1, .slice A2' (textF h.name 100).length c2', us 3, us 4, .slice A5' (octB h.mode 8).length c5', .slice A6' (octB 0 8).length c6', .slice A7' (octB 0 8).length c7', us 8, us 9, .slice A10' (octB h.size 12).length c10', us 11, us 12, .slice A13' (octB h.time 12).length c13', .slice A14' (textF ⟨#[]⟩ 8).length c14', us 15, us 16, .slice A17' ([h.kind]).length c17', us 18, us 19, .slice A20' (textF h.link 100).length c20', us 21, .slice A22' (magicL).length c22', .slice A23' (textF ⟨#[]⟩ 64).length c23', .slice A24' (octB 0 8).length c24', .slice A25' (octB 0 8).length c25', .slice A26' (textF ⟨#[]⟩ 167).length c26', us 27, us 28, undef, undef, undef, undef, undef, undef, undef, undef, undef, undef], []⟩ : Act) w2
      go_wp2
      refine hK _ _ (gm hb (balloc (Below.refl _ _) _)) ⟨_, 14, rfl, rows_lit w2 [.slice A2' (textF h.name 100).length c2', .slice A5' (octB h.mode 8).length c5', .slice A6' (octB 0 8).length c6', .slice A7' (octB 0 8).length c7', .slice A10' (octB h.size 12).length c10', .slice A13' (octB h.time 12).length c13', .slice A14' (textF ⟨#[]⟩ 8).length c14', .slice A17' ([h.kind]).length c17', .slice A20' (textF h.link 100).length c20', .slice A22' (magicL).length c22', .slice A23' (textF ⟨#[]⟩ 64).length c23', .slice A24' (octB 0 8).length c24', .slice A25' (octB 0 8).length c25', .slice A26' (textF ⟨#[]⟩ 167).length c26'] (fieldsL h) _ (fun i x hx => ?_)⟩
      rcases i with _ | i
      · obtain rfl := Option.some.inj hx
        exact ⟨_, _, rfl, l2', C2⟩
      rcases i with _ | i
      · obtain rfl := Option.some.inj hx
        exact ⟨_, _, rfl, l5', C5⟩
      rcases i with _ | i
      · obtain rfl := Option.some.inj hx
        exact ⟨_, _, rfl, l6', C6⟩
      rcases i with _ | i
      · obtain rfl := Option.some.inj hx
        exact ⟨_, _, rfl, l7', C7⟩
      rcases i with _ | i
      · obtain rfl := Option.some.inj hx
        exact ⟨_, _, rfl, l10', C10⟩
      rcases i with _ | i
      · obtain rfl := Option.some.inj hx
        exact ⟨_, _, rfl, l13', C13⟩
      rcases i with _ | i
      · obtain rfl := Option.some.inj hx
        exact ⟨_, _, rfl, l14', C14⟩
      rcases i with _ | i
      · obtain rfl := Option.some.inj hx
        exact ⟨_, _, rfl, l17', C17⟩
      rcases i with _ | i
      · obtain rfl := Option.some.inj hx
        exact ⟨_, _, rfl, l20', C20⟩
      rcases i with _ | i
      · obtain rfl := Option.some.inj hx
        exact ⟨_, _, rfl, l22', C22⟩
      rcases i with _ | i
      · obtain rfl := Option.some.inj hx
        exact ⟨_, _, rfl, l23', C23⟩
      rcases i with _ | i
      · obtain rfl := Option.some.inj hx
        exact ⟨_, _, rfl, l24', C24⟩
      rcases i with _ | i
      · obtain rfl := Option.some.inj hx
        exact ⟨_, _, rfl, l25', C25⟩
      rcases i with _ | i
      · obtain rfl := Option.some.inj hx
        exact ⟨_, _, rfl, l26', C26⟩
      cases hx
    rcases i with _ | i
    · obtain rfl := Option.some.inj ho
      clear ho
      obtain ⟨A, c, d1, hR⟩ := hdep { on := 27, ground := .data } (by simp) rfl
      obtain ⟨us, rfl⟩ : ∃ us', us = upd 27 (.slice A 14 c) us' := ⟨us, upd_eq d1⟩
      have HCC := Lib.hid (show Calls Tryz.prog 27 #[.slice A 14 c] w2 (Made xs w2) from by have h0 := laid_calls A c (fieldsL h) w2 hR (by rw [HXS.out, HLEN.out]; omega) (show 14 ≤ 65536 by decide); rw [HXS.out] at h0; exact h0)
      show wpList _ _ _ _ (⟨#[.agg #[.string h.name, .string h.link, .int .i64 h.mode, .int .i64 h.size, .int .i64 h.time, .int .u8 h.kind], .pointer (some ⟨w.heap.size, 0, none⟩), .slice none 0 0, .slice A0 (octB 0 8).length c0, us 29, .slice A0 (octB 0 8).length c0, us 0, us 1, us 2, us 3, us 4, us 5, us 6, us 7, us 8, us 9, us 10, us 11, us 12, us 13, us 14, us 15, us 16, us 17, us 18, us 19, us 20, us 21, us 22, us 23, us 24, us 25, us 26, .slice A 14 c, us 28, undef, undef, undef, undef, undef, undef, undef, undef, undef, undef], []⟩ : Act) w2
      go_wp2_with (go_at_call 27; refine HCC.out.mono ?_; rintro e w3 ⟨A3, c3, rfl, hl, hR3, hB⟩)
      exact hK _ _ (gm hb hB.out) (rowB_of hR3.out (by rw [HLEN.out]; omega) hb.size)
    rcases i with _ | i
    · obtain rfl := Option.some.inj ho
      clear ho
      have HR := Lib.hid (hdep { on := 28, ground := .data } (by simp) rfl)
      obtain ⟨g, c, cur, d1, hR⟩ := HR.out
      clear hR
      obtain ⟨us, rfl⟩ : ∃ us', us = upd 28 (.slice (some ⟨g, 0, none⟩) xs.length c) us' := ⟨us, upd_eq d1⟩
      show wpList _ _ _ _ (⟨#[.agg #[.string h.name, .string h.link, .int .i64 h.mode, .int .i64 h.size, .int .i64 h.time, .int .u8 h.kind], .pointer (some ⟨w.heap.size, 0, none⟩), .slice none 0 0, .slice A0 (octB 0 8).length c0, us 29, .slice A0 (octB 0 8).length c0, us 0, us 1, us 2, us 3, us 4, us 5, us 6, us 7, us 8, us 9, us 10, us 11, us 12, us 13, us 14, us 15, us 16, us 17, us 18, us 19, us 20, us 21, us 22, us 23, us 24, us 25, us 26, us 27, .slice (some ⟨g, 0, none⟩) xs.length c, undef, undef, undef, undef, undef, undef, undef, undef, undef, undef], []⟩ : Act) w2
      go_wp2
      exact hK _ _ (gm hb (Below.refl _ _)) HR.out
    cases ho
  · intro us w2 hb hT
    have HR := Lib.hid (hT 29 (by show 29 < 30; decide))
    clear hT
    obtain ⟨g, c, cur, d1, hgB, hg, hl, hc, hz, ht⟩ := HR.out
    clear HR
    rw [HLEN.out] at d1 hl ht
    obtain ⟨us, rfl⟩ : ∃ us', us = upd 29 (.slice (some ⟨g, 0, none⟩) 512 c) us' := ⟨us, upd_eq d1⟩
    have HH := Lib.hid (And.intro hg (And.intro hl (And.intro hc (And.intro hz (And.intro ht (And.intro hgB (bgo HBB.out (bgo B0.out hb))))))))
    have hs0 := B0.out.size
    have hs1 := HBB.out.size
    clear hg hl hc hz ht
    show Exit.then _ _ Exit.normal (⟨#[.agg #[.string h.name, .string h.link, .int .i64 h.mode, .int .i64 h.size, .int .i64 h.time, .int .u8 h.kind], .pointer (some ⟨w.heap.size, 0, none⟩), .slice none 0 0, .slice A0 (octB 0 8).length c0, .slice (some ⟨g, 0, none⟩) 512 c, .slice A0 (octB 0 8).length c0, us 0, us 1, us 2, us 3, us 4, us 5, us 6, us 7, us 8, us 9, us 10, us 11, us 12, us 13, us 14, us 15, us 16, us 17, us 18, us 19, us 20, us 21, us 22, us 23, us 24, us 25, us 26, us 27, us 28, undef, undef, undef, undef, undef, undef, undef, undef, undef, undef], []⟩ : Act) w2
    go_wp2_with fail
    go_meet
    exact ⟨g, c, cur, rfl, Lib.hid (by omega), Lib.hid HH.out.1, Lib.hid ⟨HH.out.2.1, HH.out.2.2.1, HH.out.2.2.2.1, HH.out.2.2.2.2.1⟩, Lib.hid HH.out.2.2.2.2.2.2⟩
end Go.Proofs.YtkmjbakiippfpaaGreatDoor.Tar
set_option linter.unusedVariables false
namespace Go.Proofs.YtkmjbakiippfpaaGreatDoor.Tar
open Go.RowKit Go.Proofs.YtkmjbakiippfpaaGreatDoor.Reg Go.Proofs.YtkmjbakiippfpaaGreatDoorW.PrintWords Go.Proofs.YtkmjbakiippfpaaGreatDoorW.PrintLast Go.Proofs.YtkmjbakiippfpaaGreatDoorW.PrintMore
open Go.Proofs.YtkmjbakiippfpaaGreatDoor.Oct (octF octF_step octF_dig octF_pos digs octP)
theorem octF_len : ∀ (k f n : Nat), n < 8 ^ (k + 1) → (octF f n).length ≤ k + 1
  | k, 0, n, _ => by simp [octF]
  | 0, f + 1, n, h => by
    rw [octF_step, if_pos (by simpa using h)]
    simp
  | k + 1, f + 1, n, h => by
    rw [octF_step]
    split
    · simp
    · have := octF_len k f (n / 8) (by rw [Nat.pow_succ] at h; omega)
      rw [List.length_append, List.length_singleton]
      omega
theorem digs_len (k : Nat) (v : Int) (h : v < 8 ^ (k + 1)) : (digs v).length ≤ k + 1 := by
  unfold digs
  refine octF_len k 21 v.toNat ?_
  have h8 : (0 : Nat) < 8 ^ (k + 1) := Nat.pow_pos (by omega)
  have e : ((8 ^ (k + 1) : Nat) : Int) = (8 : Int) ^ (k + 1) := by simp
  omega
theorem octB_eq (v n : Int) (h0 : 0 ≤ v) (h2 : 2 ≤ n) (h64 : n ≤ 64) (hd : (digs v).length ≤ n - 1) : octB v n = List.replicate (n.toNat - 1 - (digs v).length) 48 ++ digs v ++ [0] := by
  unfold octB octP
  rw [if_neg (by omega), if_neg (by omega)]
theorem octB_len (v n : Int) (h0 : 0 ≤ v) (h2 : 2 ≤ n) (h64 : n ≤ 64) (hd : (digs v).length ≤ n - 1) : (octB v n).length = n.toNat := by
  rw [octB_eq v n h0 h2 h64 hd]
  simp only [List.length_append, List.length_replicate, List.length_singleton]
  omega
theorem octB_in (v n : Int) : ∀ b ∈ octB v n, 0 ≤ b ∧ b ≤ 255 := by
  unfold octB octP
  intro b hb
  split at hb
  · cases hb
  · split at hb
    · cases hb
    · simp only [List.mem_append, List.mem_replicate, List.mem_singleton] at hb
      rcases hb with (⟨_, rfl⟩ | h) | rfl
      · omega
      · have := octF_dig _ _ b h
        omega
      · omega
theorem bytesOf_in (s : ByteArray) : ∀ b ∈ bytesOf s, 0 ≤ b ∧ b ≤ 255 := by
  intro b hb
  unfold bytesOf at hb
  obtain ⟨u, _, rfl⟩ := List.mem_map.1 hb
  have := u.toNat_lt
  omega
theorem textF_in (s : ByteArray) (n : Nat) : ∀ b ∈ textF s n, 0 ≤ b ∧ b ≤ 255 := by
  intro b hb
  unfold textF at hb
  rcases List.mem_append.1 hb with h | h
  · exact bytesOf_in s b (List.mem_of_mem_take h)
  · obtain rfl := List.eq_of_mem_replicate h
    omega
structure Fit (h : Hd) : Prop where
  m0 : 0 ≤ h.mode
  m1 : h.mode < 2097152
  s0 : 0 ≤ h.size
  s1 : h.size < 8589934592
  t0 : 0 ≤ h.time
  t1 : h.time < 8589934592
  k0 : 0 ≤ h.kind
  k1 : h.kind ≤ 255
def flatF (h : Hd) : List Int := (fieldsL h).flatten
theorem flat_len (h : Hd) (F : Fit h) : (flatF h).length = 512 := by
  have a := octB_len h.mode 8 F.m0 (by omega) (by omega) (by have := digs_len 6 h.mode (by have := F.m1; exact Int.lt_of_lt_of_le this (by decide)); omega)
  have b := octB_len 0 8 (by omega) (by omega) (by omega) (by have := digs_len 6 0 (by decide); omega)
  have c := octB_len h.size 12 F.s0 (by omega) (by omega) (by have := digs_len 10 h.size (by have := F.s1; exact Int.lt_of_lt_of_le this (by decide)); omega)
  have d := octB_len h.time 12 F.t0 (by omega) (by omega) (by have := digs_len 10 h.time (by have := F.t1; exact Int.lt_of_lt_of_le this (by decide)); omega)
  unfold flatF fieldsL
  simp only [List.flatten_cons, List.flatten_nil, List.length_append, List.length_nil, textF_len, a, b, c, d, magicL, List.length_cons]
  decide
theorem flat_in (h : Hd) (F : Fit h) : ∀ b ∈ flatF h, 0 ≤ b ∧ b ≤ 255 := by
  intro b hb
  unfold flatF fieldsL at hb
  simp only [List.flatten_cons, List.flatten_nil, List.mem_append, List.mem_singleton, List.not_mem_nil, or_false] at hb
  rcases hb with h | h | h | h | h | h | h | rfl | h | h | h | h | h | h
  · exact textF_in _ _ b h
  · exact octB_in _ _ b h
  · exact octB_in _ _ b h
  · exact octB_in _ _ b h
  · exact octB_in _ _ b h
  · exact octB_in _ _ b h
  · exact textF_in _ _ b h
  · exact ⟨F.k0, F.k1⟩
  · exact textF_in _ _ b h
  · simp only [magicL, List.mem_cons, List.not_mem_nil, or_false] at h
    omega
  · exact textF_in _ _ b h
  · exact octB_in _ _ b h
  · exact octB_in _ _ b h
  · exact textF_in _ _ b h
end Go.Proofs.YtkmjbakiippfpaaGreatDoor.Tar
