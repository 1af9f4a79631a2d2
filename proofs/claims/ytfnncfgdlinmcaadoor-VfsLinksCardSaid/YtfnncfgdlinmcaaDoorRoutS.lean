/- strings.SplitSeq at a separator of one byte, walked: its iterator, for every loop body. -/
import Derived.RangeFuncNested
import Derived.RangeFuncBound
import Derived.RangeFuncCalls
import Derived.RangeFuncLeaves
import Derived.RangeFuncBox
import Derived.Shelf.Abstract
import Derived.Shelf.RegionOpen
import Derived.OwnWalkIn
import Derived.TacticsInMore
import Derived.LoopNIn
import Derived.LoopIn
import Derived.Test.YtfnncfgdlinmcaaDoorRoutN
import Derived.Test.YtfnncfgdlinmcaaDoorTreeShelf
set_option linter.unusedVariables false
set_option linter.unusedSimpArgs false
namespace Go.Proofs.YtfnncfgdlinmcaaDoor.Rout
open Go.RowKit Go.Shelf Go.Proofs.YtfnncfgdlinmcaaDoor.Reg
attribute [local go_sem] Oper.semAt_some
/-- The iterator's three variables: the rest, the separator, a number. -/
structure Seq (W : World) (B : Nat) (s : ByteArray) : Prop where
  s : Boxed W B 9 (.string s)
  p : Boxed W (B + 1) 9 (.string ⟨#[47]⟩)
  v : Boxed W (B + 2) 3 (.int .i64 0)
/-- What leaves them alone. -/
def Kept (B : Nat) (W W' : World) : Prop := ∀ k, (k = B ∨ k = B + 1 ∨ k = B + 2) → W'.heap[k]? = W.heap[k]?
theorem Seq.kept {W W' : World} {B : Nat} {s : ByteArray} (h : Seq W B s) (k : Kept B W W') : Seq W' B s :=
  ⟨(k B (.inl rfl)).trans h.s, (k (B + 1) (.inr (.inl rfl))).trans h.p, (k (B + 2) (.inr (.inr rfl))).trans h.v⟩
theorem Seq.set {W : World} {B : Nat} {s : ByteArray} (h : Seq W B s) (t : ByteArray) : Seq (W.setCell ⟨B, 0, none⟩ (.string t)) B t :=
  ⟨h.s.set _, (Below.heap_setCell W ⟨B, 0, none⟩ _ (B + 1) (by simp)).trans h.p, (Below.heap_setCell W ⟨B, 0, none⟩ _ (B + 2) (by simp)).trans h.v⟩
def left (B : Nat) (W : World) : Nat := match W.cell? ⟨B, 0, none⟩ with
  | some (.string s) => s.size
  | _ => 0
theorem Seq.left {W : World} {B : Nat} {s : ByteArray} (h : Seq W B s) : left B W = s.size := by unfold Rout.left; rw [h.s.cell]
set_option maxRecDepth 100000 in
set_option maxHeartbeats 2000000 in
theorem seq_in (n l B : Nat) (s0 : ByteArray) (hs0 : s0.size ≤ 140737488355328) (hn : 1 ≤ n) (J Jx : List ByteArray → World → Prop) (hJB : ∀ pre W v, J pre W → J pre (W.setCell ⟨B, 0, none⟩ v))
    (hY : ∀ pre x W, J pre W → x.size ≤ s0.size → YieldAt Fence.wide (n - 1) Tryd.prog l #[.string x] W fun e W' => (e = .returned (.bool true) ∧ J (pre ++ [x]) W' ∧ Kept B W W') ∨ (e = .returned (.bool false) ∧ Jx (pre ++ [x]) W'))
    (W : World) (hS : Seq W B s0) (h0 : J [] W) :
    CallsIn Fence.wide n Tryd.prog 66 #[.func (.yield l) #[] #[], .pointer (some ⟨B + 1, 0, none⟩), .pointer (some ⟨B, 0, none⟩), .pointer (some ⟨B + 2, 0, none⟩)] W fun e W' => (∃ v, e = .returned v) ∧ (J (pcs s0) W' ∨ ∃ pre, pre <+: pcs s0 ∧ Jx pre W') := by
  have q1 : Fence.wide.fn 64 := trivial
  have HS := Lib.hid hS
  have hsep := hS.p.cell
  clear hS
  refine callsIn_of_wp Tryd.func66 rfl trivial ?_ rfl
  simp only [Tryd.ntmps66, List.size_toArray, List.length_cons, List.length_nil, Nat.reduceAdd, Nat.reduceSub, Array.replicate_succ, Array.replicate_zero, List.push_toArray, List.append_toArray, List.nil_append, List.cons_append]
  gi_wp2
  clear hsep
  gi_loopw [7, 8] (fun _ _ wr => ∃ pre rest, J pre wr ∧ Hid (Seq wr B rest) ∧ Hid (pre ++ pcs rest = pcs s0) ∧ rest.size ≤ s0.size) (fun _ _ wr => left B wr)
  case atStart => exact ⟨[], s0, h0, HS, Lib.hid (by simp), Nat.le_refl _⟩
  case round =>
    obtain ⟨pre, rest, hJ, hs, hp, hle⟩ := hrel
    have c1 := hs.out.s.cell
    have c2 := hs.out.p.cell
    have c3 := hs.out.v.cell
    have f1 := hs.out.s.frozen
    have hge := Lib.indexByte_ge rest.data.toList 47
    by_cases hm : Lib.indexByte rest.data.toList 47 = -1
    · have hpe := pcs_miss rest hm
      have HP := Lib.hid (show pre ++ [rest] = pcs s0 by rw [← hp.out, hpe])
      have hc := callsIn_wide (n := n - 1).2 (Tryd.strings_Index_one rest 47 wr)
      rw [hm] at hc
      have HC := Lib.hid hc
      obtain ⟨fn, tmps, assign, body, hy, hR⟩ := hY pre rest wr hJ hle
      clear hm hpe hp hc hge hJB hY
      gi_wp2_with (gi_at_call 64; refine HC.out.mono ?_; rintro e w' ⟨rfl, rfl⟩)
      refine hR.mono ?_
      rintro e W3 (⟨rfl, hJ3, hk3⟩ | ⟨rfl, hJx3⟩)
      · gi_wp2
        go_end0
        exact ⟨⟨_, rfl⟩, .inl (by rw [← HP.out]; exact hJ3)⟩
      · gi_wp2
        go_end0
        exact ⟨⟨_, rfl⟩, .inr ⟨_, (by rw [← HP.out]; exact List.prefix_refl _), hJx3⟩⟩
    · obtain ⟨m, hm2⟩ : ∃ m : Nat, Lib.indexByte rest.data.toList 47 = (m : Int) := ⟨(Lib.indexByte rest.data.toList 47).toNat, by omega⟩
      obtain ⟨hlt, hpe⟩ := pcs_hit rest m hm2
      have hc := callsIn_wide (n := n - 1).2 (Tryd.strings_Index_one rest 47 wr)
      rw [hm2] at hc
      have HC := Lib.hid hc
      have hx : (rest.extract 0 m).size ≤ s0.size := by rw [ByteArray.size_extract]; omega
      have hx2 : (rest.extract (m + 1) rest.size).size = rest.size - (m + 1) := by rw [ByteArray.size_extract]; omega
      have HP := Lib.hid (show (pre ++ [rest.extract 0 m]) ++ pcs (rest.extract (m + 1) rest.size) = pcs s0 by rw [← hp.out, hpe]; simp)
      obtain ⟨fn, tmps, assign, body, hy, hR⟩ := hY pre (rest.extract 0 m) wr hJ hx
      clear hm hm2 hpe hp hc hge hY
      gi_wp2_with (gi_at_call 64; refine HC.out.mono ?_; rintro e w' ⟨rfl, rfl⟩)
      refine hR.mono ?_
      rintro e W3 (⟨rfl, hJ3, hk3⟩ | ⟨rfl, hJx3⟩)
      · have hs3 := Lib.hid (hs.out.kept hk3)
        have d1 := hs3.out.s.cell
        have d2 := hs3.out.p.cell
        have d3 := hs3.out.s.frozen
        have e1 := Lib.hid (hs3.out.left)
        have e2 := Lib.hid (hs.out.left)
        have hsz := Lib.hid (hs3.out.set (rest.extract (m + 1) rest.size))
        clear c1 c2 c3 f1 hs hJ hk3 HC hy hR q1
        gi_wp2
        go_roundw
        case rel => exact ⟨_, _, hJB _ _ _ hJ3, hsz, HP, by omega⟩
        case measure => rw [hsz.out.left, e2.out, hx2]; omega
      · gi_wp2
        refine bodyPost_ret (results_none rfl _ _ _) rfl ?_
        exact ⟨⟨_, rfl⟩, .inr ⟨_, ⟨_, HP.out⟩, hJx3⟩⟩
theorem splitSeq_calls (s : ByteArray) (w : World) :
    Calls Tryd.prog 33 #[.string s, .string ⟨#[47]⟩] w fun e w' => e = .returned (.func (.func 66) #[] #[.pointer (some ⟨w.heap.size + 1, 0, none⟩), .pointer (some ⟨w.heap.size, 0, none⟩), .pointer (some ⟨w.heap.size + 2, 0, none⟩)]) ∧ w' = ((w.alloc (.cells #[.string s] 9)).alloc (.cells #[.string ⟨#[47]⟩] 9)).alloc (.cells #[.int .i64 0] 3) := by
  go_enter Tryd.func33, Tryd.ntmps33
  go_wp2
  go_ret
  exact ⟨rfl, rfl⟩
theorem Seq.new (w : World) (s : ByteArray) : Seq (((w.alloc (.cells #[.string s] 9)).alloc (.cells #[.string ⟨#[47]⟩] 9)).alloc (.cells #[.int .i64 0] 3)) w.heap.size s := by
  refine ⟨((Boxed.new _ _ _).alloc _).alloc _, ?_, ?_⟩
  · have h := (Boxed.new (w.alloc (.cells #[.string s] 9)) 9 (.string ⟨#[47]⟩)).alloc (.cells #[.int .i64 0] 3)
    simpa using h
  · have h := Boxed.new ((w.alloc (.cells #[.string s] 9)).alloc (.cells #[.string ⟨#[47]⟩] 9)) 3 (.int .i64 0)
    simpa using h
end Go.Proofs.YtfnncfgdlinmcaaDoor.Rout
