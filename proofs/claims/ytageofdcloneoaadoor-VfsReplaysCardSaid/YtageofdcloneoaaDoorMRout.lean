/- RoutP, RoutN, RoutS, RoutV put together. -/
import Derived.Lib.IndexLaws
import Derived.Lib.IndexBytes
import Derived.Laws.RangeAny
import Derived.WalkKit
import Derived.Test.YtageofdcloneoaaDoorReg
import Derived.Test.YtageofdcloneoaaDoorProg
import Derived.Lib.Hide
import Derived.RangeFuncNested
import Derived.RangeFuncBound
import Derived.RangeFuncCalls
import Derived.RangeFuncLeaves
import Derived.RangeFuncBox
import Derived.Shelf.Abstract
import Derived.Shelf.RegionOpen
import Derived.OwnWalkIn
import Derived.TacticsInMore
import Derived.LoopNIn
import Derived.LoopIn
import Derived.Test.YtageofdcloneoaaDoorTreeShelf
set_option linter.unusedVariables false
namespace Go.Proofs.YtageofdcloneoaaDoor.Rout
open Go.RowKit
theorem ba_ext {s t : ByteArray} (h : s.data.toList = t.data.toList) : s = t := by
  obtain ⟨⟨l⟩⟩ := s
  obtain ⟨⟨m⟩⟩ := t
  simp at h
  rw [h]
def toB (l : List UInt8) : ByteArray := ⟨l.toArray⟩
theorem toB_data (s : ByteArray) : toB s.data.toList = s := ba_ext (by simp [toB])
theorem data_toB (l : List UInt8) : (toB l).data.toList = l := by simp [toB]
theorem size_toB (l : List UInt8) : (toB l).size = l.length := by simp [toB, ByteArray.size]
theorem size_data (s : ByteArray) : s.data.toList.length = s.size := by rw [Array.length_toList]; rfl
/-- Cut at each 47. -/
def cut : List UInt8 → List (List UInt8)
  | [] => [[]]
  | c :: r => if c = 47 then [] :: cut r else match cut r with
    | [] => [[c]]
    | p :: ps => (c :: p) :: ps
theorem cut_ne : ∀ l, cut l ≠ []
  | [] => by simp [cut]
  | c :: r => by
    unfold cut
    split
    · simp
    · split <;> simp
theorem cut_miss : ∀ l : List UInt8, (∀ k : Nat, l[k]? ≠ some 47) → cut l = [l]
  | [], _ => rfl
  | c :: r, h => by
    have h0 : c ≠ 47 := fun e => h 0 (by simp [e])
    have hr := cut_miss r (fun k => by have := h (k + 1); simpa using this)
    unfold cut
    rw [if_neg h0, hr]
theorem cut_hit : ∀ (l : List UInt8) (m : Nat), l[m]? = some 47 → (∀ k, k < m → l[k]? ≠ some 47) → cut l = l.take m :: cut (l.drop (m + 1))
  | [], m, h, _ => by simp at h
  | c :: r, 0, h, _ => by
    have h0 : c = 47 := by simpa using h
    simp [cut, h0]
  | c :: r, m + 1, h, hk => by
    have h0 : c ≠ 47 := fun e => hk 0 (by omega) (by simp [e])
    have hr := cut_hit r m (by simpa using h) (fun k h1 => by have := hk (k + 1) (by omega); simpa using this)
    rw [show cut (c :: r) = if c = 47 then [] :: cut r else match cut r with | [] => [[c]] | p :: ps => (c :: p) :: ps from rfl, if_neg h0, hr]
    rfl
/-- The pieces of a text. -/
def pcs (s : ByteArray) : List ByteArray := (cut s.data.toList).map toB
theorem pcs_ne (s : ByteArray) : pcs s ≠ [] := by
  unfold pcs
  intro h
  exact cut_ne _ (List.map_eq_nil_iff.1 h)
theorem pcs_miss (s : ByteArray) (h : Lib.indexByte s.data.toList 47 = -1) : pcs s = [s] := by
  unfold pcs
  rw [cut_miss _ (Lib.indexByte_none h)]
  simp [toB_data]
theorem pcs_hit (s : ByteArray) (m : Nat) (h : Lib.indexByte s.data.toList 47 = (m : Int)) : m < s.size ∧ pcs s = s.extract 0 m :: pcs (s.extract (m + 1) s.size) := by
  obtain ⟨h1, h2⟩ := Lib.indexByte_some h
  have hm : m < s.size := by
    have := List.getElem?_eq_some_iff.1 h1
    obtain ⟨hl, _⟩ := this
    rwa [size_data] at hl
  refine ⟨hm, ?_⟩
  unfold pcs
  rw [cut_hit _ m h1 h2, Lib.extract_to_end]
  rw [List.map_cons]
  congr 1
  exact ba_ext (by rw [data_toB, Lib.extract_data]; simp)
/-- Is a text a name? -/
def nameB (s : ByteArray) : Bool := decide (1 ≤ s.size) && decide (s.size ≤ 255) && (s.data.toList != [46]) && (s.data.toList != [46, 46]) && s.data.toList.all (fun c => c != 47 && c != 0)
def validB (s : ByteArray) : Bool := (pcs s).all nameB && decide ((pcs s).length ≤ 64) && decide (s.size ≤ 1024)
/-! ### runes -/
theorem get_data (s : ByteArray) (i : Nat) (h : i < s.size) : s.data.toList[i]? = some (s[i]'h) := by
  have h' : i < s.data.toList.length := by rw [size_data]; exact h
  rw [List.getElem?_eq_getElem h', Array.getElem_toList]
  rfl
theorem decode_cont (s : ByteArray) (pos k : Nat) (h : pos < s.size) (h1 : 1 ≤ k) (h2 : k < (Utf8.decode s pos).2) : ∃ hk : pos + k < s.size, 128 ≤ (s[pos + k]'hk).toNat := by
  have key : ∀ j, (decide (pos + j < s.size) && (s.get! (pos + j)).toNat / 64 == 2) = true → ∃ hk : pos + j < s.size, 128 ≤ (s[pos + j]'hk).toNat := by
    intro j hj
    simp only [Bool.and_eq_true, decide_eq_true_eq, beq_iff_eq] at hj
    obtain ⟨hl, hd⟩ := hj
    refine ⟨hl, ?_⟩
    have e := get_at s (pos + j) hl
    rw [Nat.add_zero] at e
    rw [e] at hd
    omega
  simp only [Utf8.decode] at h2
  split at h2
  · omega
  · split at h2
    · rename_i hc
      simp only [Bool.and_eq_true] at hc
      have c1 := key 1 (by simpa using hc.2)
      split at h2
      · obtain rfl : k = 1 := by simp at h2; omega
        exact c1
      · simp at h2; omega
    · split at h2
      · rename_i hc
        simp only [Bool.and_eq_true] at hc
        have c1 := key 1 (by simpa using hc.1.2)
        have c2 := key 2 (by simpa using hc.2)
        split at h2
        · obtain rfl | rfl : k = 1 ∨ k = 2 := by simp at h2; omega
          · exact c1
          · exact c2
        · simp at h2; omega
      · split at h2
        · rename_i hc
          simp only [Bool.and_eq_true] at hc
          have c1 := key 1 (by simpa using hc.1.1.2)
          have c2 := key 2 (by simpa using hc.1.2)
          have c3 := key 3 (by simpa using hc.2)
          split at h2
          · obtain rfl | rfl | rfl : k = 1 ∨ k = 2 ∨ k = 3 := by simp at h2; omega
            · exact c1
            · exact c2
            · exact c3
          · simp at h2; omega
        · simp at h2; omega
theorem width_pos (s : ByteArray) (pos : Nat) (h : pos < s.size) : 1 ≤ (Utf8.decode s pos).2 := by
  by_cases ha : (s[pos]'h).toNat < 128
  · rw [decode_ascii s pos h ha]
    exact Nat.le_refl _
  · exact (decode_high s pos h (by omega)).2
/-- No byte ahead of a place is 47 or 0. -/
def clean (s : ByteArray) (pos : Nat) : Prop := ∀ i c, i < pos → s.data.toList[i]? = some c → c ≠ 47 ∧ c ≠ 0
theorem clean_step (s : ByteArray) (pos : Nat) (h : pos < s.size) (hc : clean s pos) (h1 : (Utf8.decode s pos).1 ≠ 47) (h2 : (Utf8.decode s pos).1 ≠ 0) : clean s (pos + (Utf8.decode s pos).2) := by
  intro i c hi hg
  by_cases hlt : i < pos
  · exact hc i c hlt hg
  · by_cases he : i = pos
    · subst he
      rw [get_data s i h] at hg
      obtain rfl := Option.some.inj hg
      by_cases ha : (s[i]'h).toNat < 128
      · rw [decode_ascii s i h ha] at h1 h2
        constructor
        · intro e; rw [e] at h1; exact h1 rfl
        · intro e; rw [e] at h2; exact h2 rfl
      · constructor
        · intro e; rw [e] at ha; exact ha (by decide)
        · intro e; rw [e] at ha; exact ha (by decide)
    · obtain ⟨hk, hb⟩ := decode_cont s pos (i - pos) h (by omega) (by omega)
      have e2 : pos + (i - pos) = i := by omega
      have hi2 : i < s.size := by omega
      rw [get_data s i hi2] at hg
      obtain rfl := Option.some.inj hg
      have hb' : 128 ≤ (s[i]'hi2).toNat := by simpa [e2] using hb
      constructor
      · intro e; rw [e] at hb'; exact absurd hb' (by decide)
      · intro e; rw [e] at hb'; exact absurd hb' (by decide)
theorem dirty_at (s : ByteArray) (pos : Nat) (h : pos < s.size) (h1 : (Utf8.decode s pos).1 = 47 ∨ (Utf8.decode s pos).1 = 0) : s.data.toList.all (fun c => c != 47 && c != 0) = false := by
  have ha : (s[pos]'h).toNat < 128 := by
    by_cases ha : (s[pos]'h).toNat < 128
    · exact ha
    · have := (decode_high s pos h (by omega)).1
      omega
  rw [decode_ascii s pos h ha] at h1
  rw [List.all_eq_false]
  refine ⟨s[pos]'h, List.mem_of_getElem? (get_data s pos h), ?_⟩
  rcases h1 with h1 | h1
  · have : s[pos]'h = 47 := UInt8.toNat_inj.1 h1
    simp [this]
  · have : s[pos]'h = 0 := UInt8.toNat_inj.1 h1
    simp [this]
theorem clean_all (s : ByteArray) (pos : Nat) (h : s.size ≤ pos) (hc : clean s pos) : s.data.toList.all (fun c => c != 47 && c != 0) = true := by
  rw [List.all_eq_true]
  intro c hm
  obtain ⟨i, hi, rfl⟩ := List.getElem_of_mem hm
  have := hc i _ (by rw [size_data] at hi; omega) (List.getElem?_eq_getElem hi)
  simpa using this
end Go.Proofs.YtageofdcloneoaaDoor.Rout
set_option linter.unusedVariables false
set_option linter.unusedSimpArgs false
namespace Go.Proofs.YtageofdcloneoaaDoor.Rout
open Go.RowKit Go.BigFrame Go.Proofs.YtageofdcloneoaaDoor.Reg
theorem below_iter (w : World) (s : ByteArray) (pos : Nat) : Below w.heap.size w (w.iter s pos) := balloc (Below.refl _ _) _
def plainB (s : ByteArray) : Bool := s.data.toList.all (fun c => c != 47 && c != 0)
theorem ret_bool {a b : Bool} (h : a = b) : Ending.returned (.bool a) = .returned (.bool b) := by rw [h]
set_option maxHeartbeats 2000000 in
theorem name_long (s : ByteArray) (w : World) (h1 : 1 ≤ s.size) (h2 : s.size ≤ 255) (h3 : (s.toList == [46]) = false) (h4 : (s.toList == [46, 46]) = false) :
    Calls Tryd.prog 42 #[.string s] w fun e w' => e = .returned (.bool (plainB s)) ∧ Below w.heap.size w w' := by
  go_enter Tryd.func42, Tryd.ntmps42
  go_wp2
  go_loopw [4] (fun _ w' => ∃ pos : Nat, w' = w.iter s pos ∧ Hid (clean s pos)) (fun _ w' => s.size - w'.iterPos w.heap.size)
  case atStart => exact ⟨0, rfl, Lib.hid (fun i c hi => by omega)⟩
  case round =>
    obtain ⟨pos, rfl, hc⟩ := hrel
    by_cases hp : pos < s.size
    · have hnx : ∀ ty, (Instr.next (.pointer (some ⟨w.heap.size, 0, none⟩)) true ty).run Tryd.prog (w.iter s pos) = _ := fun ty => run_next_any w s pos ty hp
      have hwd := width_pos s pos hp
      have hd := Lib.hid (show (Utf8.decode s pos).1 = 47 ∨ (Utf8.decode s pos).1 = 0 → plainB s = false from dirty_at s pos hp)
      have hs := Lib.hid (clean_step s pos hp hc.out)
      generalize (Utf8.decode s pos).1 = r at *
      generalize (Utf8.decode s pos).2 = n at *
      by_cases hr : r = 47
      · have HE := Lib.hid (hd.out (.inl hr))
        clear hd
        subst hr
        go_wp2
        go_ret
        exact ⟨ret_bool HE.out.symm, below_iter _ _ _⟩
      · by_cases hr2 : r = 0
        · have HE := Lib.hid (hd.out (.inr hr2))
          clear hd
          subst hr2
          go_wp2
          go_ret
          exact ⟨ret_bool HE.out.symm, below_iter _ _ _⟩
        · have hn1 : ((r : Int) == 47) = false := beq_eq_false_iff_ne.mpr (by omega)
          have hn2 : ((r : Int) == 0) = false := beq_eq_false_iff_ne.mpr (by omega)
          have hcl := Lib.hid (hs.out hr hr2)
          clear hs hd
          go_wp2
          go_roundw
          case rel => exact ⟨pos + n, rfl, hcl⟩
          case measure => simp; omega
    · have hnx : ∀ ty, (Instr.next (.pointer (some ⟨w.heap.size, 0, none⟩)) true ty).run Tryd.prog (w.iter s pos) = _ := fun ty => run_next_end w s pos ty hp
      go_wp2
      go_ret
      exact ⟨ret_bool (show plainB s = true from clean_all s pos (by omega) hc.out).symm, below_iter _ _ _⟩
theorem toList_data (s : ByteArray) : s.toList = s.data.toList := Lib.toList_data s
theorem name_calls (s : ByteArray) (w : World) (hs : s.size ≤ 140737488355328) :
    Calls Tryd.prog 42 #[.string s] w fun e w' => e = .returned (.bool (nameB s)) ∧ Below w.heap.size w w' := by
  by_cases h1 : s.size < 1
  · have e : nameB s = false := by unfold nameB; simp; omega
    rw [e]
    go_enter Tryd.func42, Tryd.ntmps42
    go_wp2
    go_ret
    exact ⟨rfl, Below.refl _ _⟩
  by_cases h2 : 255 < s.size
  · have e : nameB s = false := by unfold nameB; simp; omega
    rw [e]
    go_enter Tryd.func42, Tryd.ntmps42
    go_wp2
    go_ret
    exact ⟨rfl, Below.refl _ _⟩
  cases h3 : (s.toList == [46])
  · cases h4 : (s.toList == [46, 46])
    · have e : nameB s = s.data.toList.all (fun c => c != 47 && c != 0) := by
        rw [toList_data] at h3 h4
        unfold nameB
        rw [decide_eq_true (show 1 ≤ s.size by omega), decide_eq_true (show s.size ≤ 255 by omega), bne, bne, h3, h4]
        simp
      rw [e]
      exact name_long s w (by omega) (by omega) h3 h4
    · have e : nameB s = false := by rw [toList_data] at h4; unfold nameB; rw [bne, bne, h4]; simp
      rw [e]
      go_enter Tryd.func42, Tryd.ntmps42
      go_wp2
      go_ret
      exact ⟨rfl, Below.refl _ _⟩
  · have e : nameB s = false := by rw [toList_data] at h3; unfold nameB; rw [bne, bne, h3]; simp
    rw [e]
    go_enter Tryd.func42, Tryd.ntmps42
    go_wp2
    go_ret
    exact ⟨rfl, Below.refl _ _⟩
end Go.Proofs.YtageofdcloneoaaDoor.Rout
set_option linter.unusedVariables false
set_option linter.unusedSimpArgs false
namespace Go.Proofs.YtageofdcloneoaaDoor.Rout
open Go.RowKit Go.Shelf Go.Proofs.YtageofdcloneoaaDoor.Reg
attribute [local go_sem] Oper.semAt_some
/-- The iterator's three variables: the rest, the separator, a number. -/
structure Seq (W : World) (B : Nat) (s : ByteArray) : Prop where
  s : Boxed W B 9 (.string s)
  p : Boxed W (B + 1) 9 (.string ⟨#[47]⟩)
  v : Boxed W (B + 2) 3 (.int .i64 0)
/-- What leaves them alone. -/
def Kept (B : Nat) (W W' : World) : Prop := ∀ k, (k = B ∨ k = B + 1 ∨ k = B + 2) → W'.heap[k]? = W.heap[k]?
theorem Seq.kept {W W' : World} {B : Nat} {s : ByteArray} (h : Seq W B s) (k : Kept B W W') : Seq W' B s :=
  ⟨(k B (.inl rfl)).trans h.s, (k (B + 1) (.inr (.inl rfl))).trans h.p, (k (B + 2) (.inr (.inr rfl))).trans h.v⟩
theorem Seq.set {W : World} {B : Nat} {s : ByteArray} (h : Seq W B s) (t : ByteArray) : Seq (W.setCell ⟨B, 0, none⟩ (.string t)) B t :=
  ⟨h.s.set _, (Below.heap_setCell W ⟨B, 0, none⟩ _ (B + 1) (by simp)).trans h.p, (Below.heap_setCell W ⟨B, 0, none⟩ _ (B + 2) (by simp)).trans h.v⟩
def left (B : Nat) (W : World) : Nat := match W.cell? ⟨B, 0, none⟩ with
  | some (.string s) => s.size
  | _ => 0
theorem Seq.left {W : World} {B : Nat} {s : ByteArray} (h : Seq W B s) : left B W = s.size := by unfold Rout.left; rw [h.s.cell]
set_option maxRecDepth 100000 in
set_option maxHeartbeats 2000000 in
theorem seq_in (n l B : Nat) (s0 : ByteArray) (hs0 : s0.size ≤ 140737488355328) (hn : 1 ≤ n) (J Jx : List ByteArray → World → Prop) (hJB : ∀ pre W v, J pre W → J pre (W.setCell ⟨B, 0, none⟩ v))
    (hY : ∀ pre x W, J pre W → x.size ≤ s0.size → YieldAt Fence.wide (n - 1) Tryd.prog l #[.string x] W fun e W' => (e = .returned (.bool true) ∧ J (pre ++ [x]) W' ∧ Kept B W W') ∨ (e = .returned (.bool false) ∧ Jx (pre ++ [x]) W'))
    (W : World) (hS : Seq W B s0) (h0 : J [] W) :
    CallsIn Fence.wide n Tryd.prog 66 #[.func (.yield l) #[] #[], .pointer (some ⟨B + 1, 0, none⟩), .pointer (some ⟨B, 0, none⟩), .pointer (some ⟨B + 2, 0, none⟩)] W fun e W' => (∃ v, e = .returned v) ∧ (J (pcs s0) W' ∨ ∃ pre, pre <+: pcs s0 ∧ Jx pre W') := by
  have q1 : Fence.wide.fn 68 := trivial
  have HS := Lib.hid hS
  have hsep := hS.p.cell
  clear hS
  refine callsIn_of_wp Tryd.func66 rfl trivial ?_ rfl
  simp only [Tryd.ntmps66, List.size_toArray, List.length_cons, List.length_nil, Nat.reduceAdd, Nat.reduceSub, Array.replicate_succ, Array.replicate_zero, List.push_toArray, List.append_toArray, List.nil_append, List.cons_append]
  gi_wp2
  clear hsep
  gi_loopw [7, 8] (fun _ _ wr => ∃ pre rest, J pre wr ∧ Hid (Seq wr B rest) ∧ Hid (pre ++ pcs rest = pcs s0) ∧ rest.size ≤ s0.size) (fun _ _ wr => left B wr)
  case atStart => exact ⟨[], s0, h0, HS, Lib.hid (by simp), Nat.le_refl _⟩
  case round =>
    obtain ⟨pre, rest, hJ, hs, hp, hle⟩ := hrel
    have c1 := hs.out.s.cell
    have c2 := hs.out.p.cell
    have c3 := hs.out.v.cell
    have f1 := hs.out.s.frozen
    have hge := Lib.indexByte_ge rest.data.toList 47
    by_cases hm : Lib.indexByte rest.data.toList 47 = -1
    · have hpe := pcs_miss rest hm
      have HP := Lib.hid (show pre ++ [rest] = pcs s0 by rw [← hp.out, hpe])
      have hc := callsIn_wide (n := n - 1).2 (Tryd.strings_Index_one rest 47 wr)
      rw [hm] at hc
      have HC := Lib.hid hc
      obtain ⟨fn, tmps, assign, body, hy, hR⟩ := hY pre rest wr hJ hle
      clear hm hpe hp hc hge hJB hY
      gi_wp2_with (gi_at_call 68; refine HC.out.mono ?_; rintro e w' ⟨rfl, rfl⟩)
      refine hR.mono ?_
      rintro e W3 (⟨rfl, hJ3, hk3⟩ | ⟨rfl, hJx3⟩)
      · gi_wp2
        go_end0
        exact ⟨⟨_, rfl⟩, .inl (by rw [← HP.out]; exact hJ3)⟩
      · gi_wp2
        go_end0
        exact ⟨⟨_, rfl⟩, .inr ⟨_, (by rw [← HP.out]; exact List.prefix_refl _), hJx3⟩⟩
    · obtain ⟨m, hm2⟩ : ∃ m : Nat, Lib.indexByte rest.data.toList 47 = (m : Int) := ⟨(Lib.indexByte rest.data.toList 47).toNat, by omega⟩
      obtain ⟨hlt, hpe⟩ := pcs_hit rest m hm2
      have hc := callsIn_wide (n := n - 1).2 (Tryd.strings_Index_one rest 47 wr)
      rw [hm2] at hc
      have HC := Lib.hid hc
      have hx : (rest.extract 0 m).size ≤ s0.size := by rw [ByteArray.size_extract]; omega
      have hx2 : (rest.extract (m + 1) rest.size).size = rest.size - (m + 1) := by rw [ByteArray.size_extract]; omega
      have HP := Lib.hid (show (pre ++ [rest.extract 0 m]) ++ pcs (rest.extract (m + 1) rest.size) = pcs s0 by rw [← hp.out, hpe]; simp)
      obtain ⟨fn, tmps, assign, body, hy, hR⟩ := hY pre (rest.extract 0 m) wr hJ hx
      clear hm hm2 hpe hp hc hge hY
      gi_wp2_with (gi_at_call 68; refine HC.out.mono ?_; rintro e w' ⟨rfl, rfl⟩)
      refine hR.mono ?_
      rintro e W3 (⟨rfl, hJ3, hk3⟩ | ⟨rfl, hJx3⟩)
      · have hs3 := Lib.hid (hs.out.kept hk3)
        have d1 := hs3.out.s.cell
        have d2 := hs3.out.p.cell
        have d3 := hs3.out.s.frozen
        have e1 := Lib.hid (hs3.out.left)
        have e2 := Lib.hid (hs.out.left)
        have hsz := Lib.hid (hs3.out.set (rest.extract (m + 1) rest.size))
        clear c1 c2 c3 f1 hs hJ hk3 HC hy hR q1
        gi_wp2
        go_roundw
        case rel => exact ⟨_, _, hJB _ _ _ hJ3, hsz, HP, by omega⟩
        case measure => rw [hsz.out.left, e2.out, hx2]; omega
      · gi_wp2
        refine bodyPost_ret (results_none rfl _ _ _) rfl ?_
        exact ⟨⟨_, rfl⟩, .inr ⟨_, ⟨_, HP.out⟩, hJx3⟩⟩
theorem splitSeq_calls (s : ByteArray) (w : World) :
    Calls Tryd.prog 41 #[.string s, .string ⟨#[47]⟩] w fun e w' => e = .returned (.func (.func 66) #[] #[.pointer (some ⟨w.heap.size + 1, 0, none⟩), .pointer (some ⟨w.heap.size, 0, none⟩), .pointer (some ⟨w.heap.size + 2, 0, none⟩)]) ∧ w' = ((w.alloc (.cells #[.string s] 9)).alloc (.cells #[.string ⟨#[47]⟩] 9)).alloc (.cells #[.int .i64 0] 3) := by
  go_enter Tryd.func41, Tryd.ntmps41
  go_wp2
  go_ret
  exact ⟨rfl, rfl⟩
theorem Seq.new (w : World) (s : ByteArray) : Seq (((w.alloc (.cells #[.string s] 9)).alloc (.cells #[.string ⟨#[47]⟩] 9)).alloc (.cells #[.int .i64 0] 3)) w.heap.size s := by
  refine ⟨((Boxed.new _ _ _).alloc _).alloc _, ?_, ?_⟩
  · have h := (Boxed.new (w.alloc (.cells #[.string s] 9)) 9 (.string ⟨#[47]⟩)).alloc (.cells #[.int .i64 0] 3)
    simpa using h
  · have h := Boxed.new ((w.alloc (.cells #[.string s] 9)).alloc (.cells #[.string ⟨#[47]⟩] 9)) 3 (.int .i64 0)
    simpa using h
end Go.Proofs.YtageofdcloneoaaDoor.Rout
set_option linter.unusedVariables false
set_option linter.unusedSimpArgs false
namespace Go.Proofs.YtageofdcloneoaaDoor.Rout
open Go.RowKit Go.Shelf Go.Proofs.YtageofdcloneoaaDoor.Reg
attribute [local go_sem] Oper.semAt_some
/-- How a round's body may be left. -/
def keptPost {α : Type} (B : Nat) (I : List α → World → Prop) (Ix : Code → List α → World → Prop) (xs : List α) (W : World) : Exit → Act → World → Prop
  | .normal, _, W' => KeepsOthers W W' ∧ Kept B W W' ∧ I xs W'
  | .ret, _, W' => KeepsOthers W W' ∧ Ix .ret xs W'
  | .exit id, _, W' => KeepsOthers W W' ∧ Ix (.exit id) xs W'
  | .goto t, _, W' => KeepsOthers W W' ∧ Ix (.goto t) xs W'
  | .panic _, _, _ => False
  | .outgrown, _, _ => False
section
variable {F : Fence} {n : Nat} {P : Program}
/-- A range over a function whose iterator writes one cell of its own (in block B). -/
theorem wpIn_range_kept {α : Type} {g : Operand} {ps : Array Tmp} {assign body : Code} {Q : Exit → Act → World → Prop} {a : Act} {w : World}
    (hro : F.round = none) (h1 : 1 ≤ n) {gf : Nat} {lb : Array Value} (hg : a.eval g = .func (.func gf) #[] lb) (hFg : F.fn gf) (eg : ∀ args w, (callFunc gf args).run P w = .ok (.enter gf args) w)
    {encs : α → Array Value} {S Sp : List α → Prop} {ok : α → Prop} {B : Nat} {P0 : World → Prop} (hP0 : ∀ W o, P0 W → P0 (W.alloc o)) (hBw : B + 2 < w.heap.size) (hw0 : P0 w)
    (hseq : ∀ (l : Nat) (J Jx : List α → World → Prop) (W : World), (∀ pre W v, J pre W → J pre (W.setCell ⟨B, 0, none⟩ v)) →
      (∀ pre x W1, J pre W1 → ok x → YieldAt F (n - 1 - 1) P l (encs x) W1 fun e W' => (e = .returned (.bool true) ∧ J (pre ++ [x]) W' ∧ Kept B W1 W') ∨ (e = .returned (.bool false) ∧ Jx (pre ++ [x]) W')) →
      P0 W → J [] W → CallsIn F (n - 1) P gf (#[.func (.yield l) #[] #[]] ++ lb) W fun e W' => (∃ v, e = .returned v) ∧ ((∃ xs, S xs ∧ J xs W') ∨ (∃ pre, Sp pre ∧ Jx pre W')))
    (hps : ∀ x, (encs x).size = ps.size)
    (I : List α → World → Prop) (Ix : Code → List α → World → Prop) (hIa : ∀ s W o, I s W → I s (W.alloc o)) (hIp : ∀ s W l o o', I s W → w.heap.size ≤ l → W.heap[l]? = some o → o.isCells = false → I s (W.putObj l o'))
    (hIxp : ∀ c s W l o o', Ix c s W → w.heap.size ≤ l → W.heap[l]? = some o → o.isCells = false → Ix c s (W.putObj l o')) (hIB : ∀ s W v, I s W → I s (W.setCell ⟨B, 0, none⟩ v)) (h0 : I [] w) (a₁ : α → Act)
    (hassign : ∀ (l : Nat) (x : α) (W : World) (K : Act → World → Prop), K (a₁ x) W →
      assign.wpIn (F.inRound l) (n - 1 - 1) P (Exit.then K (fun _ _ _ => False)) { tmps := (ps.zip (encs x)).foldl (fun t (p, v) => t.setIfInBounds p v) a.tmps, defers := [] } W)
    (hbody : ∀ (l : Nat) (pre : List α) (x : α) (W : World), I pre W → ok x → body.wpIn (F.inRound l) (n - 1 - 1) P (keptPost B I Ix (pre ++ [x]) W) (a₁ x) W)
    (hdone : ∀ (D : Nat) (xs : List α) (W : World), w.heap.size ≤ D → S xs → I xs W → W.heap[D]? = some (.deferred (some [])) → Q .normal { a with defers := { target := .collected D, args := #[] } :: a.defers } W)
    (hstop : ∀ (D : Nat) (c : Code) (pre : List α) (W : World), w.heap.size ≤ D → Sp pre → Ix c pre W → W.heap[D]? = some (.deferred (some [])) → c.wpIn F n P Q { a with defers := { target := .collected D, args := #[] } :: a.defers } W) :
    (Code.rangeFunc g ps assign body).wpIn F n P Q a w := by
  refine wpIn_rangeFunc ?_
  intro fn hfn
  rw [hro]
  obtain ⟨rec, hrec⟩ : ∃ rec : LoopState → Option Code → Loop, rec = fun st pe => { state := st, pending := pe, fn, tmps := a.tmps, params := ps, assign, body, defers := w.heap.size } := ⟨_, rfl⟩
  obtain ⟨W1, hW1⟩ : ∃ W1, (w.alloc (.deferred (some []))).alloc (.loop (rec .ready none)) = W1 := ⟨_, rfl⟩
  have hL1 : W1.heap[w.heap.size + 1]? = some (.loop (rec .ready none)) := by
    rw [← hW1]; have := World.alloc_heap_new (w.alloc (.deferred (some []))) (.loop (rec .ready none)); rwa [World.size_alloc] at this
  have hK1 : W1.heap[w.heap.size]? = some (.deferred (some [])) := by
    rw [← hW1]; exact (Below.heap_alloc _ _ _ (by simp)).trans (World.alloc_heap_new w _)
  have hI1 : I [] W1 := by rw [← hW1]; exact hIa _ _ _ (hIa _ _ _ h0)
  have hp1 : P0 W1 := by rw [← hW1]; exact hP0 _ _ (hP0 _ _ hw0)
  have hfar : ∀ (W : World) (v : Value) (k : Nat), w.heap.size ≤ k → (W.setCell ⟨B, 0, none⟩ v).heap[k]? = W.heap[k]? := fun W v k hk => Below.heap_setCell W ⟨B, 0, none⟩ v k (by simp; omega)
  refine ⟨w.heap.size + 1, [{ target := .collected w.heap.size, args := #[] }], W1, { target := .fn (.func gf) lb, args := #[.func (.yield (w.heap.size + 1)) #[] #[]] }, W1, gf,
    #[.func (.yield (w.heap.size + 1)) #[] #[]] ++ lb, W1, ?_, ?_, ?_, ?_, fun _ => h1, ?_⟩
  · rw [← hW1, hrec]; exact run_enterLoop_outer _ _ _ _ _
  · simp only [resolve, hg]
    simp [go_sem]
  · intro f' hf'; simp [Target.leads] at hf'; subst hf'; exact hFg
  · simp [invoke, go_sem, eg]
  · refine (hseq (w.heap.size + 1)
      (fun pre W => I pre W ∧ W.heap[w.heap.size + 1]? = some (.loop (rec .ready none)) ∧ W.heap[w.heap.size]? = some (.deferred (some [])))
      (fun pre W => ∃ c, Ix c pre W ∧ W.heap[w.heap.size + 1]? = some (.loop (rec .done (some c))) ∧ W.heap[w.heap.size]? = some (.deferred (some [])))
      W1 (fun pre W v hs => ⟨hIB _ _ _ hs.1, (hfar W v _ (by omega)).trans hs.2.1, (hfar W v _ (by omega)).trans hs.2.2⟩) ?_ hp1 ⟨hI1, hL1, hK1⟩).mono ?_
    · rintro pre x W ⟨hi, hl, hk⟩ hok
      have hlt : w.heap.size + 1 < W.heap.size := (Array.getElem?_eq_some_iff.1 hl).1
      have hy := run_yield (P := P) (args := encs x) hl (by rw [hrec]; exact hps x)
      rw [hrec] at hy
      refine ⟨fn, _, assign, body, hy, roundIn_of_wpIn hfn (hassign _ x W _ ⟨_, run_beginRound hl (by rw [hrec]), ?_⟩)⟩
      have hl2 : (W.putObj (w.heap.size + 1) (.loop { rec .ready none with state := .busy })).heap[w.heap.size + 1]? = some (.loop { rec .ready none with state := .busy }) := World.putObj_heap_same hlt
      have hk2 : (W.putObj (w.heap.size + 1) (.loop { rec .ready none with state := .busy })).heap[w.heap.size]? = some (.deferred (some [])) := (World.putObj_heap_other (by omega)).trans hk
      have hw2 : Kept B W (W.putObj (w.heap.size + 1) (.loop { rec .ready none with state := .busy })) := fun k hk => World.putObj_heap_other (by omega)
      refine wpIn_mono (hbody _ pre x _ (hIp _ _ _ _ _ hi (by omega) hl rfl) hok) ?_
      have fin : ∀ (jump : Option Code) (W3 : World), KeepsOthers (W.putObj (w.heap.size + 1) (.loop { rec .ready none with state := .busy })) W3 →
          (Instr.endRound (w.heap.size + 1) jump).run P W3 = .ok (.bool jump.isNone) (W3.putObj (w.heap.size + 1) (.loop (rec (if jump.isNone then .ready else .done) jump))) ∧
          W3.heap[w.heap.size + 1]? = some (.loop { rec .ready none with state := .busy }) ∧
          (W3.putObj (w.heap.size + 1) (.loop (rec (if jump.isNone then .ready else .done) jump))).heap[w.heap.size + 1]? = some (.loop (rec (if jump.isNone then .ready else .done) jump)) ∧
          (W3.putObj (w.heap.size + 1) (.loop (rec (if jump.isNone then .ready else .done) jump))).heap[w.heap.size]? = some (.deferred (some [])) := fun jump W3 hk3 => by
        have hl3 := hk3.same _ _ hl2 rfl
        have := run_endRound (P := P) jump hl3
        rw [hrec] at this ⊢
        exact ⟨this, by rw [hrec] at hl3; exact hl3, World.putObj_heap_same (Array.getElem?_eq_some_iff.1 hl3).1, (World.putObj_heap_other (by omega)).trans (hk3.same _ _ hk2 rfl)⟩
      rintro e a3 W3 hp
      cases e with
      | normal =>
        obtain ⟨hk3, hkb, hi3⟩ := hp
        obtain ⟨hr, hl3, hl4, hk4⟩ := fin none W3 hk3
        exact ⟨_, _, hr, .inl ⟨rfl, ⟨hIp _ _ _ _ _ hi3 (by omega) hl3 rfl, hl4, hk4⟩, fun k hk => (World.putObj_heap_other (by omega)).trans ((hkb k hk).trans (hw2 k hk))⟩⟩
      | ret =>
        obtain ⟨hk3, hi3⟩ := hp
        obtain ⟨hr, hl3, hl4, hk4⟩ := fin (some .ret) W3 hk3
        exact ⟨_, _, hr, .inr ⟨rfl, .ret, hIxp _ _ _ _ _ _ hi3 (by omega) hl3 rfl, hl4, hk4⟩⟩
      | exit id =>
        obtain ⟨hk3, hi3⟩ := hp
        obtain ⟨hr, hl3, hl4, hk4⟩ := fin (some (.exit id)) W3 hk3
        exact ⟨_, _, hr, .inr ⟨rfl, .exit id, hIxp _ _ _ _ _ _ hi3 (by omega) hl3 rfl, hl4, hk4⟩⟩
      | goto t =>
        obtain ⟨hk3, hi3⟩ := hp
        obtain ⟨hr, hl3, hl4, hk4⟩ := fin (some (.goto t)) W3 hk3
        exact ⟨_, _, hr, .inr ⟨rfl, .goto t, hIxp _ _ _ _ _ _ hi3 (by omega) hl3 rfl, hl4, hk4⟩⟩
      | panic ch => exact hp.elim
      | outgrown => exact hp.elim
    · rintro e W2 ⟨⟨v, rfl⟩, (⟨xs, hS, hi, hl, hk⟩ | ⟨pre, hSp, c, hi, hl, hk⟩)⟩
      · exact ⟨none, _, by have := run_endLoop (P := P) hl (by rw [hrec]; simp); rw [hrec] at this; exact this, hdone _ xs _ (Nat.le_refl _) hS (hIp _ _ _ _ _ hi (by omega) hl rfl) ((World.putObj_heap_other (by omega)).trans hk)⟩
      · exact ⟨some c, _, by have := run_endLoop (P := P) hl (by rw [hrec]; simp); rw [hrec] at this; exact this, hstop _ c pre _ (Nat.le_refl _) hSp (hIxp _ _ _ _ _ _ hi (by omega) hl rfl) ((World.putObj_heap_other (by omega)).trans hk)⟩
end
def Good (pre : List ByteArray) : Prop := pre.all nameB = true ∧ pre.length ≤ 64
def Bad (pre : List ByteArray) : Prop := pre.all nameB = false ∨ 64 < pre.length
theorem putObj_box {W : World} {l k : Nat} {o o' : Obj} {t : TypeId} {v : Value} (h : Boxed W k t v) (hl : W.heap[l]? = some o) (ho : o.isCells = false) : Boxed (W.putObj l o') k t v := by
  have hne : k ≠ l := by
    rintro rfl
    rw [show W.heap[k]? = _ from h] at hl
    cases hl
    cases ho
  exact (World.putObj_heap_other hne).trans h
theorem putObj_below {w W : World} {l : Nat} {o : Obj} (h : Below w.heap.size w W) (hl : w.heap.size ≤ l) : Below w.heap.size w (W.putObj l o) :=
  ⟨h.os, h.tape, h.output, by simpa using h.size, fun k hk => (World.putObj_heap_other (by omega)).trans (h.block k hk)⟩
theorem others_of_below {W W' : World} (h : Below W.heap.size W W') : KeepsOthers W W' := ⟨h.size, fun k o hk _ => (h.block k (Array.getElem?_eq_some_iff.1 hk).1).trans hk⟩
theorem grownBy_of_below {W W' : World} (h : Below W.heap.size W W') : W.grownBy W' none := ⟨h.os, h.tape, h.output, h.size, fun i hi _ => h.block i hi⟩
theorem kept_of_below {W W' : World} {B : Nat} (h : Below W.heap.size W W') (hB : B + 2 < W.heap.size) : Kept B W W' := fun k hk => h.block k (by omega)
set_option maxRecDepth 100000 in
set_option maxHeartbeats 4000000 in
theorem valid_calls (s : ByteArray) (w : World) (hs : s.size ≤ 140737488355328) :
    Calls Tryd.prog 21 #[.string s] w fun e w' => e = .returned (.bool (validB s)) ∧ Below w.heap.size w w' := by
  refine (callsIn_wide (n := 8)).1 ?_
  have q1 : Fence.wide.fn 41 := trivial
  have HQ := Lib.hid (fun W : World => callsIn_wide (n := 8 - 1).2 (splitSeq_calls s W))
  refine callsIn_of_wp_marks Tryd.func21 rfl trivial ?_
  simp only [Tryd.ntmps21, List.size_toArray, List.length_cons, List.length_nil, Nat.reduceAdd, Nat.reduceSub, Array.replicate_succ, Array.replicate_zero, List.push_toArray, List.append_toArray, List.nil_append, List.cons_append]
  gi_wp2_with (gi_at_call 41; refine (HQ.out _).mono ?_; rintro e w1 ⟨rfl, hw1⟩; have HW1 := Lib.hid hw1; clear hw1)
  have b0 : Boxed w1 w.heap.size 4 (.bool false) := by rw [HW1.out]; exact ((((Boxed.new _ _ _).alloc _).alloc _).alloc _).alloc _
  have b1 : Boxed w1 (w.heap.size + 1) 3 (.int .i64 (([] : List ByteArray).length : Int)) := by
    rw [HW1.out]
    have h := (((Boxed.new (w.alloc (.cells #[.bool false] 4)) 3 (.int .i64 0)).alloc (.cells #[.string s] 9)).alloc (.cells #[.string ⟨#[47]⟩] 9)).alloc (.cells #[.int .i64 0] 3)
    simpa using h
  have b2 : Seq w1 (w.heap.size + 2) s := by
    rw [HW1.out]
    have h := Seq.new ((w.alloc (.cells #[.bool false] 4)).alloc (.cells #[.int .i64 0] 3)) s
    simpa using h
  have hb : Below w.heap.size w w1 := by rw [HW1.out]; exact balloc (balloc (balloc (balloc (balloc (Below.refl _ _) _) _) _) _) _
  have hsz : w1.heap.size = w.heap.size + 5 := by rw [HW1.out]; simp
  clear HW1 HQ q1
  refine wpIn_range_kept (α := ByteArray) (B := w.heap.size + 2) (P0 := fun W => Seq W (w.heap.size + 2) s) (encs := fun x => #[.string x]) (ok := fun x => x.size ≤ s.size) (S := fun xs => xs = pcs s) (Sp := fun pre => pre <+: pcs s) (gf := 66) (lb := #[.pointer (some ⟨w.heap.size + 3, 0, none⟩), .pointer (some ⟨w.heap.size + 2, 0, none⟩), .pointer (some ⟨w.heap.size + 4, 0, none⟩)])
    rfl (by decide) rfl trivial (enters_of Tryd.func66 (by kernel_rfl) rfl) (fun W o h => ⟨h.s.alloc o, h.p.alloc o, h.v.alloc o⟩) (by omega) b2
    (fun l J Jx W hJB hY hW h0 => (seq_in (8 - 1) l (w.heap.size + 2) s hs (by decide) J Jx hJB hY W hW h0).mono fun e W' ⟨he, h⟩ => ⟨he, h.imp (fun h => ⟨_, rfl, h⟩) (fun ⟨pre, h1, h2⟩ => ⟨pre, h1, h2⟩)⟩)
    (fun _ => rfl)
    (fun pre W => Boxed W w.heap.size 4 (.bool false) ∧ Boxed W (w.heap.size + 1) 3 (.int .i64 (pre.length : Int)) ∧ Hid (Good pre) ∧ w.heap.size + 5 ≤ W.heap.size ∧ Below w.heap.size w W)
    (fun c pre W => c = .ret ∧ Boxed W w.heap.size 4 (.bool false) ∧ Hid (Bad pre) ∧ Below w.heap.size w W)
    (fun pre W o ⟨h1, h2, h3, h5, h4⟩ => ⟨h1.alloc o, h2.alloc o, h3, by simp; omega, balloc h4 o⟩)
    (fun pre W l o o' ⟨h1, h2, h3, h5, h4⟩ hle hl ho => ⟨putObj_box h1 hl ho, putObj_box h2 hl ho, h3, by simpa using h5, putObj_below h4 (by omega)⟩)
    (fun c pre W l o o' ⟨h0, h1, h3, h4⟩ hle hl ho => ⟨h0, putObj_box h1 hl ho, h3, putObj_below h4 (by omega)⟩)
    (fun pre W v ⟨h1, h2, h3, h5, h4⟩ => ⟨(Below.heap_setCell W ⟨w.heap.size + 2, 0, none⟩ _ _ (by simp)).trans h1, (Below.heap_setCell W ⟨w.heap.size + 2, 0, none⟩ _ _ (by simp)).trans h2, h3, by simpa [World.setCell] using h5, h4.setCell (by simp) _⟩)
    ⟨b0, b1, Lib.hid ⟨by simp, by simp⟩, by omega, hb⟩
    (fun x => { tmps := #[.string s, undef, .pointer (some ⟨w.heap.size, 0, none⟩), .pointer (some ⟨w.heap.size + 1, 0, none⟩), .string x, .string s, .func (.func 66) #[] #[.pointer (some ⟨w.heap.size + 3, 0, none⟩), .pointer (some ⟨w.heap.size + 2, 0, none⟩), .pointer (some ⟨w.heap.size + 4, 0, none⟩)], .string x, undef, undef, undef, undef, undef, undef, undef, undef, undef, undef, undef, undef], defers := [] }) ?assign ?body ?done ?stop
  case assign =>
    intro l x W K hK
    gi_wp2
    exact hK
  case body =>
    rintro l pre x W ⟨hb0, hb1, hpre, hW5, hbel⟩ hx
    have c0 := hb0.cell
    have f0 := hb0.frozen
    have c1 := hb1.cell
    have f1 := hb1.frozen
    have hlt0 := hb0.lt
    have q1 : Fence.wide.fn 42 := trivial
    have hne : w.heap.size + 1 ≠ w.heap.size := by omega
    have s0 := Lib.hid (show Boxed (W.setCell ⟨w.heap.size + 1, 0, none⟩ (.int .i64 ((pre.length : Int) + 1))) w.heap.size 4 (.bool false) from (Below.heap_setCell W ⟨w.heap.size + 1, 0, none⟩ _ w.heap.size (by simp)).trans hb0)
    have s1 := Lib.hid (show Boxed (W.setCell ⟨w.heap.size + 1, 0, none⟩ (.int .i64 ((pre.length : Int) + 1))) (w.heap.size + 1) 3 (.int .i64 ((pre.length : Int) + 1)) from hb1.set _)
    have s2 := Lib.hid (show Below w.heap.size w (W.setCell ⟨w.heap.size + 1, 0, none⟩ (.int .i64 ((pre.length : Int) + 1))) from hbel.setCell (by simp) _)
    have s3 := Lib.hid (show Kept (w.heap.size + 2) W (W.setCell ⟨w.heap.size + 1, 0, none⟩ (.int .i64 ((pre.length : Int) + 1))) from fun k hk => Below.heap_setCell W ⟨w.heap.size + 1, 0, none⟩ _ k (by simp; omega))
    have e0 := s0.out.cell
    have e1 := s1.out.cell
    have g0 := s0.out.frozen
    have hpl := hpre.out.2
    by_cases h64 : pre.length = 64
    · have HX := Lib.hid (show Bad (pre ++ [x]) from .inr (by simp; omega))
      clear hpre s1 s3
      have h65 : (64 : Int) < (pre.length : Int) + 1 := by omega
      clear h64
      gi_wp2
      exact ⟨(KeepsOthers.setCell _ _ _).trans (KeepsOthers.setCell _ _ _), rfl, s0.out.set _, HX, s2.out.setCell (Nat.le_refl _) _⟩
    · have h65 : (pre.length : Int) + 1 ≤ 64 := by omega
      clear h64
      cases hnx : nameB x
      · have HC := Lib.hid (fun W' : World => (CallsIn.inRound (F := Fence.wide) (n := 8 - 1 - 1 - 1) l (callsIn_wide.2 (name_calls x W' (by omega)))))
        rw [hnx] at HC
        have HX := Lib.hid (show Bad (pre ++ [x]) from .inl (by simp [hnx]))
        clear hnx
        gi_wp2_with (gi_at_call 42; refine (HC.out _).mono ?_; rintro e w2 ⟨rfl, hb2⟩; have k0 := Boxed.kept (row := none) s0.out (grownBy_of_below hb2) (by simp); have kc := k0.cell; have kf := k0.frozen; have K2 := Lib.hid hb2; clear hb2)
        exact ⟨((KeepsOthers.setCell _ _ _).trans (others_of_below K2.out)).trans (KeepsOthers.setCell _ _ _), rfl, k0.set _, HX, (bgo s2.out K2.out).setCell (Nat.le_refl _) _⟩
      · have HC := Lib.hid (fun W' : World => (CallsIn.inRound (F := Fence.wide) (n := 8 - 1 - 1 - 1) l (callsIn_wide.2 (name_calls x W' (by omega)))))
        rw [hnx] at HC
        have HX := Lib.hid (show Good (pre ++ [x]) from ⟨by simp [hnx, hpre.out.1], by simp; omega⟩)
        clear hnx
        gi_wp2_with (gi_at_call 42; refine (HC.out _).mono ?_; rintro e w2 ⟨rfl, hb2⟩; have k0 := Boxed.kept (row := none) s0.out (grownBy_of_below hb2) (by simp); have k1 := Boxed.kept (row := none) s1.out (grownBy_of_below hb2) (by simp); have kc := k0.cell; have kf := k0.frozen; have K2 := Lib.hid hb2; clear hb2)
        exact ⟨(KeepsOthers.setCell _ _ _).trans (others_of_below K2.out), fun k hk => (kept_of_below K2.out (by simp [World.setCell]; omega) k hk).trans (s3.out k hk), k0, by simpa using k1, HX, Nat.le_trans (by simpa [World.setCell] using hW5) K2.out.size, bgo s2.out K2.out⟩
  case done =>
    rintro D xs W hD rfl ⟨hb0, hb1, hpre, hW5, hbel⟩ hK
    have c0 := hb0.cell
    have f0 := hb0.frozen
    have hK2 := Lib.hid (fun v => (KeepsOthers.setCell W ⟨w.heap.size, 0, none⟩ v).same D _ hK rfl)
    have hv : Hid (validB s = decide ((s.size : Int) ≤ 1024)) := Lib.hid (by
      unfold validB
      rw [hpre.out.1, decide_eq_true hpre.out.2]
      simp
      omega)
    have hbs := Lib.hid (fun v => hb0.set v)
    gi_wp2
    refine ⟨by simp, .inl ⟨_, _, rfl, run_takeDeferred (hK2.out _), ?_⟩⟩
    have hbx := putObj_box (o' := .deferred none) (hbs.out (.bool (decide ((s.size : Int) ≤ 1024)))) (hK2.out _) rfl
    have hcx := hbx.cell
    refine ⟨.bool (decide ((s.size : Int) ≤ 1024)), by simp [results, Tryd.results21, go_sem, hcx], ?_⟩
    rw [hv.out]
    exact ⟨rfl, putObj_below (hbel.setCell (Nat.le_refl _) _) (by omega)⟩
  case stop =>
    rintro D c pre W hD ⟨r, hr⟩ ⟨rfl, hb0, hbad, hbel⟩ hK
    have hv : Hid (validB s = false) := Lib.hid (by
      unfold validB
      rw [← hr, List.all_append, List.length_append]
      rcases hbad.out with h | h
      · rw [h]; simp
      · rw [decide_eq_false (show ¬ (pre.length + r.length ≤ 64) by omega)]; simp)
    have hbx := putObj_box (o' := .deferred none) hb0 hK rfl
    have hcx := Lib.hid hbx.cell
    have HK := Lib.hid hK
    clear hK
    gi_wp2
    refine ⟨by simp, .inl ⟨_, _, rfl, run_takeDeferred HK.out, ?_⟩⟩
    have hcy := hcx.out
    refine ⟨.bool false, by simp [results, Tryd.results21, go_sem, hcy], ?_⟩
    rw [hv.out]
    exact ⟨rfl, putObj_below hbel (by omega)⟩
end Go.Proofs.YtageofdcloneoaaDoor.Rout
