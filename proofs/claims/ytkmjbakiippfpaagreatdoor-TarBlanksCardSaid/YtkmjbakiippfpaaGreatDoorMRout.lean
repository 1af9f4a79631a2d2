/- RoutP, Reg, RoutN put together. -/
import Derived.Lib.IndexLaws
import Derived.Lib.IndexBytes
import Derived.Laws.RangeAny
import Derived.WalkKit
import Derived.BigQuiet
import Derived.Below
import Derived.Deep.Draws
import Derived.Test.YtkmjbakiippfpaaGreatDoorProg
import Derived.Lib.Hide
set_option linter.unusedVariables false
namespace Go.Proofs.YtkmjbakiippfpaaGreatDoor.Rout
open Go.RowKit
theorem ba_ext {s t : ByteArray} (h : s.data.toList = t.data.toList) : s = t := by
  obtain ⟨⟨l⟩⟩ := s
  obtain ⟨⟨m⟩⟩ := t
  simp at h
  rw [h]
def toB (l : List UInt8) : ByteArray := ⟨l.toArray⟩
theorem toB_data (s : ByteArray) : toB s.data.toList = s := ba_ext (by simp [toB])
theorem data_toB (l : List UInt8) : (toB l).data.toList = l := by simp [toB]
theorem size_toB (l : List UInt8) : (toB l).size = l.length := by simp [toB, ByteArray.size]
theorem size_data (s : ByteArray) : s.data.toList.length = s.size := by rw [Array.length_toList]; rfl
/-- Cut at each 47. -/
def cut : List UInt8 → List (List UInt8)
  | [] => [[]]
  | c :: r => if c = 47 then [] :: cut r else match cut r with
    | [] => [[c]]
    | p :: ps => (c :: p) :: ps
theorem cut_ne : ∀ l, cut l ≠ []
  | [] => by simp [cut]
  | c :: r => by
    unfold cut
    split
    · simp
    · split <;> simp
theorem cut_miss : ∀ l : List UInt8, (∀ k : Nat, l[k]? ≠ some 47) → cut l = [l]
  | [], _ => rfl
  | c :: r, h => by
    have h0 : c ≠ 47 := fun e => h 0 (by simp [e])
    have hr := cut_miss r (fun k => by have := h (k + 1); simpa using this)
    unfold cut
    rw [if_neg h0, hr]
theorem cut_hit : ∀ (l : List UInt8) (m : Nat), l[m]? = some 47 → (∀ k, k < m → l[k]? ≠ some 47) → cut l = l.take m :: cut (l.drop (m + 1))
  | [], m, h, _ => by simp at h
  | c :: r, 0, h, _ => by
    have h0 : c = 47 := by simpa using h
    simp [cut, h0]
  | c :: r, m + 1, h, hk => by
    have h0 : c ≠ 47 := fun e => hk 0 (by omega) (by simp [e])
    have hr := cut_hit r m (by simpa using h) (fun k h1 => by have := hk (k + 1) (by omega); simpa using this)
    rw [show cut (c :: r) = if c = 47 then [] :: cut r else match cut r with | [] => [[c]] | p :: ps => (c :: p) :: ps from rfl, if_neg h0, hr]
    rfl
/-- The pieces of a text. -/
def pcs (s : ByteArray) : List ByteArray := (cut s.data.toList).map toB
theorem pcs_ne (s : ByteArray) : pcs s ≠ [] := by
  unfold pcs
  intro h
  exact cut_ne _ (List.map_eq_nil_iff.1 h)
theorem pcs_miss (s : ByteArray) (h : Lib.indexByte s.data.toList 47 = -1) : pcs s = [s] := by
  unfold pcs
  rw [cut_miss _ (Lib.indexByte_none h)]
  simp [toB_data]
theorem pcs_hit (s : ByteArray) (m : Nat) (h : Lib.indexByte s.data.toList 47 = (m : Int)) : m < s.size ∧ pcs s = s.extract 0 m :: pcs (s.extract (m + 1) s.size) := by
  obtain ⟨h1, h2⟩ := Lib.indexByte_some h
  have hm : m < s.size := by
    have := List.getElem?_eq_some_iff.1 h1
    obtain ⟨hl, _⟩ := this
    rwa [size_data] at hl
  refine ⟨hm, ?_⟩
  unfold pcs
  rw [cut_hit _ m h1 h2, Lib.extract_to_end]
  rw [List.map_cons]
  congr 1
  exact ba_ext (by rw [data_toB, Lib.extract_data]; simp)
/-- Is a text a name? -/
def nameB (s : ByteArray) : Bool := decide (1 ≤ s.size) && decide (s.size ≤ 255) && (s.data.toList != [46]) && (s.data.toList != [46, 46]) && s.data.toList.all (fun c => c != 47 && c != 0)
def validB (s : ByteArray) : Bool := (pcs s).all nameB && decide ((pcs s).length ≤ 64) && decide (s.size ≤ 1024)
/-! ### runes -/
theorem get_data (s : ByteArray) (i : Nat) (h : i < s.size) : s.data.toList[i]? = some (s[i]'h) := by
  have h' : i < s.data.toList.length := by rw [size_data]; exact h
  rw [List.getElem?_eq_getElem h', Array.getElem_toList]
  rfl
theorem decode_cont (s : ByteArray) (pos k : Nat) (h : pos < s.size) (h1 : 1 ≤ k) (h2 : k < (Utf8.decode s pos).2) : ∃ hk : pos + k < s.size, 128 ≤ (s[pos + k]'hk).toNat := by
  have key : ∀ j, (decide (pos + j < s.size) && (s.get! (pos + j)).toNat / 64 == 2) = true → ∃ hk : pos + j < s.size, 128 ≤ (s[pos + j]'hk).toNat := by
    intro j hj
    simp only [Bool.and_eq_true, decide_eq_true_eq, beq_iff_eq] at hj
    obtain ⟨hl, hd⟩ := hj
    refine ⟨hl, ?_⟩
    have e := get_at s (pos + j) hl
    rw [Nat.add_zero] at e
    rw [e] at hd
    omega
  simp only [Utf8.decode] at h2
  split at h2
  · omega
  · split at h2
    · rename_i hc
      simp only [Bool.and_eq_true] at hc
      have c1 := key 1 (by simpa using hc.2)
      split at h2
      · obtain rfl : k = 1 := by simp at h2; omega
        exact c1
      · simp at h2; omega
    · split at h2
      · rename_i hc
        simp only [Bool.and_eq_true] at hc
        have c1 := key 1 (by simpa using hc.1.2)
        have c2 := key 2 (by simpa using hc.2)
        split at h2
        · obtain rfl | rfl : k = 1 ∨ k = 2 := by simp at h2; omega
          · exact c1
          · exact c2
        · simp at h2; omega
      · split at h2
        · rename_i hc
          simp only [Bool.and_eq_true] at hc
          have c1 := key 1 (by simpa using hc.1.1.2)
          have c2 := key 2 (by simpa using hc.1.2)
          have c3 := key 3 (by simpa using hc.2)
          split at h2
          · obtain rfl | rfl | rfl : k = 1 ∨ k = 2 ∨ k = 3 := by simp at h2; omega
            · exact c1
            · exact c2
            · exact c3
          · simp at h2; omega
        · simp at h2; omega
theorem width_pos (s : ByteArray) (pos : Nat) (h : pos < s.size) : 1 ≤ (Utf8.decode s pos).2 := by
  by_cases ha : (s[pos]'h).toNat < 128
  · rw [decode_ascii s pos h ha]
    exact Nat.le_refl _
  · exact (decode_high s pos h (by omega)).2
/-- No byte ahead of a place is 47 or 0. -/
def clean (s : ByteArray) (pos : Nat) : Prop := ∀ i c, i < pos → s.data.toList[i]? = some c → c ≠ 47 ∧ c ≠ 0
theorem clean_step (s : ByteArray) (pos : Nat) (h : pos < s.size) (hc : clean s pos) (h1 : (Utf8.decode s pos).1 ≠ 47) (h2 : (Utf8.decode s pos).1 ≠ 0) : clean s (pos + (Utf8.decode s pos).2) := by
  intro i c hi hg
  by_cases hlt : i < pos
  · exact hc i c hlt hg
  · by_cases he : i = pos
    · subst he
      rw [get_data s i h] at hg
      obtain rfl := Option.some.inj hg
      by_cases ha : (s[i]'h).toNat < 128
      · rw [decode_ascii s i h ha] at h1 h2
        constructor
        · intro e; rw [e] at h1; exact h1 rfl
        · intro e; rw [e] at h2; exact h2 rfl
      · constructor
        · intro e; rw [e] at ha; exact ha (by decide)
        · intro e; rw [e] at ha; exact ha (by decide)
    · obtain ⟨hk, hb⟩ := decode_cont s pos (i - pos) h (by omega) (by omega)
      have e2 : pos + (i - pos) = i := by omega
      have hi2 : i < s.size := by omega
      rw [get_data s i hi2] at hg
      obtain rfl := Option.some.inj hg
      have hb' : 128 ≤ (s[i]'hi2).toNat := by simpa [e2] using hb
      constructor
      · intro e; rw [e] at hb'; exact absurd hb' (by decide)
      · intro e; rw [e] at hb'; exact absurd hb' (by decide)
theorem dirty_at (s : ByteArray) (pos : Nat) (h : pos < s.size) (h1 : (Utf8.decode s pos).1 = 47 ∨ (Utf8.decode s pos).1 = 0) : s.data.toList.all (fun c => c != 47 && c != 0) = false := by
  have ha : (s[pos]'h).toNat < 128 := by
    by_cases ha : (s[pos]'h).toNat < 128
    · exact ha
    · have := (decode_high s pos h (by omega)).1
      omega
  rw [decode_ascii s pos h ha] at h1
  rw [List.all_eq_false]
  refine ⟨s[pos]'h, List.mem_of_getElem? (get_data s pos h), ?_⟩
  rcases h1 with h1 | h1
  · have : s[pos]'h = 47 := UInt8.toNat_inj.1 h1
    simp [this]
  · have : s[pos]'h = 0 := UInt8.toNat_inj.1 h1
    simp [this]
theorem clean_all (s : ByteArray) (pos : Nat) (h : s.size ≤ pos) (hc : clean s pos) : s.data.toList.all (fun c => c != 47 && c != 0) = true := by
  rw [List.all_eq_true]
  intro c hm
  obtain ⟨i, hi, rfl⟩ := List.getElem_of_mem hm
  have := hc i _ (by rw [size_data] at hi; omega) (List.getElem?_eq_getElem hi)
  simpa using this
end Go.Proofs.YtkmjbakiippfpaaGreatDoor.Rout
namespace Go.Proofs.YtkmjbakiippfpaaGreatDoor.Reg
open Go.RowKit

theorem bdrew {B : Nat} {w W : World} (h : Below B w W) : Below B w W.drew := ⟨h.os, h.tape, h.output, h.size, h.block⟩
theorem bdrewN {B : Nat} {w W : World} (h : Below B w W) (n : Nat) : Below B w (W.drewN n) := ⟨h.os, h.tape, h.output, h.size, h.block⟩
theorem balloc {w W : World} (h : Below w.heap.size w W) (o : Obj) : Below w.heap.size w (W.alloc o) := h.alloc h.size o
theorem bthen {B : Nat} {w w1 w2 : World} (h : Below B w w1) (hB : B ≤ w1.heap.size) (k : Below w1.heap.size w1 w2) : Below B w w2 :=
  h.trans ⟨k.os, k.tape, k.output, k.size, fun i hi => k.block i (Nat.lt_of_lt_of_le hi hB)⟩
theorem bgo {w w1 w2 : World} (h : Below w.heap.size w w1) (k : Below w1.heap.size w1 w2) : Below w.heap.size w w2 := bthen h h.size k
theorem bcell {W w1 : World} (hb : Below W.heap.size W w1) : (∀ b o, b < W.heap.size → w1.cell? ⟨b, o, none⟩ = W.cell? ⟨b, o, none⟩) ∧ (∀ b o, b < W.heap.size → w1.frozen? ⟨b, o, none⟩ = W.frozen? ⟨b, o, none⟩) :=
  ⟨fun b o h => hb.cell (p := ⟨b, o, none⟩) h, fun b o h => hb.frozen (p := ⟨b, o, none⟩) h⟩
theorem bkeep {w w1 : World} (h : Below w.heap.size w w1) {a : Addr} {v : Value} (hc : w.cell? a = some v) : w1.cell? a = some v := (h.cell (World.block_lt_of_cell? w a hc)).trans hc

/-- The worlds above w, as a type. -/
def Abv (w : World) : Type := { x : World // Below w.heap.size w x }
def Abv.w {w : World} (c : Abv w) : World := c.1
theorem Abv.bel {w : World} (c : Abv w) : Below w.heap.size w c.w := c.2
theorem Abv.cell {w : World} (c : Abv w) {a : Addr} {v : Value} (hc : w.cell? a = some v) : c.w.cell? a = some v := bkeep c.2 hc
theorem Abv.call {w : World} {f : FuncId} {args : Array Value} {P : Program} {v : Value} (n : Abv w) (hc : Calls P f args n.w fun e w' => e = .returned v ∧ Below n.w.heap.size n.w w') :
    Calls P f args n.w fun e w' => e = .returned v ∧ ∃ m : Abv w, w' = m.w := hc.mono fun _ w' ⟨he, hb⟩ => ⟨he, ⟨w', bgo n.2 hb⟩, rfl⟩

/-- ONE WALK OF THE LEXICAL ORDER SERVES EVERY ORDER, where each callee hands back one value, whatever the world above w, and makes memory alone. -/
theorem wp_region_above {P : Program} {id : Nat} {Q : Exit → Act → World → Prop} {a : Act} {w : World} {l : List Oper} (hm : P.follows .mixedOrders = true) (hB : Region.lexB .any l.toArray = true)
    (h : Nonempty (Abv w) → wpQuiet P l.toArray (fun w' => ∃ n : Abv w, w' = n.w) (fun a' => ∀ w', (∃ n : Abv w, w' = n.w) → Q .normal a' w') l a) : (Code.region id l.toArray true).wp P Q a w :=
  wp_region_quiet (C := fun w' => ∃ n : Abv w, w' = n.w) hm hB ⟨⟨w.drew, bdrew (Below.refl _ _)⟩, rfl⟩ (by simpa using h ⟨⟨w, Below.refl _ _⟩⟩)
/-- Behind it: the world is a new one, above w. -/
theorem quiet_above {P : Program} {ops : Array Oper} {Q : Exit → Act → World → Prop} {a : Act} {w : World} (h : ∀ w1, Below w.heap.size w w1 → Q .normal a w1) :
    wpQuiet P ops (fun w' => ∃ n : Abv w, w' = n.w) (fun a' => ∀ w', (∃ n : Abv w, w' = n.w) → Q .normal a' w') [] a :=
  wpQuiet_nil (by rintro _ ⟨n, rfl⟩; exact h _ n.2)
/-- The world at hand under a name of its own. -/
theorem wp_world {P : Program} {c : Code} {Q : Exit → Act → World → Prop} {a : Act} {w : World} (h : ∀ w1, w1 = w → c.wp P Q a w1) : c.wp P Q a w := h w rfl
end Go.Proofs.YtkmjbakiippfpaaGreatDoor.Reg
set_option linter.unusedVariables false
set_option linter.unusedSimpArgs false
namespace Go.Proofs.YtkmjbakiippfpaaGreatDoor.Rout
open Go.RowKit Go.BigFrame Go.Proofs.YtkmjbakiippfpaaGreatDoor.Reg
theorem below_iter (w : World) (s : ByteArray) (pos : Nat) : Below w.heap.size w (w.iter s pos) := balloc (Below.refl _ _) _
def plainB (s : ByteArray) : Bool := s.data.toList.all (fun c => c != 47 && c != 0)
theorem ret_bool {a b : Bool} (h : a = b) : Ending.returned (.bool a) = .returned (.bool b) := by rw [h]
set_option maxHeartbeats 2000000 in
theorem name_long (s : ByteArray) (w : World) (h1 : 1 ≤ s.size) (h2 : s.size ≤ 255) (h3 : (s.toList == [46]) = false) (h4 : (s.toList == [46, 46]) = false) :
    Calls Tryz.prog 31 #[.string s] w fun e w' => e = .returned (.bool (plainB s)) ∧ Below w.heap.size w w' := by
  go_enter Tryz.func31, Tryz.ntmps31
  go_wp2
  go_loopw [4] (fun _ w' => ∃ pos : Nat, w' = w.iter s pos ∧ Hid (clean s pos)) (fun _ w' => s.size - w'.iterPos w.heap.size)
  case atStart => exact ⟨0, rfl, Lib.hid (fun i c hi => by omega)⟩
  case round =>
    obtain ⟨pos, rfl, hc⟩ := hrel
    by_cases hp : pos < s.size
    · have hnx : ∀ ty, (Instr.next (.pointer (some ⟨w.heap.size, 0, none⟩)) true ty).run Tryz.prog (w.iter s pos) = _ := fun ty => run_next_any w s pos ty hp
      have hwd := width_pos s pos hp
      have hd := Lib.hid (show (Utf8.decode s pos).1 = 47 ∨ (Utf8.decode s pos).1 = 0 → plainB s = false from dirty_at s pos hp)
      have hs := Lib.hid (clean_step s pos hp hc.out)
      generalize (Utf8.decode s pos).1 = r at *
      generalize (Utf8.decode s pos).2 = n at *
      by_cases hr : r = 47
      · have HE := Lib.hid (hd.out (.inl hr))
        clear hd
        subst hr
        go_wp2
        go_ret
        exact ⟨ret_bool HE.out.symm, below_iter _ _ _⟩
      · by_cases hr2 : r = 0
        · have HE := Lib.hid (hd.out (.inr hr2))
          clear hd
          subst hr2
          go_wp2
          go_ret
          exact ⟨ret_bool HE.out.symm, below_iter _ _ _⟩
        · have hn1 : ((r : Int) == 47) = false := beq_eq_false_iff_ne.mpr (by omega)
          have hn2 : ((r : Int) == 0) = false := beq_eq_false_iff_ne.mpr (by omega)
          have hcl := Lib.hid (hs.out hr hr2)
          clear hs hd
          go_wp2
          go_roundw
          case rel => exact ⟨pos + n, rfl, hcl⟩
          case measure => simp; omega
    · have hnx : ∀ ty, (Instr.next (.pointer (some ⟨w.heap.size, 0, none⟩)) true ty).run Tryz.prog (w.iter s pos) = _ := fun ty => run_next_end w s pos ty hp
      go_wp2
      go_ret
      exact ⟨ret_bool (show plainB s = true from clean_all s pos (by omega) hc.out).symm, below_iter _ _ _⟩
theorem toList_data (s : ByteArray) : s.toList = s.data.toList := Lib.toList_data s
theorem name_calls (s : ByteArray) (w : World) (hs : s.size ≤ 140737488355328) :
    Calls Tryz.prog 31 #[.string s] w fun e w' => e = .returned (.bool (nameB s)) ∧ Below w.heap.size w w' := by
  by_cases h1 : s.size < 1
  · have e : nameB s = false := by unfold nameB; simp; omega
    rw [e]
    go_enter Tryz.func31, Tryz.ntmps31
    go_wp2
    go_ret
    exact ⟨rfl, Below.refl _ _⟩
  by_cases h2 : 255 < s.size
  · have e : nameB s = false := by unfold nameB; simp; omega
    rw [e]
    go_enter Tryz.func31, Tryz.ntmps31
    go_wp2
    go_ret
    exact ⟨rfl, Below.refl _ _⟩
  cases h3 : (s.toList == [46])
  · cases h4 : (s.toList == [46, 46])
    · have e : nameB s = s.data.toList.all (fun c => c != 47 && c != 0) := by
        rw [toList_data] at h3 h4
        unfold nameB
        rw [decide_eq_true (show 1 ≤ s.size by omega), decide_eq_true (show s.size ≤ 255 by omega), bne, bne, h3, h4]
        simp
      rw [e]
      exact name_long s w (by omega) (by omega) h3 h4
    · have e : nameB s = false := by rw [toList_data] at h4; unfold nameB; rw [bne, bne, h4]; simp
      rw [e]
      go_enter Tryz.func31, Tryz.ntmps31
      go_wp2
      go_ret
      exact ⟨rfl, Below.refl _ _⟩
  · have e : nameB s = false := by rw [toList_data] at h3; unfold nameB; rw [bne, bne, h3]; simp
    rw [e]
    go_enter Tryz.func31, Tryz.ntmps31
    go_wp2
    go_ret
    exact ⟨rfl, Below.refl _ _⟩
end Go.Proofs.YtkmjbakiippfpaaGreatDoor.Rout
