/- Paths as plain lists of bytes: their pieces, names, and which are paths. No program in it. -/
import Derived.Lib.IndexLaws
import Derived.Lib.IndexBytes
import Derived.Laws.RangeAny
import Derived.WalkKit
set_option linter.unusedVariables false
namespace Go.Proofs.YtfnncfgdlinmcaaDoor.Rout
open Go.RowKit
theorem ba_ext {s t : ByteArray} (h : s.data.toList = t.data.toList) : s = t := by
  obtain ⟨⟨l⟩⟩ := s
  obtain ⟨⟨m⟩⟩ := t
  simp at h
  rw [h]
def toB (l : List UInt8) : ByteArray := ⟨l.toArray⟩
theorem toB_data (s : ByteArray) : toB s.data.toList = s := ba_ext (by simp [toB])
theorem data_toB (l : List UInt8) : (toB l).data.toList = l := by simp [toB]
theorem size_toB (l : List UInt8) : (toB l).size = l.length := by simp [toB, ByteArray.size]
theorem size_data (s : ByteArray) : s.data.toList.length = s.size := by rw [Array.length_toList]; rfl
/-- Cut at each 47. -/
def cut : List UInt8 → List (List UInt8)
  | [] => [[]]
  | c :: r => if c = 47 then [] :: cut r else match cut r with
    | [] => [[c]]
    | p :: ps => (c :: p) :: ps
theorem cut_ne : ∀ l, cut l ≠ []
  | [] => by simp [cut]
  | c :: r => by
    unfold cut
    split
    · simp
    · split <;> simp
theorem cut_miss : ∀ l : List UInt8, (∀ k : Nat, l[k]? ≠ some 47) → cut l = [l]
  | [], _ => rfl
  | c :: r, h => by
    have h0 : c ≠ 47 := fun e => h 0 (by simp [e])
    have hr := cut_miss r (fun k => by have := h (k + 1); simpa using this)
    unfold cut
    rw [if_neg h0, hr]
theorem cut_hit : ∀ (l : List UInt8) (m : Nat), l[m]? = some 47 → (∀ k, k < m → l[k]? ≠ some 47) → cut l = l.take m :: cut (l.drop (m + 1))
  | [], m, h, _ => by simp at h
  | c :: r, 0, h, _ => by
    have h0 : c = 47 := by simpa using h
    simp [cut, h0]
  | c :: r, m + 1, h, hk => by
    have h0 : c ≠ 47 := fun e => hk 0 (by omega) (by simp [e])
    have hr := cut_hit r m (by simpa using h) (fun k h1 => by have := hk (k + 1) (by omega); simpa using this)
    rw [show cut (c :: r) = if c = 47 then [] :: cut r else match cut r with | [] => [[c]] | p :: ps => (c :: p) :: ps from rfl, if_neg h0, hr]
    rfl
/-- The pieces of a text. -/
def pcs (s : ByteArray) : List ByteArray := (cut s.data.toList).map toB
theorem pcs_ne (s : ByteArray) : pcs s ≠ [] := by
  unfold pcs
  intro h
  exact cut_ne _ (List.map_eq_nil_iff.1 h)
theorem pcs_miss (s : ByteArray) (h : Lib.indexByte s.data.toList 47 = -1) : pcs s = [s] := by
  unfold pcs
  rw [cut_miss _ (Lib.indexByte_none h)]
  simp [toB_data]
theorem pcs_hit (s : ByteArray) (m : Nat) (h : Lib.indexByte s.data.toList 47 = (m : Int)) : m < s.size ∧ pcs s = s.extract 0 m :: pcs (s.extract (m + 1) s.size) := by
  obtain ⟨h1, h2⟩ := Lib.indexByte_some h
  have hm : m < s.size := by
    have := List.getElem?_eq_some_iff.1 h1
    obtain ⟨hl, _⟩ := this
    rwa [size_data] at hl
  refine ⟨hm, ?_⟩
  unfold pcs
  rw [cut_hit _ m h1 h2, Lib.extract_to_end]
  rw [List.map_cons]
  congr 1
  exact ba_ext (by rw [data_toB, Lib.extract_data]; simp)
/-- Is a text a name? -/
def nameB (s : ByteArray) : Bool := decide (1 ≤ s.size) && decide (s.size ≤ 255) && (s.data.toList != [46]) && (s.data.toList != [46, 46]) && s.data.toList.all (fun c => c != 47 && c != 0)
def validB (s : ByteArray) : Bool := (pcs s).all nameB && decide ((pcs s).length ≤ 64) && decide (s.size ≤ 1024)
/-! ### runes -/
theorem get_data (s : ByteArray) (i : Nat) (h : i < s.size) : s.data.toList[i]? = some (s[i]'h) := by
  have h' : i < s.data.toList.length := by rw [size_data]; exact h
  rw [List.getElem?_eq_getElem h', Array.getElem_toList]
  rfl
theorem decode_cont (s : ByteArray) (pos k : Nat) (h : pos < s.size) (h1 : 1 ≤ k) (h2 : k < (Utf8.decode s pos).2) : ∃ hk : pos + k < s.size, 128 ≤ (s[pos + k]'hk).toNat := by
  have key : ∀ j, (decide (pos + j < s.size) && (s.get! (pos + j)).toNat / 64 == 2) = true → ∃ hk : pos + j < s.size, 128 ≤ (s[pos + j]'hk).toNat := by
    intro j hj
    simp only [Bool.and_eq_true, decide_eq_true_eq, beq_iff_eq] at hj
    obtain ⟨hl, hd⟩ := hj
    refine ⟨hl, ?_⟩
    have e := get_at s (pos + j) hl
    rw [Nat.add_zero] at e
    rw [e] at hd
    omega
  simp only [Utf8.decode] at h2
  split at h2
  · omega
  · split at h2
    · rename_i hc
      simp only [Bool.and_eq_true] at hc
      have c1 := key 1 (by simpa using hc.2)
      split at h2
      · obtain rfl : k = 1 := by simp at h2; omega
        exact c1
      · simp at h2; omega
    · split at h2
      · rename_i hc
        simp only [Bool.and_eq_true] at hc
        have c1 := key 1 (by simpa using hc.1.2)
        have c2 := key 2 (by simpa using hc.2)
        split at h2
        · obtain rfl | rfl : k = 1 ∨ k = 2 := by simp at h2; omega
          · exact c1
          · exact c2
        · simp at h2; omega
      · split at h2
        · rename_i hc
          simp only [Bool.and_eq_true] at hc
          have c1 := key 1 (by simpa using hc.1.1.2)
          have c2 := key 2 (by simpa using hc.1.2)
          have c3 := key 3 (by simpa using hc.2)
          split at h2
          · obtain rfl | rfl | rfl : k = 1 ∨ k = 2 ∨ k = 3 := by simp at h2; omega
            · exact c1
            · exact c2
            · exact c3
          · simp at h2; omega
        · simp at h2; omega
theorem width_pos (s : ByteArray) (pos : Nat) (h : pos < s.size) : 1 ≤ (Utf8.decode s pos).2 := by
  by_cases ha : (s[pos]'h).toNat < 128
  · rw [decode_ascii s pos h ha]
    exact Nat.le_refl _
  · exact (decode_high s pos h (by omega)).2
/-- No byte ahead of a place is 47 or 0. -/
def clean (s : ByteArray) (pos : Nat) : Prop := ∀ i c, i < pos → s.data.toList[i]? = some c → c ≠ 47 ∧ c ≠ 0
theorem clean_step (s : ByteArray) (pos : Nat) (h : pos < s.size) (hc : clean s pos) (h1 : (Utf8.decode s pos).1 ≠ 47) (h2 : (Utf8.decode s pos).1 ≠ 0) : clean s (pos + (Utf8.decode s pos).2) := by
  intro i c hi hg
  by_cases hlt : i < pos
  · exact hc i c hlt hg
  · by_cases he : i = pos
    · subst he
      rw [get_data s i h] at hg
      obtain rfl := Option.some.inj hg
      by_cases ha : (s[i]'h).toNat < 128
      · rw [decode_ascii s i h ha] at h1 h2
        constructor
        · intro e; rw [e] at h1; exact h1 rfl
        · intro e; rw [e] at h2; exact h2 rfl
      · constructor
        · intro e; rw [e] at ha; exact ha (by decide)
        · intro e; rw [e] at ha; exact ha (by decide)
    · obtain ⟨hk, hb⟩ := decode_cont s pos (i - pos) h (by omega) (by omega)
      have e2 : pos + (i - pos) = i := by omega
      have hi2 : i < s.size := by omega
      rw [get_data s i hi2] at hg
      obtain rfl := Option.some.inj hg
      have hb' : 128 ≤ (s[i]'hi2).toNat := by simpa [e2] using hb
      constructor
      · intro e; rw [e] at hb'; exact absurd hb' (by decide)
      · intro e; rw [e] at hb'; exact absurd hb' (by decide)
theorem dirty_at (s : ByteArray) (pos : Nat) (h : pos < s.size) (h1 : (Utf8.decode s pos).1 = 47 ∨ (Utf8.decode s pos).1 = 0) : s.data.toList.all (fun c => c != 47 && c != 0) = false := by
  have ha : (s[pos]'h).toNat < 128 := by
    by_cases ha : (s[pos]'h).toNat < 128
    · exact ha
    · have := (decode_high s pos h (by omega)).1
      omega
  rw [decode_ascii s pos h ha] at h1
  rw [List.all_eq_false]
  refine ⟨s[pos]'h, List.mem_of_getElem? (get_data s pos h), ?_⟩
  rcases h1 with h1 | h1
  · have : s[pos]'h = 47 := UInt8.toNat_inj.1 h1
    simp [this]
  · have : s[pos]'h = 0 := UInt8.toNat_inj.1 h1
    simp [this]
theorem clean_all (s : ByteArray) (pos : Nat) (h : s.size ≤ pos) (hc : clean s pos) : s.data.toList.all (fun c => c != 47 && c != 0) = true := by
  rw [List.all_eq_true]
  intro c hm
  obtain ⟨i, hi, rfl⟩ := List.getElem_of_mem hm
  have := hc i _ (by rw [size_data] at hi; omega) (List.getElem?_eq_getElem hi)
  simpa using this
end Go.Proofs.YtfnncfgdlinmcaaDoor.Rout
