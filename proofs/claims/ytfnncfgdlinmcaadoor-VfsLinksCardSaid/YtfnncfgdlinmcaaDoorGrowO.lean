/- The order of paths: it is strict, and two rows of the same distinct paths that are in order are one. No walk in it. -/
import Derived.Test.YtfnncfgdlinmcaaDoorRoutQ
import Derived.Sort.Statements
set_option linter.unusedVariables false
set_option linter.unusedSimpArgs false
namespace Go.Proofs.YtfnncfgdlinmcaaDoor.Rout
open Go.RowKit
theorem less_irr : ∀ x : List UInt8, Op.bytesLess x x = false
  | [] => rfl
  | a :: x => by
    show (decide (a < a) || (a == a && Op.bytesLess x x)) = false
    rw [less_irr x]; simp
theorem less_trans : ∀ x y z : List UInt8, Op.bytesLess x y = true → Op.bytesLess y z = true → Op.bytesLess x z = true
  | [], [], _, h, _ => by cases h
  | _ :: _, [], _, h, _ => by cases h
  | _, _ :: _, [], _, h => by cases h
  | [], _ :: _, _ :: _, _, _ => rfl
  | a :: x, b :: y, c :: z, h1, h2 => by
    have h1 : (decide (a < b) || (a == b && Op.bytesLess x y)) = true := h1
    have h2 : (decide (b < c) || (b == c && Op.bytesLess y z)) = true := h2
    show (decide (a < c) || (a == c && Op.bytesLess x z)) = true
    simp only [Bool.or_eq_true, decide_eq_true_eq, Bool.and_eq_true, beq_iff_eq] at h1 h2 ⊢
    rcases h1 with k1 | ⟨rfl, k1⟩
    · rcases h2 with k2 | ⟨rfl, k2⟩
      · exact .inl (UInt8.lt_trans k1 k2)
      · exact .inl k1
    · rcases h2 with k2 | ⟨rfl, k2⟩
      · exact .inl k2
      · exact .inr ⟨rfl, less_trans x y z k1 k2⟩
theorem less_tri : ∀ x y : List UInt8, Op.bytesLess x y = true ∨ x = y ∨ Op.bytesLess y x = true
  | [], [] => .inr (.inl rfl)
  | [], _ :: _ => .inl rfl
  | _ :: _, [] => .inr (.inr rfl)
  | a :: x, b :: y => by
    show (decide (a < b) || (a == b && Op.bytesLess x y)) = true ∨ _ ∨ (decide (b < a) || (b == a && Op.bytesLess y x)) = true
    simp only [Bool.or_eq_true, decide_eq_true_eq, Bool.and_eq_true, beq_iff_eq]
    rcases Nat.lt_trichotomy a.toNat b.toNat with h | h | h
    · exact .inl (.inl (UInt8.lt_iff_toNat_lt.2 h))
    · obtain rfl := UInt8.toNat_inj.1 h
      rcases less_tri x y with h | h | h
      · exact .inl (.inr ⟨rfl, h⟩)
      · exact .inr (.inl (by rw [h]))
      · exact .inr (.inr (.inr ⟨rfl, h⟩))
    · exact .inr (.inr (.inl (UInt8.lt_iff_toNat_lt.2 h)))
theorem less_asym (x y : List UInt8) (h : Op.bytesLess x y = true) : Op.bytesLess y x = false := by
  cases h2 : Op.bytesLess y x
  · rfl
  · have := less_trans x y x h h2
    rw [less_irr] at this
    cases this
/-- The three answers. -/
theorem cmpB_cases (a b : ByteArray) : (cmpB a b = -1 ∧ Op.bytesLess a.toList b.toList = true) ∨ (cmpB a b = 0 ∧ a.toList = b.toList) ∨ (cmpB a b = 1 ∧ Op.bytesLess b.toList a.toList = true) := by
  unfold cmpB
  rcases less_tri a.toList b.toList with h | h | h
  · exact .inl ⟨by rw [if_pos h], h⟩
  · exact .inr (.inl ⟨by rw [h, less_irr]; simp, h⟩)
  · refine .inr (.inr ⟨?_, h⟩)
    rw [less_asym _ _ h, if_neg (by simp), if_neg]
    intro e
    have e := eq_of_beq e
    rw [e, less_irr] at h
    cases h
theorem cmpB_self (a : ByteArray) : cmpB a a = 0 := by
  rcases cmpB_cases a a with ⟨_, h⟩ | ⟨h, _⟩ | ⟨_, h⟩
  · rw [less_irr] at h; cases h
  · exact h
  · rw [less_irr] at h; cases h
theorem cmpB_neg {a b : ByteArray} (h : Op.bytesLess a.toList b.toList = true) : cmpB a b = -1 := by unfold cmpB; rw [if_pos h]
theorem cmpB_pos {a b : ByteArray} (h : Op.bytesLess b.toList a.toList = true) : cmpB a b = 1 := by
  rcases cmpB_cases a b with ⟨_, h2⟩ | ⟨_, h2⟩ | ⟨h2, _⟩
  · rw [less_asym _ _ h2] at h; cases h
  · rw [h2, less_irr] at h; cases h
  · exact h2
theorem cmpB_congr {a b : ByteArray} (h : a.toList = b.toList) (c : ByteArray) : cmpB a c = cmpB b c ∧ cmpB c a = cmpB c b := by
  unfold cmpB
  rw [h]
  exact ⟨rfl, rfl⟩
theorem cmpL_self : ∀ a, cmpL a a = 0
  | [] => rfl
  | x :: a => by
    show (if cmpB x x = 0 then cmpL a a else cmpB x x) = 0
    rw [cmpB_self, if_pos rfl, cmpL_self a]
theorem cmpL_trans : ∀ a b c, cmpL a b < 0 → cmpL b c < 0 → cmpL a c < 0
  | [], [], _, h, _ => by simp [cmpL] at h
  | _ :: _, [], _, h, _ => by simp [cmpL] at h
  | _, _ :: _, [], _, h => by simp [cmpL] at h
  | [], _ :: _, _ :: _, _, _ => by simp [cmpL]
  | x :: a, y :: b, z :: c, h1, h2 => by
    have h1 : (if cmpB x y = 0 then cmpL a b else cmpB x y) < 0 := h1
    have h2 : (if cmpB y z = 0 then cmpL b c else cmpB y z) < 0 := h2
    show (if cmpB x z = 0 then cmpL a c else cmpB x z) < 0
    rcases cmpB_cases x y with ⟨e1, q1⟩ | ⟨e1, q1⟩ | ⟨e1, q1⟩
    · rcases cmpB_cases y z with ⟨e2, q2⟩ | ⟨e2, q2⟩ | ⟨e2, q2⟩
      · rw [cmpB_neg (less_trans _ _ _ q1 q2)]; simp
      · rw [← (cmpB_congr q2 x).2, e1]; simp
      · rw [e2, if_neg (by decide)] at h2; omega
    · rw [(cmpB_congr q1 z).1]
      rw [e1, if_pos rfl] at h1
      rcases cmpB_cases y z with ⟨e2, q2⟩ | ⟨e2, q2⟩ | ⟨e2, q2⟩
      · rw [e2]; simp
      · rw [e2, if_pos rfl] at h2 ⊢; exact cmpL_trans a b c h1 h2
      · rw [e2, if_neg (by decide)] at h2; omega
    · rw [e1, if_neg (by decide)] at h1; omega
theorem cmpL_ntrans : ∀ a b c, 0 ≤ cmpL a b → 0 ≤ cmpL b c → 0 ≤ cmpL a c
  | [], [], [], _, _ => by simp [cmpL]
  | [], [], _ :: _, _, h => by simp [cmpL] at h
  | [], _ :: _, _, h, _ => by simp [cmpL] at h
  | _ :: _, _, [], _, _ => by simp [cmpL]
  | _ :: _, [], _ :: _, _, h => by simp [cmpL] at h
  | x :: a, y :: b, z :: c, h1, h2 => by
    have h1 : 0 ≤ (if cmpB x y = 0 then cmpL a b else cmpB x y) := h1
    have h2 : 0 ≤ (if cmpB y z = 0 then cmpL b c else cmpB y z) := h2
    show 0 ≤ (if cmpB x z = 0 then cmpL a c else cmpB x z)
    rcases cmpB_cases x y with ⟨e1, q1⟩ | ⟨e1, q1⟩ | ⟨e1, q1⟩
    · rw [e1, if_neg (by decide)] at h1; omega
    · rw [(cmpB_congr q1 z).1]
      rw [e1, if_pos rfl] at h1
      rcases cmpB_cases y z with ⟨e2, q2⟩ | ⟨e2, q2⟩ | ⟨e2, q2⟩
      · rw [e2, if_neg (by decide)] at h2; omega
      · rw [e2, if_pos rfl] at h2 ⊢; exact cmpL_ntrans a b c h1 h2
      · rw [e2]; simp
    · rcases cmpB_cases y z with ⟨e2, q2⟩ | ⟨e2, q2⟩ | ⟨e2, q2⟩
      · rw [e2, if_neg (by decide)] at h2; omega
      · rw [← (cmpB_congr q2 x).2, e1]; simp
      · rw [cmpB_pos (less_trans _ _ _ q2 q1)]; simp
theorem compB_self (a : ByteArray) : compB a a = 0 := cmpL_self _
theorem compB_trans {a b c : ByteArray} (h : compB a b < 0) (k : compB b c < 0) : compB a c < 0 := cmpL_trans _ _ _ h k
theorem compB_ntrans {a b c : ByteArray} (h : 0 ≤ compB a b) (k : 0 ≤ compB b c) : 0 ≤ compB a c := cmpL_ntrans _ _ _ h k
/-- Two rows in strict order of the same things are one. -/
theorem sorted_one {α : Type} {R : α → α → Prop} (irr : ∀ x, ¬ R x x) (tr : ∀ x y z, R x y → R y z → R x z) : ∀ {l m : List α}, l.Perm m → l.Pairwise R → m.Pairwise R → l = m
  | [], m, h, _, _ => by rw [List.nil_perm.1 h]
  | x :: l, [], h, _, _ => by have := h.length_eq; simp at this
  | x :: l, y :: m, h, hl, hm => by
    obtain ⟨hx, hl'⟩ := List.pairwise_cons.1 hl
    obtain ⟨hy, hm'⟩ := List.pairwise_cons.1 hm
    have hxy : x = y := by
      have h1 : x ∈ y :: m := h.subset List.mem_cons_self
      have h2 : y ∈ x :: l := h.symm.subset List.mem_cons_self
      rcases List.mem_cons.1 h1 with e | h1
      · exact e
      · rcases List.mem_cons.1 h2 with e | h2
        · exact e.symm
        · exact absurd (tr _ _ _ (hx _ h2) (hy _ h1)) (irr _)
    subst hxy
    rw [sorted_one irr tr (List.Perm.cons_inv h) hl' hm']
end Go.Proofs.YtfnncfgdlinmcaaDoor.Rout
