/- Runs of lengths, as plain lists. No program in it. -/
import Derived.WalkKit
set_option linter.unusedVariables false
namespace Go.Proofs.Ytmecigllpdeeoaa.Run
/-- How many of the first ones are v. -/
def lead (v : Int) : List Int → Nat
  | [] => 0
  | x :: r => if x = v then lead v r + 1 else 0
/-- What is told of n lengths v (p: is the one ahead of them v?): a symbol, its more, and how many it stands for. -/
def told (v : Int) (n : Nat) (p : Bool) : Int × Int × Nat :=
  if v = 0 ∧ 11 ≤ n then (18, (min n 138 : Nat) - 11, min n 138)
  else if v = 0 ∧ 3 ≤ n then (17, (n : Int) - 3, n)
  else if 0 < v ∧ p = true ∧ 3 ≤ n then (16, (min n 6 : Nat) - 3, min n 6)
  else (v, 0, 1)
def ahead (l : List Int) (i : Nat) : Bool := decide (0 < i) && (l.getD (i - 1) 0 == l.getD i 0)
def one (l : List Int) (i : Nat) : Int × Int × Nat := told (l.getD i 0) (lead (l.getD i 0) (l.drop i)) (ahead l i)
def runs (l : List Int) : Nat → Nat → List (Int × Int)
  | 0, _ => []
  | f + 1, i => if i < l.length then ((one l i).1, (one l i).2.1) :: runs l f (i + (one l i).2.2) else []
theorem lead_le (v : Int) : ∀ l : List Int, lead v l ≤ l.length
  | [] => by simp [lead]
  | x :: r => by
    have h := lead_le v r
    unfold lead
    split
    · simp; omega
    · simp
theorem lead_pos (l : List Int) (i : Nat) (h : i < l.length) : 1 ≤ lead (l.getD i 0) (l.drop i) := by
  rw [List.drop_eq_getElem_cons h, List.getD_eq_getElem?_getD, List.getElem?_eq_getElem h]
  simp [lead]
/-- Below the run's end each is v; at its end none is. -/
theorem lead_in (v : Int) : ∀ (l : List Int) (n : Nat), n < lead v l → l.getD n 0 = v
  | [], n, h => by simp [lead] at h
  | x :: r, n, h => by
    unfold lead at h
    split at h
    · rename_i hx
      cases n with
      | zero => simpa using hx
      | succ n => simpa using lead_in v r n (by omega)
    · omega
theorem lead_out (v : Int) : ∀ (l : List Int), lead v l < l.length → l.getD (lead v l) 0 ≠ v
  | [], h => by simp at h
  | x :: r, h => by
    unfold lead at h ⊢
    split
    · rename_i hx
      rw [if_pos hx] at h
      simpa using lead_out v r (by simpa using h)
    · rename_i hx
      simpa using hx
theorem getD_drop (l : List Int) (i n : Nat) : (l.drop i).getD n 0 = l.getD (i + n) 0 := by
  rw [List.getD_eq_getElem?_getD, List.getD_eq_getElem?_getD, List.getElem?_drop]
theorem told_step (v : Int) (n : Nat) (p : Bool) (h : 1 ≤ n) : 1 ≤ (told v n p).2.2 ∧ (told v n p).2.2 ≤ n := by
  unfold told
  split
  · constructor <;> simp <;> omega
  · split
    · constructor <;> simp; omega
    · split
      · constructor <;> simp <;> omega
      · exact ⟨Nat.le_refl _, h⟩
theorem one_step (l : List Int) (i : Nat) (h : i < l.length) : 1 ≤ (one l i).2.2 ∧ i + (one l i).2.2 ≤ l.length := by
  have h1 := told_step (l.getD i 0) _ (ahead l i) (lead_pos l i h)
  have h2 := lead_le (l.getD i 0) (l.drop i)
  rw [List.length_drop] at h2
  unfold one
  omega
theorem runs_succ (l : List Int) (f i : Nat) : runs l (f + 1) i = if i < l.length then ((one l i).1, (one l i).2.1) :: runs l f (i + (one l i).2.2) else [] := rfl
theorem runs_more (l : List Int) : ∀ (f i : Nat), l.length ≤ f + i → runs l (f + 1) i = runs l f i
  | 0, i, h => by rw [runs_succ, if_neg (by omega), runs]
  | f + 1, i, h => by
    by_cases hi : i < l.length
    · rw [runs_succ l (f + 1) i, if_pos hi, runs_succ l f i, if_pos hi, runs_more l f _ (by have := one_step l i hi; omega)]
    · rw [runs_succ l (f + 1) i, if_neg hi, runs_succ l f i, if_neg hi]
theorem runs_any (l : List Int) (f g i : Nat) (h : l.length ≤ f + i) (hg : f ≤ g) : runs l g i = runs l f i := by
  obtain ⟨k, rfl⟩ := Nat.le.dest hg
  induction k with
  | zero => rfl
  | succ k ih => rw [← Nat.add_assoc, runs_more l (f + k) i (by omega), ih (by omega)]
/-- All of it, from a place on. -/
def from_ (l : List Int) (i : Nat) : List (Int × Int) := runs l (l.length - i) i
theorem from_end (l : List Int) (i : Nat) (h : l.length ≤ i) : from_ l i = [] := by
  unfold from_
  rw [show l.length - i = 0 by omega]
  rfl
theorem from_step (l : List Int) (i : Nat) (h : i < l.length) : from_ l i = ((one l i).1, (one l i).2.1) :: from_ l (i + (one l i).2.2) := by
  have hs := one_step l i h
  unfold from_
  rw [show l.length - i = (l.length - i - 1) + 1 by omega, runs, if_pos h, runs_any l (l.length - (i + (one l i).2.2)) (l.length - i - 1) _ (by omega) (by omega)]
theorem runs_len (l : List Int) : ∀ f i, (runs l f i).length ≤ f
  | 0, i => by simp [runs]
  | f + 1, i => by
    rw [runs]
    split
    · simpa using runs_len l f _
    · simp
end Go.Proofs.Ytmecigllpdeeoaa.Run
