/- GrowO, GrowP, TarH, TarI, TarQ put together. -/
import Derived.Test.YtkmjbakiippfpaaGreatDoorMTree
import Derived.Sort.Statements
import Derived.Test.YtkmjbakiippfpaaGreatDoorMTarE
import Derived.Test.YtkmjbakiippfpaaGreatDoorMTarK
set_option linter.unusedVariables false
set_option linter.unusedSimpArgs false
namespace Go.Proofs.YtkmjbakiippfpaaGreatDoor.Rout
open Go.RowKit
theorem less_irr : ∀ x : List UInt8, Op.bytesLess x x = false
  | [] => rfl
  | a :: x => by
    show (decide (a < a) || (a == a && Op.bytesLess x x)) = false
    rw [less_irr x]; simp
theorem less_trans : ∀ x y z : List UInt8, Op.bytesLess x y = true → Op.bytesLess y z = true → Op.bytesLess x z = true
  | [], [], _, h, _ => by cases h
  | _ :: _, [], _, h, _ => by cases h
  | _, _ :: _, [], _, h => by cases h
  | [], _ :: _, _ :: _, _, _ => rfl
  | a :: x, b :: y, c :: z, h1, h2 => by
    have h1 : (decide (a < b) || (a == b && Op.bytesLess x y)) = true := h1
    have h2 : (decide (b < c) || (b == c && Op.bytesLess y z)) = true := h2
    show (decide (a < c) || (a == c && Op.bytesLess x z)) = true
    simp only [Bool.or_eq_true, decide_eq_true_eq, Bool.and_eq_true, beq_iff_eq] at h1 h2 ⊢
    rcases h1 with k1 | ⟨rfl, k1⟩
    · rcases h2 with k2 | ⟨rfl, k2⟩
      · exact .inl (UInt8.lt_trans k1 k2)
      · exact .inl k1
    · rcases h2 with k2 | ⟨rfl, k2⟩
      · exact .inl k2
      · exact .inr ⟨rfl, less_trans x y z k1 k2⟩
theorem less_tri : ∀ x y : List UInt8, Op.bytesLess x y = true ∨ x = y ∨ Op.bytesLess y x = true
  | [], [] => .inr (.inl rfl)
  | [], _ :: _ => .inl rfl
  | _ :: _, [] => .inr (.inr rfl)
  | a :: x, b :: y => by
    show (decide (a < b) || (a == b && Op.bytesLess x y)) = true ∨ _ ∨ (decide (b < a) || (b == a && Op.bytesLess y x)) = true
    simp only [Bool.or_eq_true, decide_eq_true_eq, Bool.and_eq_true, beq_iff_eq]
    rcases Nat.lt_trichotomy a.toNat b.toNat with h | h | h
    · exact .inl (.inl (UInt8.lt_iff_toNat_lt.2 h))
    · obtain rfl := UInt8.toNat_inj.1 h
      rcases less_tri x y with h | h | h
      · exact .inl (.inr ⟨rfl, h⟩)
      · exact .inr (.inl (by rw [h]))
      · exact .inr (.inr (.inr ⟨rfl, h⟩))
    · exact .inr (.inr (.inl (UInt8.lt_iff_toNat_lt.2 h)))
theorem less_asym (x y : List UInt8) (h : Op.bytesLess x y = true) : Op.bytesLess y x = false := by
  cases h2 : Op.bytesLess y x
  · rfl
  · have := less_trans x y x h h2
    rw [less_irr] at this
    cases this
/-- The three answers. -/
theorem cmpB_cases (a b : ByteArray) : (cmpB a b = -1 ∧ Op.bytesLess a.toList b.toList = true) ∨ (cmpB a b = 0 ∧ a.toList = b.toList) ∨ (cmpB a b = 1 ∧ Op.bytesLess b.toList a.toList = true) := by
  unfold cmpB
  rcases less_tri a.toList b.toList with h | h | h
  · exact .inl ⟨by rw [if_pos h], h⟩
  · exact .inr (.inl ⟨by rw [h, less_irr]; simp, h⟩)
  · refine .inr (.inr ⟨?_, h⟩)
    rw [less_asym _ _ h, if_neg (by simp), if_neg]
    intro e
    have e := eq_of_beq e
    rw [e, less_irr] at h
    cases h
theorem cmpB_self (a : ByteArray) : cmpB a a = 0 := by
  rcases cmpB_cases a a with ⟨_, h⟩ | ⟨h, _⟩ | ⟨_, h⟩
  · rw [less_irr] at h; cases h
  · exact h
  · rw [less_irr] at h; cases h
theorem cmpB_neg {a b : ByteArray} (h : Op.bytesLess a.toList b.toList = true) : cmpB a b = -1 := by unfold cmpB; rw [if_pos h]
theorem cmpB_pos {a b : ByteArray} (h : Op.bytesLess b.toList a.toList = true) : cmpB a b = 1 := by
  rcases cmpB_cases a b with ⟨_, h2⟩ | ⟨_, h2⟩ | ⟨h2, _⟩
  · rw [less_asym _ _ h2] at h; cases h
  · rw [h2, less_irr] at h; cases h
  · exact h2
theorem cmpB_congr {a b : ByteArray} (h : a.toList = b.toList) (c : ByteArray) : cmpB a c = cmpB b c ∧ cmpB c a = cmpB c b := by
  unfold cmpB
  rw [h]
  exact ⟨rfl, rfl⟩
theorem cmpL_self : ∀ a, cmpL a a = 0
  | [] => rfl
  | x :: a => by
    show (if cmpB x x = 0 then cmpL a a else cmpB x x) = 0
    rw [cmpB_self, if_pos rfl, cmpL_self a]
theorem cmpL_trans : ∀ a b c, cmpL a b < 0 → cmpL b c < 0 → cmpL a c < 0
  | [], [], _, h, _ => by simp [cmpL] at h
  | _ :: _, [], _, h, _ => by simp [cmpL] at h
  | _, _ :: _, [], _, h => by simp [cmpL] at h
  | [], _ :: _, _ :: _, _, _ => by simp [cmpL]
  | x :: a, y :: b, z :: c, h1, h2 => by
    have h1 : (if cmpB x y = 0 then cmpL a b else cmpB x y) < 0 := h1
    have h2 : (if cmpB y z = 0 then cmpL b c else cmpB y z) < 0 := h2
    show (if cmpB x z = 0 then cmpL a c else cmpB x z) < 0
    rcases cmpB_cases x y with ⟨e1, q1⟩ | ⟨e1, q1⟩ | ⟨e1, q1⟩
    · rcases cmpB_cases y z with ⟨e2, q2⟩ | ⟨e2, q2⟩ | ⟨e2, q2⟩
      · rw [cmpB_neg (less_trans _ _ _ q1 q2)]; simp
      · rw [← (cmpB_congr q2 x).2, e1]; simp
      · rw [e2, if_neg (by decide)] at h2; omega
    · rw [(cmpB_congr q1 z).1]
      rw [e1, if_pos rfl] at h1
      rcases cmpB_cases y z with ⟨e2, q2⟩ | ⟨e2, q2⟩ | ⟨e2, q2⟩
      · rw [e2]; simp
      · rw [e2, if_pos rfl] at h2 ⊢; exact cmpL_trans a b c h1 h2
      · rw [e2, if_neg (by decide)] at h2; omega
    · rw [e1, if_neg (by decide)] at h1; omega
theorem cmpL_ntrans : ∀ a b c, 0 ≤ cmpL a b → 0 ≤ cmpL b c → 0 ≤ cmpL a c
  | [], [], [], _, _ => by simp [cmpL]
  | [], [], _ :: _, _, h => by simp [cmpL] at h
  | [], _ :: _, _, h, _ => by simp [cmpL] at h
  | _ :: _, _, [], _, _ => by simp [cmpL]
  | _ :: _, [], _ :: _, _, h => by simp [cmpL] at h
  | x :: a, y :: b, z :: c, h1, h2 => by
    have h1 : 0 ≤ (if cmpB x y = 0 then cmpL a b else cmpB x y) := h1
    have h2 : 0 ≤ (if cmpB y z = 0 then cmpL b c else cmpB y z) := h2
    show 0 ≤ (if cmpB x z = 0 then cmpL a c else cmpB x z)
    rcases cmpB_cases x y with ⟨e1, q1⟩ | ⟨e1, q1⟩ | ⟨e1, q1⟩
    · rw [e1, if_neg (by decide)] at h1; omega
    · rw [(cmpB_congr q1 z).1]
      rw [e1, if_pos rfl] at h1
      rcases cmpB_cases y z with ⟨e2, q2⟩ | ⟨e2, q2⟩ | ⟨e2, q2⟩
      · rw [e2, if_neg (by decide)] at h2; omega
      · rw [e2, if_pos rfl] at h2 ⊢; exact cmpL_ntrans a b c h1 h2
      · rw [e2]; simp
    · rcases cmpB_cases y z with ⟨e2, q2⟩ | ⟨e2, q2⟩ | ⟨e2, q2⟩
      · rw [e2, if_neg (by decide)] at h2; omega
      · rw [← (cmpB_congr q2 x).2, e1]; simp
      · rw [cmpB_pos (less_trans _ _ _ q2 q1)]; simp
theorem compB_self (a : ByteArray) : compB a a = 0 := cmpL_self _
theorem compB_trans {a b c : ByteArray} (h : compB a b < 0) (k : compB b c < 0) : compB a c < 0 := cmpL_trans _ _ _ h k
theorem compB_ntrans {a b c : ByteArray} (h : 0 ≤ compB a b) (k : 0 ≤ compB b c) : 0 ≤ compB a c := cmpL_ntrans _ _ _ h k
/-- Two rows in strict order of the same things are one. -/
theorem sorted_one {α : Type} {R : α → α → Prop} (irr : ∀ x, ¬ R x x) (tr : ∀ x y z, R x y → R y z → R x z) : ∀ {l m : List α}, l.Perm m → l.Pairwise R → m.Pairwise R → l = m
  | [], m, h, _, _ => by rw [List.nil_perm.1 h]
  | x :: l, [], h, _, _ => by have := h.length_eq; simp at this
  | x :: l, y :: m, h, hl, hm => by
    obtain ⟨hx, hl'⟩ := List.pairwise_cons.1 hl
    obtain ⟨hy, hm'⟩ := List.pairwise_cons.1 hm
    have hxy : x = y := by
      have h1 : x ∈ y :: m := h.subset List.mem_cons_self
      have h2 : y ∈ x :: l := h.symm.subset List.mem_cons_self
      rcases List.mem_cons.1 h1 with e | h1
      · exact e
      · rcases List.mem_cons.1 h2 with e | h2
        · exact e.symm
        · exact absurd (tr _ _ _ (hx _ h2) (hy _ h1)) (irr _)
    subst hxy
    rw [sorted_one irr tr (List.Perm.cons_inv h) hl' hm']
end Go.Proofs.YtkmjbakiippfpaaGreatDoor.Rout
set_option linter.unusedVariables false
set_option linter.unusedSimpArgs false
namespace Go.Proofs.YtkmjbakiippfpaaGreatDoor.Tree
open Go.RowKit Go.Maps Go.Proofs.YtkmjbakiippfpaaGreatDoor.Rout Go.Proofs.YtkmjbakiippfpaaGreatDoor.Node
/-- What the map of paths reads as. -/
def foldT (ps : List ByteArray) : DataW Unit := ps.foldl (fun D p => D.put (.string p.data.toList) (.lit (.bool true))) (.map [])
theorem foldT_snoc (ps : List ByteArray) (p : ByteArray) : foldT (ps ++ [p]) = (foldT ps).put (.string p.data.toList) (.lit (.bool true)) := by unfold foldT; rw [List.foldl_append]; rfl
theorem isMap_foldT (l : List ByteArray) : IsMap (foldT l) := by
  induction l using snoc_ind with
  | h0 => exact isMap_empty
  | h1 l x ih => rw [foldT_snoc]; exact ih.put _ _
/-- Is a path among them? -/
def has (l : List ByteArray) (p : ByteArray) : Bool := l.any (fun q => decide (q = p))
theorem has_snoc (l : List ByteArray) (x p : ByteArray) : has (l ++ [x]) p = (has l p || decide (x = p)) := by unfold has; rw [List.any_append]; simp
theorem has_iff (l : List ByteArray) (p : ByteArray) : has l p = true ↔ p ∈ l := by unfold has; simp
theorem foldT_at (l : List ByteArray) (p : ByteArray) : (foldT l).atKey (.string p.data.toList) (.lit (.bool false)) = .lit (.bool (has l p)) := by
  induction l using snoc_ind with
  | h0 => rfl
  | h1 l x ih =>
    rw [foldT_snoc]
    by_cases h : x = p
    · subst h
      rw [atKey_put_same (isMap_foldT l) (by trivial), has_snoc]
      simp
    · rw [atKey_put_other (fun e => h (ba_ext (by injection e with e; exact e.symm))), ih, has_snoc, decide_eq_false h, Bool.or_false]
theorem ownsT_look {w : World} {b n : Nat} {l : List ByteArray} (h : owns w b n (foldT l)) (p : ByteArray) (hp : p.size ≤ 140737488351232) : (Instr.lookup 38 (.map (some b)) (.string p) false).run Tryz.prog w = .ok (.bool (has l p)) w := by
  obtain ⟨v, ps, hrun, hv⟩ := h.lookup key9 Tryz.underlying38 (zero4 w) (plainElem_bool Tryz.underlying4 false) (Go.WideMaps.keyOf_string_mk (s := p) Tryz.underlying9 (by unfold maxLen; omega))
  rw [foldT_at] at hv
  have : v = .bool (has l p) := by
    simp only [plainElem, Tryz.underlying4] at hv
    cases v <;> simp at hv
    rw [hv.1]
  rw [hrun, this]
/-- The folders above p that lack. -/
def ups (ps : List ByteArray) (p : ByteArray) : Nat → List ByteArray
  | 0 => []
  | f + 1 => if (parB p).2 = true ∧ has ps (parB p).1 = false then (parB p).1 :: ups (ps ++ [(parB p).1]) (parB p).1 f else []
theorem parB_less (s : ByteArray) (h : (parB s).2 = true) : (parB s).1.size < s.size := by
  unfold parB at h ⊢
  by_cases hc : 0 ≤ Lib.lastIndexByte s 47 ∧ validB s = true
  · rw [if_pos hc]
    rcases last_cases s with hl | ⟨i, hi, hl⟩
    · rw [hl] at hc; omega
    · rw [hl]
      show (s.extract 0 ((i : Int)).toNat).size < s.size
      rw [ByteArray.size_extract, Int.toNat_natCast]
      omega
  · rw [if_neg hc] at h; cases h
def news (ps : List ByteArray) : List Nd → List ByteArray
  | [] => []
  | x :: r => ups ps x.f1 (x.f1.size + 1) ++ news (ps ++ ups ps x.f1 (x.f1.size + 1)) r
def folder (p : ByteArray) : Nd := ⟨1, p, [], 493, 0⟩
def paths (l : List Nd) : List ByteArray := l.map Nd.f1
def grown (l : List Nd) : List Nd := l ++ (news (paths l) l).map folder
/-- Why nothing grows: a path that is none, a node that may not be, a path that comes twice. -/
def bad (ps : List ByteArray) : List Nd → Int
  | [] => 0
  | x :: r => if validB x.f1 = false then 20 else if mayB x = false ∨ has ps x.f1 = true then 21 else bad (ps ++ [x.f1]) r
theorem bad_step (l : List Nd) (k : Nat) (h : k < l.length) : bad (paths (l.take k)) (l.drop k) = if validB (rdN l k).f1 = false then 20 else if mayB (rdN l k) = false ∨ has (paths (l.take k)) (rdN l k).f1 = true then 21 else bad (paths (l.take (k + 1))) (l.drop (k + 1)) := by
  have e1 : rdN l (k : Int) = l[k] := by unfold rdN; rw [Int.toNat_natCast, List.getD_eq_getElem?_getD, List.getElem?_eq_getElem h]; rfl
  have e2 : paths (l.take (k + 1)) = paths (l.take k) ++ [(rdN l k).f1] := by rw [take_rdN l k h]; unfold paths; rw [List.map_append]; rfl
  rw [e2, e1, List.drop_eq_getElem_cons h]
  rfl
theorem news_step (l : List Nd) (k : Nat) (ps : List ByteArray) (h : k < l.length) : news ps (l.drop k) = ups ps (rdN l k).f1 ((rdN l k).f1.size + 1) ++ news (ps ++ ups ps (rdN l k).f1 ((rdN l k).f1.size + 1)) (l.drop (k + 1)) := by
  have e1 : rdN l (k : Int) = l[k] := by unfold rdN; rw [Int.toNat_natCast, List.getD_eq_getElem?_getD, List.getElem?_eq_getElem h]; rfl
  rw [e1, List.drop_eq_getElem_cons h]
  rfl
/-- In order. -/
def Sorted (l : List Nd) : Prop := l.Pairwise (fun x y => 0 ≤ compB y.f1 x.f1)
theorem bad_all (l : List Nd) : ∀ ps, bad ps l = 0 → ∀ x ∈ l, validB x.f1 = true ∧ mayB x = true := by
  induction l with
  | nil => intro _ _ x hx; cases hx
  | cons y r ih =>
    intro ps h x hx
    unfold bad at h
    cases h1 : validB y.f1
    · rw [if_pos h1] at h; omega
    · rw [if_neg (by rw [h1]; simp)] at h
      by_cases h2 : mayB y = false ∨ has ps y.f1 = true
      · rw [if_pos h2] at h; omega
      · rw [if_neg h2] at h
        rcases List.mem_cons.1 hx with rfl | hx
        · exact ⟨h1, by cases hm : mayB x; exact absurd (.inl hm) h2; rfl⟩
        · exact ih _ h x hx
theorem ups_size (f : Nat) : ∀ (ps : List ByteArray) (p : ByteArray), p.size ≤ 1024 → ∀ q ∈ ups ps p f, q.size ≤ 1024 := by
  induction f with
  | zero => intro _ _ _ q hq; cases hq
  | succ f ih =>
    intro ps p hp q hq
    unfold ups at hq
    split at hq
    · have h1 := Nat.le_trans (parB_size p) hp
      rcases List.mem_cons.1 hq with rfl | hq
      · exact h1
      · exact ih _ _ h1 q hq
    · cases hq
theorem news_size (r : List Nd) : ∀ ps, (∀ x ∈ r, x.f1.size ≤ 1024) → ∀ q ∈ news ps r, q.size ≤ 1024 := by
  induction r with
  | nil => intro _ _ q hq; cases hq
  | cons x r ih =>
    intro ps h q hq
    unfold news at hq
    rcases List.mem_append.1 hq with hq | hq
    · exact ups_size _ _ _ (h x List.mem_cons_self) q hq
    · exact ih _ (fun y hy => h y (List.mem_cons_of_mem _ hy)) q hq
theorem ok_folder (p : ByteArray) (h : p.size ≤ 1024) : Ok (folder p) := ⟨fun b hb => absurd hb (by simp [folder]), by show p.size ≤ _; omega, by show 0 ≤ _; omega⟩
theorem grown_ok (l : List Nd) (hok : ∀ x ∈ l, Ok x) (hb : bad [] l = 0) : (∀ x ∈ grown l, Ok x) ∧ ∀ x ∈ grown l, x.f1.size ≤ 1024 := by
  have hv : ∀ x ∈ l, x.f1.size ≤ 1024 := fun x hx => valid_size _ (bad_all l [] hb x hx).1
  constructor
  · intro x hx
    rcases List.mem_append.1 hx with hx | hx
    · exact hok x hx
    · obtain ⟨q, hq, rfl⟩ := List.mem_map.1 hx
      exact ok_folder q (news_size l _ hv q hq)
  · intro x hx
    rcases List.mem_append.1 hx with hx | hx
    · exact hv x hx
    · obtain ⟨q, hq, rfl⟩ := List.mem_map.1 hx
      exact news_size l _ hv q hq
/-- What tree.Grow hands back: e0, and the row m. -/
def GrowSpec (l : List Nd) (e0 : Int) (m : List Nd) : Prop :=
  (bad [] l ≠ 0 ∧ e0 = bad [] l ∧ m = []) ∨ (bad [] l = 0 ∧ ∃ s : List Nd, (grown l).Perm s ∧ Sorted s ∧ e0 = (chk s).2 ∧ m = if (chk s).2 = 0 then s else [])
/-- How far an inner loop has still to go. -/
def toGo : Value → Value → Nat
  | .string p, .bool true => p.size + 1
  | _, _ => 0
end Go.Proofs.YtkmjbakiippfpaaGreatDoor.Tree
set_option linter.unusedVariables false
set_option linter.unusedSimpArgs false
namespace Go.Proofs.YtkmjbakiippfpaaGreatDoor.Tree
open Go.RowKit Go.Proofs.YtkmjbakiippfpaaGreatDoor.Rout Go.Proofs.YtkmjbakiippfpaaGreatDoor.Node
theorem chkN_ok (l : List Nd) : ∀ f, f ≤ l.length → ((chkN l f).2 = 0 ↔ ∀ k, l.length - f ≤ k → k < l.length → errAt l k = 0)
  | 0, _ => ⟨fun _ k h1 h2 => by omega, fun _ => rfl⟩
  | f + 1, hf => by
    have ih := chkN_ok l f (by omega)
    show (if errAt l (l.length - (f + 1)) = 0 then chkN l f else (((l.length - (f + 1) : Nat) : Int), errAt l (l.length - (f + 1)))).2 = 0 ↔ _
    by_cases h : errAt l (l.length - (f + 1)) = 0
    · rw [if_pos h, ih]
      constructor
      · intro h2 k h3 h4
        by_cases hk : k = l.length - (f + 1)
        · rw [hk]; exact h
        · exact h2 k (by omega) h4
      · exact fun h2 k h3 h4 => h2 k (by omega) h4
    · rw [if_neg h]
      exact ⟨fun h2 => absurd h2 h, fun h2 => absurd (h2 _ (Nat.le_refl _) (by omega)) h⟩
theorem chk_ok (l : List Nd) : (chk l).2 = 0 ↔ ∀ k, k < l.length → errAt l k = 0 := by
  unfold chk
  rw [chkN_ok l l.length (Nat.le_refl _)]
  exact ⟨fun h k hk => h k (by omega) hk, fun h k _ hk => h k hk⟩
theorem isDir_map (g : Nd → Nd) (hg : ∀ x, (g x).f0 = x.f0 ∧ (g x).f1 = x.f1) (p : ByteArray) (l : List Nd) : isDir (l.map g) p = isDir l p := by
  induction l using snoc_ind with
  | h0 => rfl
  | h1 l x ih => rw [List.map_append, List.map_singleton, isDir_snoc, isDir_snoc, ih, (hg x).1, (hg x).2]
theorem rdN_map (g : Nd → Nd) (l : List Nd) (k : Nat) (h : k < l.length) : rdN (l.map g) (k : Int) = g (rdN l (k : Int)) := by
  unfold rdN
  rw [Int.toNat_natCast, List.getD_eq_getElem?_getD, List.getD_eq_getElem?_getD, List.getElem?_map, List.getElem?_eq_getElem h]
  rfl
theorem errAt_may (l : List Nd) (k : Nat) (h : errAt l k = 0) : mayB (rdN l k) = true ∧ validB (rdN l k).f1 = true := by
  unfold errAt at h
  cases h1 : validB (rdN l k).f1
  · rw [if_pos h1] at h; omega
  · rw [if_neg (by rw [h1]; simp)] at h
    cases h2 : mayB (rdN l k)
    · rw [if_pos (.inl h2)] at h; omega
    · exact ⟨rfl, rfl⟩
theorem errAt_map (g : Nd → Nd) (hg : ∀ x, (g x).f0 = x.f0 ∧ (g x).f1 = x.f1) (l : List Nd) (k : Nat) (hk : k < l.length) (hm : mayB (g (rdN l k)) = mayB (rdN l k)) : errAt (l.map g) k = errAt l k := by
  unfold errAt
  rw [rdN_map g l k hk, hm, (hg _).2, ← List.map_take, isDir_map g hg]
  by_cases h0 : 0 < k
  · have e : rdN (l.map g) ((k : Int) - 1) = g (rdN l ((k : Int) - 1)) := by
      have := rdN_map g l (k - 1) (by omega)
      rwa [show ((k - 1 : Nat) : Int) = (k : Int) - 1 by omega] at this
    rw [e, (hg _).2]
  · have e1 : ∀ z : Prop, (0 < k ∧ z) = False := fun z => by simp [h0]
    simp only [e1]
theorem chk_may (l : List Nd) (h : (chk l).2 = 0) (x : Nd) (hx : x ∈ l) : mayB x = true := by
  obtain ⟨k, hk, rfl⟩ := List.getElem_of_mem hx
  have := (errAt_may l k ((chk_ok l).1 h k hk)).1
  unfold rdN at this
  rw [Int.toNat_natCast, List.getD_eq_getElem?_getD, List.getElem?_eq_getElem hk] at this
  exact this
abbrev Before (x y : Nd) : Prop := compB x.f1 y.f1 < 0
theorem before_irr (x : Nd) : ¬ Before x x := by unfold Before; rw [compB_self]; decide
theorem before_trans (x y z : Nd) (h : Before x y) (k : Before y z) : Before x z := compB_trans h k
theorem pw_any {α : Type} {R : α → α → Prop} : ∀ {l : List α}, l.Pairwise R → ∀ x ∈ l, ∀ y ∈ l, x ≠ y → R x y ∨ R y x
  | [], _, x, hx, _, _, _ => absurd hx (by simp)
  | z :: l, h, x, hx, y, hy, hne => by
    obtain ⟨h1, h2⟩ := List.pairwise_cons.1 h
    rcases List.mem_cons.1 hx with rfl | kx
    · rcases List.mem_cons.1 hy with rfl | ky
      · exact absurd rfl hne
      · exact .inl (h1 _ ky)
    · rcases List.mem_cons.1 hy with rfl | ky
      · exact .inr (h1 _ kx)
      · exact pw_any h2 x kx y ky hne
theorem pw_nodup {l : List Nd} (h : l.Pairwise Before) : l.Nodup := h.imp (fun {a b} hab e => by subst e; exact before_irr _ hab)
/-- The one order of distinct paths. -/
theorem sorted_is (t s : List Nd) (ht : t.Pairwise Before) (hp : t.Perm s) (hs : Sorted s) : s = t := by
  refine (sorted_one before_irr before_trans hp ht ?_).symm
  have hnd : s.Nodup := hp.nodup_iff.1 (pw_nodup ht)
  have h1 : s.Pairwise (fun x y => 0 ≤ compB y.f1 x.f1 ∧ x ≠ y) := List.Pairwise.and hs hnd
  refine h1.imp_of_mem (fun {a b} ha hb hab => ?_)
  rcases pw_any ht a (hp.symm.subset ha) b (hp.symm.subset hb) hab.2 with h | h
  · exact h
  · have h : compB b.f1 a.f1 < 0 := h
    omega
theorem chain_pw (R : Nd → Nd → Prop) (tr : ∀ x y z, R x y → R y z → R x z) (l : List Nd) (h : ∀ k, 0 < k → k < l.length → R (rdN l ((k : Int) - 1)) (rdN l k)) : l.Pairwise R := by
  rw [List.pairwise_iff_getElem]
  have e : ∀ k (hk : k < l.length), rdN l (k : Int) = l[k] := fun k hk => by unfold rdN; rw [Int.toNat_natCast, List.getD_eq_getElem?_getD, List.getElem?_eq_getElem hk]; rfl
  intro i j hi hj hij
  obtain ⟨d, rfl⟩ : ∃ d, j = i + 1 + d := ⟨j - (i + 1), by omega⟩
  clear hij
  induction d with
  | zero =>
    have := h (i + 1) (by omega) hj
    rw [show (((i + 1 : Nat) : Int) - 1) = (i : Int) by omega, e i hi, e (i + 1) hj] at this
    exact this
  | succ d ih =>
    have h1 := ih (by omega)
    have h2 := h (i + 1 + d + 1) (by omega) hj
    rw [show (((i + 1 + d + 1 : Nat) : Int) - 1) = ((i + 1 + d : Nat) : Int) by omega, e (i + 1 + d) (by omega), e (i + 1 + d + 1) hj] at h2
    exact tr _ _ _ h1 h2
theorem err_zero (l : List Nd) (k : Nat) (h : errAt l k = 0) : validB (rdN l k).f1 = true ∧ mayB (rdN l k) = true ∧ k < 65536 ∧ (0 < k → compB (rdN l ((k : Int) - 1)).f1 (rdN l k).f1 < 0) ∧ ((parB (rdN l k).f1).2 = true → isDir (l.take k) (parB (rdN l k).f1).1 = true) := by
  obtain ⟨h1, h2⟩ := errAt_may l k h
  unfold errAt at h
  rw [if_neg (by rw [h2]; simp)] at h
  by_cases h3 : mayB (rdN l k) = false ∨ 65536 ≤ k
  · rw [if_pos h3] at h; omega
  rw [if_neg h3] at h
  by_cases h4 : 0 < k ∧ 0 ≤ compB (rdN l ((k : Int) - 1)).f1 (rdN l k).f1
  · rw [if_pos h4] at h; omega
  rw [if_neg h4] at h
  by_cases h5 : (parB (rdN l k).f1).2 = true ∧ isDir (l.take k) (parB (rdN l k).f1).1 = false
  · rw [if_pos h5] at h; omega
  refine ⟨h2, h1, by omega, fun hk => ?_, fun hp => ?_⟩
  · rcases Int.lt_or_le (compB (rdN l ((k : Int) - 1)).f1 (rdN l k).f1) 0 with h6 | h6
    · exact h6
    · exact absurd ⟨hk, h6⟩ h4
  · cases hd : isDir (l.take k) (parB (rdN l k).f1).1
    · exact absurd ⟨hp, hd⟩ h5
    · rfl
theorem isDir_mem (l : List Nd) (p : ByteArray) (h : isDir l p = true) : p ∈ paths l := by
  induction l using snoc_ind with
  | h0 => cases h
  | h1 l x ih =>
    rw [isDir_snoc] at h
    unfold paths at *
    rw [List.map_append]
    by_cases hx : x.f1 = p
    · rw [← hx]; simp
    · rw [if_neg hx] at h
      exact List.mem_append_left _ (ih h)
theorem mem_rdN (l : List Nd) (x : Nd) (h : x ∈ l) : ∃ k, k < l.length ∧ rdN l (k : Int) = x := by
  obtain ⟨k, hk, rfl⟩ := List.getElem_of_mem h
  exact ⟨k, hk, by unfold rdN; rw [Int.toNat_natCast, List.getD_eq_getElem?_getD, List.getElem?_eq_getElem hk]; rfl⟩
/-- What a tree is. -/
theorem tree_is (l : List Nd) (h : (chk l).2 = 0) : l.Pairwise Before ∧ l.length ≤ 65536 ∧ (∀ x ∈ l, validB x.f1 = true ∧ mayB x = true ∧ ((parB x.f1).2 = true → (parB x.f1).1 ∈ paths l)) := by
  have hk := (chk_ok l).1 h
  refine ⟨chain_pw Before before_trans l (fun k h0 h1 => (err_zero l k (hk k h1)).2.2.2.1 h0), ?_, fun x hx => ?_⟩
  · rcases Nat.eq_zero_or_pos l.length with h0 | h0
    · omega
    · have := (err_zero l (l.length - 1) (hk _ (by omega))).2.2.1
      omega
  · obtain ⟨k, h1, rfl⟩ := mem_rdN l x hx
    obtain ⟨q1, q2, _, _, q3⟩ := err_zero l k (hk k h1)
    refine ⟨q1, q2, fun hp => ?_⟩
    have := isDir_mem _ _ (q3 hp)
    unfold paths at this ⊢
    obtain ⟨y, hy, e⟩ := List.mem_map.1 this
    exact List.mem_map.2 ⟨y, List.mem_of_mem_take hy, e⟩
theorem bad_none (t : List Nd) : ∀ ps : List ByteArray, (∀ x ∈ t, validB x.f1 = true ∧ mayB x = true) → (∀ x ∈ t, x.f1 ∉ ps) → (paths t).Nodup → bad ps t = 0 := by
  induction t with
  | nil => intro _ _ _ _; rfl
  | cons x r ih =>
    intro ps h1 h2 h3
    have hx := h1 x List.mem_cons_self
    unfold bad
    have hh : has ps x.f1 = false := by
      cases hb : has ps x.f1
      · rfl
      · exact absurd ((has_iff _ _).1 hb) (h2 x List.mem_cons_self)
    rw [if_neg (by rw [hx.1]; simp), if_neg (by rw [hx.2, hh]; simp)]
    obtain ⟨h4, h5⟩ := List.nodup_cons.1 (show (x.f1 :: paths r).Nodup from h3)
    refine ih _ (fun y hy => h1 y (List.mem_cons_of_mem _ hy)) (fun y hy hm => ?_) h5
    rcases List.mem_append.1 hm with hm | hm
    · exact h2 y (List.mem_cons_of_mem _ hy) hm
    · obtain hm := List.mem_singleton.1 hm
      exact h4 (hm ▸ List.mem_map.2 ⟨y, hy, rfl⟩)
theorem ups_none (ps : List ByteArray) (p : ByteArray) (f : Nat) (h : (parB p).2 = true → (parB p).1 ∈ ps) : ups ps p f = [] := by
  cases f with
  | zero => rfl
  | succ f =>
    unfold ups
    rw [if_neg]
    rintro ⟨h1, h2⟩
    have := (has_iff _ _).2 (h h1)
    rw [this] at h2
    cases h2
theorem news_none (t : List Nd) (ps : List ByteArray) (h : ∀ x ∈ t, (parB x.f1).2 = true → (parB x.f1).1 ∈ ps) : news ps t = [] := by
  induction t with
  | nil => rfl
  | cons x r ih =>
    unfold news
    rw [ups_none ps x.f1 _ (h x List.mem_cons_self), List.append_nil, List.nil_append]
    exact ih (fun y hy => h y (List.mem_cons_of_mem _ hy))
theorem grow_self (l t : List Nd) (hp : l.Perm t) (h : (chk l).2 = 0) : bad [] t = 0 ∧ grown t = t ∧ ∀ e0 m, GrowSpec t e0 m → e0 = 0 ∧ m = l := by
  obtain ⟨h1, h2, h3⟩ := tree_is l h
  have hpp : (paths l).Perm (paths t) := hp.map _
  have hnd : (paths l).Nodup := by
    unfold paths
    unfold List.Nodup
    rw [List.pairwise_map]
    exact h1.imp (fun {a b} hab e => by unfold Before at hab; rw [e, compB_self] at hab; omega)
  have hb : bad [] t = 0 := bad_none t [] (fun x hx => ⟨(h3 x (hp.symm.subset hx)).1, (h3 x (hp.symm.subset hx)).2.1⟩) (fun x _ hm => absurd hm (by simp)) (hpp.nodup_iff.1 hnd)
  have hg : grown t = t := by
    unfold grown
    rw [news_none t (paths t) (fun x hx hq => hpp.subset ((h3 x (hp.symm.subset hx)).2.2 hq))]
    simp
  refine ⟨hb, hg, fun e0 m hs => ?_⟩
  rcases hs with ⟨hs, _⟩ | ⟨_, s, hs1, hs2, rfl, rfl⟩
  · exact absurd hb hs
  · rw [hg] at hs1
    obtain rfl := sorted_is l s h1 (hp.trans hs1) hs2
    exact ⟨h, by rw [if_pos h]⟩
end Go.Proofs.YtkmjbakiippfpaaGreatDoor.Tree
set_option linter.unusedVariables false
set_option linter.unusedSimpArgs false
namespace Go.Proofs.YtkmjbakiippfpaaGreatDoor.Tar
open Go.RowKit Go.BigFrame Go.Maps Go.Proofs.YtkmjbakiippfpaaGreatDoor.Reg Go.Proofs.YtkmjbakiippfpaaGreatDoor.Rout Go.Proofs.YtkmjbakiippfpaaGreatDoor.Node Go.Proofs.YtkmjbakiippfpaaGreatDoor.Tree Go.Proofs.YtkmjbakiippfpaaGreatDoorW.PrintWords Go.Proofs.YtkmjbakiippfpaaGreatDoorW.PrintLast Go.Proofs.YtkmjbakiippfpaaGreatDoorW.PrintMore
open Go.Proofs.YtkmjbakiippfpaaGreatDoor.Oct (Tz)
open Go.Proofs.YtkmjbakiippfpaaGreatDoor.Rec (Laid)
noncomputable def makeF (l : List Nd) : List Int := (l.map entryF).flatten ++ List.replicate 1024 0
theorem entry_len (x : Nd) (hp : x.f1.size ≤ 1024) (hm : mayB x = true) : (entryF x).length ≤ 268442000 := by
  have h1 := ahead_len x hp hm
  have h2 := headB_len (flatF (hdN x)) (flat_len _ (fit_hd x hp hm))
  have h3 := whole_len (dataN x)
  have h4 := (may_facts x hm).2.2.2.2.2.1
  unfold entryF
  rw [List.length_append, List.length_append]
  omega
theorem flat_bound (l : List Nd) (B : Nat) (h : ∀ x ∈ l, (entryF x).length ≤ B) : (l.map entryF).flatten.length ≤ l.length * B := by
  induction l with
  | nil => simp
  | cons x l ih =>
    have h1 := h x List.mem_cons_self
    have h2 := ih (fun y hy => h y (List.mem_cons_of_mem _ hy))
    simp only [List.map_cons, List.flatten_cons, List.length_append, List.length_cons]
    rw [Nat.add_mul]
    omega
structure Fine (l : List Nd) : Prop where
  len : l.length ≤ 65536
  val : ∀ x ∈ l, validB x.f1 = true
  may : ∀ x ∈ l, mayB x = true
theorem fine_of {l : List Nd} (h : (chk l).2 = 0) : Fine l := by
  obtain ⟨_, h2, h3⟩ := tree_is l h
  exact ⟨h2, fun x hx => (h3 x hx).1, fun x hx => (h3 x hx).2.1⟩
theorem Fine.size {l : List Nd} (h : Fine l) (x : Nd) (hx : x ∈ l) : x.f1.size ≤ 1024 := valid_size _ (h.val x hx)
theorem Fine.entry {l : List Nd} (h : Fine l) (x : Nd) (hx : x ∈ l) : (entryF x).length ≤ 268442000 := entry_len x (h.size x hx) (h.may x hx)
def MakePost (l : List Nd) (w : World) (e : Ending) (w' : World) : Prop := ∃ (A : Option Addr) (c : Nat), e = .returned (.tuple #[.slice A (makeF l).length c, .int .i64 0]) ∧ (makeF l).length ≤ c ∧ Hid ((Kd.int .u8).R 5 w' w.heap.size (fun _ => True) (.slice A (makeF l).length c) (makeF l)) ∧ Hid (Below w.heap.size w w')
theorem make_bad (A : Option Addr) (c : Nat) (l : List Nd) (w : World) (hC : kN.C w A l.length l) (hok : ∀ x ∈ l, Ok x) (hl : l.length ≤ 140737488351232) (hb : (chk l).2 ≠ 0) :
    Calls Tryz.prog 5 #[.slice A l.length c] w fun e w' => e = .returned (.tuple #[.slice none 0 0, .int .i64 21]) ∧ Below w.heap.size w w' := by
  have H := Lib.hid (check_calls A c l w hC hok hl)
  clear hC hok
  generalize (chk l).1 = p at *
  generalize (chk l).2 = q at *
  have hq : (q != 0) = true := by simpa using hb
  clear hb
  go_enter Tryz.func5, Tryz.ntmps5
  go_wp2_with (go_at_call 7; refine H.out.mono ?_; rintro e w1 ⟨rfl, hb1⟩)
  go_ret2
  exact ⟨rfl, hb1⟩
set_option maxRecDepth 100000 in
set_option maxHeartbeats 4000000 in
theorem make_calls (A : Option Addr) (c : Nat) (l : List Nd) (w : World) (hC : kN.C w A l.length l) (hok : ∀ x ∈ l, Ok x) (hl : l.length ≤ 140737488351232) (h0 : (chk l).2 = 0) (hT : Tz w) (hL : Laid w) :
    Calls Tryz.prog 5 #[.slice A l.length c] w (MakePost l w) := by
  have H := Lib.hid (check_calls A c l w hC hok hl)
  rw [h0] at H
  have F := Lib.hid (fine_of h0)
  have HT := Lib.hid hT
  have HL := Lib.hid hL
  have HC := Lib.hid hC
  have HOK := Lib.hid hok
  have hll := (fine_of h0).len
  clear hC hok h0 hT hL hl
  generalize (chk l).1 = p at *
  have HM := Lib.hid (show ∀ xs, xs = (l.map entryF).flatten → makeF l = xs ++ List.replicate 1024 0 from fun xs h => by rw [h]; rfl)
  go_enter Tryz.func5, Tryz.ntmps5
  go_wp2_with (go_at_call 7; refine H.out.mono ?_; rintro e w1 ⟨rfl, hb1⟩)
  go_loopw [6, 8, 18] (fun v _ i wr => ∃ (k : Nat) (xs : List Int) (A2 : Option Addr) (c2 : Nat), i = .int .i64 k ∧ k ≤ l.length ∧ v = .slice A2 xs.length c2 ∧ Hid (xs = ((l.take k).map entryF).flatten) ∧ Hid ((Kd.int .u8).R 5 wr w.heap.size (fun _ => True) (.slice A2 xs.length c2) xs) ∧ Hid (Below w.heap.size w wr)) (fun _ _ i _ => (l.length - intOf i).toNat)
  case atStart => exact ⟨0, [], none, 0, rfl, by omega, rfl, Lib.hid rfl, Lib.hid (Kd.R_nil _ _ _ _ _), Lib.hid hb1⟩
  case round =>
    clear hb1
    obtain ⟨k, xs, A2, c2, rfl, hk, rfl, HX, HR, HB⟩ := hrel
    have HXL := Lib.hid (show xs.length ≤ 65536 * 268442000 by
      rw [HX.out]
      refine Nat.le_trans (flat_bound (l.take k) 268442000 (fun x hx => F.out.entry x (List.mem_of_mem_take hx))) ?_
      exact Nat.mul_le_mul_right _ (by rw [List.length_take]; omega))
    by_cases hlt : k < l.length
    · obtain ⟨ad, A3, c3, hA, d0, d1, d2, d3, d4, hl2, hd⟩ := atN (Kd.C_below HC.out HB.out) (k : Int) (by omega) (by omega)
      subst hA
      have hxm := rdN_mem l k hlt
      have HXN := Lib.hid (show xs ++ entryF (rdN l (k : Int)) = ((l.take (k + 1)).map entryF).flatten by rw [HX.out, take_rdN l k hlt, List.map_append, List.flatten_append]; simp)
      have HXE := Lib.hid (F.out.entry _ hxm)
      have hsz := F.out.size _ hxm
      have hmy := F.out.may _ hxm
      have hok := HOK.out _ hxm
      rw [Int.toNat_natCast] at d0 d1 d2 d3 d4
      generalize rdN l (k : Int) = x at *
      have HE := Lib.hid (show Calls Tryz.prog 10 #[.agg #[.int .i64 x.f0, .string x.f1, .slice A3 x.f2.length c3, .int .i64 x.f3, .int .i64 x.f4]] (wr.alloc (.cells #[.int .i64 x.f0, .string x.f1, .slice A3 x.f2.length c3, .int .i64 x.f3, .int .i64 x.f4] 31)) (Made (entryF x) (wr.alloc (.cells #[.int .i64 x.f0, .string x.f1, .slice A3 x.f2.length c3, .int .i64 x.f3, .int .i64 x.f4] 31))) from
        entry_calls x A3 c3 _ (HT.out.below (balloc HB.out _)) (HL.out.below (balloc HB.out _)) (Kd.C_below hd (balloc (Below.refl _ _) _)) hl2 hmy hsz hok.by_)
      have HB1 := Lib.hid (balloc HB.out (.cells #[.int .i64 x.f0, .string x.f1, .slice A3 x.f2.length c3, .int .i64 x.f3, .int .i64 x.f4] 31))
      have HR1 := Lib.hid (Kd.R_below HR.out (balloc (Below.refl _ _) (.cells #[.int .i64 x.f0, .string x.f1, .slice A3 x.f2.length c3, .int .i64 x.f3, .int .i64 x.f4] 31)))
      clear hd hok hxm hsz hmy HR HX
      generalize entryF x = en at *
      have k0 : (0 : Int) ≤ (k : Int) := by omega
      have k1' : (k : Int) < l.length := by omega
      go_wp2_with (first | (go_at_call 10; refine HE.out.mono ?_; rintro e w2 ⟨A4, c4, rfl, hl4, HR4, HB4⟩; have HR5 := Lib.hid (Kd.R_mono (Kd.R_below HR1.out HB4.out) (fun _ _ => trivial) : (Kd.int .u8).R 5 w2 w.heap.size (fun _ => True) (.slice A2 xs.length c2) xs); have HB5 := Lib.hid (bgo HB1.out HB4.out); have HC5 := Lib.hid (rowC HR4.out)) | (at_builtin; refine Kd.R_append_row (Value.int .u8) 0 (w0 := w) w.heap.size rfl (.tmp 22) (.tmp 24) 23 5 (.int .u8 0) 1 rfl Tryz.underlying23 infoU rfl (by omega) _ xs en A4 en.length c4 (fun _ => True) rfl rfl (fun _ _ => trivial) HR5.out HC5.out HB5.out HB5.out.size (by have h1 := HXL.out; have h2 := HXE.out; omega) ?_; intro v3 w3 hR3 hb3 hg3 hat3; obtain ⟨A5, c5, rfl⟩ := Kd.R_slice hR3; have HR3 := Lib.hid hR3; have HB3 := Lib.hid hb3; clear hR3 hb3 hg3 hat3))
      go_roundw
      case rel => exact ⟨k + 1, xs ++ en, A5, c5, by go_num, by omega, by rw [List.length_append], HXN, HR3, HB3⟩
      case measure => simp [intOf]; omega
    · obtain rfl : k = l.length := by omega
      have k1' : ¬ (l.length : Int) < l.length := by omega
      have HF := Lib.hid (HM.out xs (by rw [HX.out, List.take_length]))
      clear hlt HX HM
      generalize hmk : makeF l = mk at *
      have HMK := Lib.hid hmk
      clear hmk
      go_wp2_with (at_builtin; refine Kd.R_append_zeros (Kd.int .u8) (w0 := w) w.heap.size rfl (.tmp 27) (.const (.int .i64 1024)) 23 3 5 (.int .u8 0) 1 rfl Tryz.underlying23 Tryz.underlying3 infoU rfl (show 0 < 1 by decide) (by decide) (.slice A2 xs.length c2) xs 0 (kx := .i64) 1024 (fun _ => True) rfl rfl rfl (fun _ _ => trivial) HR.out (by omega) HB.out HB.out.size (by have := HXL.out; simp; omega) ?_; intro v2 w2 hR2 hb2 hg2 hat2; have hR2' : (Kd.int .u8).R 5 w2 w.heap.size (fun _ => True) v2 mk := (by rw [HF.out]; exact hR2); have HR2 := Lib.hid hR2'; have HB2 := Lib.hid hb2; clear hR2 hR2' hb2 hg2 hat2)
      go_ret2
      obtain ⟨A9, c9, rfl, hl9, _⟩ := Kd.R_reads HR2.out
      have hmk := HMK.out
      subst hmk
      exact ⟨A9, c9, rfl, hl9, HR2, HB2⟩
end Go.Proofs.YtkmjbakiippfpaaGreatDoor.Tar
set_option linter.unusedVariables false
set_option linter.unusedSimpArgs false
namespace Go.Proofs.YtkmjbakiippfpaaGreatDoor.Tar
open Go.RowKit Go.BigFrame Go.Maps Go.Proofs.YtkmjbakiippfpaaGreatDoor.Reg Go.Proofs.YtkmjbakiippfpaaGreatDoor.Rout Go.Proofs.YtkmjbakiippfpaaGreatDoor.Node Go.Proofs.YtkmjbakiippfpaaGreatDoor.Tree Go.Proofs.YtkmjbakiippfpaaGreatDoorW.PrintWords Go.Proofs.YtkmjbakiippfpaaGreatDoorW.PrintLast Go.Proofs.YtkmjbakiippfpaaGreatDoorW.PrintMore
open Go.Proofs.YtkmjbakiippfpaaGreatDoor.Oct (Tz octO digs)
open Go.Proofs.YtkmjbakiippfpaaGreatDoor.Rec (Laid B Saids)
noncomputable def restF (l : List Nd) (Z : List Int) : List Int := (l.map entryF).flatten ++ Z
noncomputable def ownF (x : Nd) : List Int := headB (flatF (hdN x)) ++ wholeF (dataN x)
theorem restF_cons (x : Nd) (l : List Nd) (Z : List Int) : restF (x :: l) Z = aheadN x ++ (ownF x ++ restF l Z) := by
  unfold restF ownF
  rw [List.map_cons, List.flatten_cons, List.append_assoc]
  unfold entryF
  simp only [List.append_assoc]
theorem restF_len (l : List Nd) (Z : List Int) : Z.length ≤ (restF l Z).length := by
  unfold restF
  rw [List.length_append]
  omega
theorem headB_512 (h : Hd) (F : Fit h) : (headB (flatF h)).length = 512 := by
  have hlen := flat_len h F
  have hT := totN_in (flat_in h F) 512 (by omega)
  have hTd : (digs (totalF (flatF h))).length ≤ 6 := digs_len 5 _ (by unfold totalF; exact Int.lt_of_le_of_lt hT.2 (by decide))
  have hTl : (octB (totalF (flatF h)) 7).length = 7 := octB_len (totalF (flatF h)) 7 (by unfold totalF; omega) (by omega) (by omega) (by omega)
  unfold headB
  simp only [List.length_append, List.length_take, List.length_drop, List.length_singleton, hTl]
  omega
theorem whole_len' (xs : List Int) : (wholeF xs).length = xs.length + padN xs.length := by
  unfold wholeF
  rw [List.length_append, List.length_replicate]
theorem whole_take (xs r : List Int) : (wholeF xs ++ r).take xs.length = xs := by
  unfold wholeF
  rw [List.append_assoc, List.take_left]
theorem whole_drop (xs r : List Int) : (wholeF xs ++ r).drop (xs.length + padN xs.length) = r := by
  rw [← whole_len', List.drop_left]
theorem str_back (s : ByteArray) : strOfNums (bytesOf s) = s := by
  apply ba_ext
  rw [strOfNums_data, bytesOf_data]
theorem said_nil (x : Nd) (hp : x.f1.size ≤ 1024) (hm : mayB x = true) (h : saidN x = ⟨#[]⟩) : pairsN x = [] := by
  have hs := pairs_saids x hp hm
  rw [h] at hs
  cases hq : pairsN x with
  | nil => rfl
  | cons kv l =>
    rw [hq] at hs
    obtain ⟨k, v⟩ := kv
    obtain ⟨N, r, _, _, _, _, e⟩ := hs
    have := congrArg List.length e
    simp [Rec.tailOf] at this
theorem name_no0 (x : Nd) (hv : validB x.f1 = true) : (0 : UInt8) ∉ (nameN x).data.toList := by
  have h := valid_no0 hv
  unfold nameN
  split
  · rw [data_app]
    intro hm
    rcases List.mem_append.1 hm with hm | hm
    · exact h hm
    · revert hm; decide
  · exact h
theorem link_no0 (x : Nd) (hm : mayB x = true) (hby : ∀ b ∈ x.f2, 0 ≤ b ∧ b ≤ 255) : (0 : UInt8) ∉ (linkN x).data.toList := by
  unfold linkN
  split
  · rename_i h3
    have hz := ((may_facts x hm).2.2.2.2.2.2.2.2 h3).2.2
    rw [strOfNums_data]
    intro hm
    obtain ⟨b, hb, e⟩ := List.mem_map.1 hm
    have h1 := hby b hb
    have h2 := hz b hb
    have h3 := congrArg UInt8.toNat e
    simp at h3
    omega
  · decide
theorem kind_cases (x : Nd) : kindN x = 48 ∨ kindN x = 50 ∨ kindN x = 53 ∨ kindN x = 120 := by
  unfold kindN
  split
  · exact .inr (.inr (.inl rfl))
  · split
    · exact .inr (.inl rfl)
    · exact .inl rfl
/-- The header of what is said, as it is read. -/
noncomputable def paxR (x : Nd) : Hd := ⟨B ((⟨#[112, 97, 120]⟩ : ByteArray).data.toList.take 100), B ((⟨#[]⟩ : ByteArray).data.toList.take 100), 420, ((saidN x).size : Nat), 0, 120⟩
theorem told_own (x : Nd) (hv : validB x.f1 = true) (hm : mayB x = true) (hby : ∀ b ∈ x.f2, 0 ≤ b ∧ b ≤ 255) (R : List Int) (hR : ∀ b ∈ R, 0 ≤ b ∧ b ≤ 255) : Told (headB (flatF (hdN x)) ++ R) (hdR x) :=
  told_of (hdN x) (fit_hd x (valid_size _ hv) hm) (kind_cases x) (name_no0 x hv) (link_no0 x hm hby) R hR
theorem told_pax (x : Nd) (hv : validB x.f1 = true) (hm : mayB x = true) (R : List Int) (hR : ∀ b ∈ R, 0 ≤ b ∧ b ≤ 255) : Told (headB (flatF (paxN x)) ++ R) (paxR x) :=
  told_of (paxN x) (fit_pax x (valid_size _ hv) hm) (.inr (.inr (.inr rfl))) (by show (0 : UInt8) ∉ (⟨#[112, 97, 120]⟩ : ByteArray).data.toList; decide) (by show (0 : UInt8) ∉ (⟨#[]⟩ : ByteArray).data.toList; decide) R hR
/-- A header is no blank block. -/
theorem told_blank {xs : List Int} {h : Hd} (T : Told xs h) (hk : h.kind ≠ 0) : zeroB (xs.take 512) = false := by
  cases hz : zeroB (xs.take 512) with
  | false => rfl
  | true =>
    unfold zeroB at hz
    rw [List.all_eq_true] at hz
    have hl := T.len
    have hlt : 156 < (xs.take 512).length := by rw [List.length_take]; omega
    have h1 := hz _ (List.getElem_mem hlt)
    have h2 := T.kind
    unfold rd at h2
    rw [show (156 : Int).toNat = 156 from rfl, List.getD_eq_getElem?_getD, List.getElem?_eq_getElem (by omega)] at h2
    rw [List.getElem_take] at h1
    simp at h1 h2
    rw [h1] at h2
    exact absurd h2.symm hk
def usedN (l : List Nd) : Int := (l.map fun x => (((dataN x).length : Nat) : Int)).sum
theorem usedN_snoc (l : List Nd) (x : Nd) : usedN (l ++ [x]) = usedN l + ((dataN x).length : Nat) := by
  unfold usedN
  simp
theorem usedN_app (l r : List Nd) : usedN (l ++ r) = usedN l + usedN r := by
  unfold usedN
  simp
theorem usedN_nonneg (l : List Nd) : 0 ≤ usedN l := by
  induction l with
  | nil => decide
  | cons x l ih =>
    unfold usedN at *
    simp only [List.map_cons, List.sum_cons]
    omega
def readE (l : List Nd) (most : Int) (zl : Nat) : Int := if most < usedN l then 3 else if zl < 1024 then 10 else 0
end Go.Proofs.YtkmjbakiippfpaaGreatDoor.Tar
