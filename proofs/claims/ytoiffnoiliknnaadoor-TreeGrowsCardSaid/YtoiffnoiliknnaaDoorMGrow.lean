/- GrowO, GrowC, GrowP, GrowS, GrowW, GrowQ, GrowL put together. -/
import Derived.Test.YtoiffnoiliknnaaDoorMTree
import Derived.Sort.Statements
import Derived.Sort.Grow
import Derived.Test.YtoiffnoiliknnaaDoorMProj
import Derived.Test.YtoiffnoiliknnaaDoorGrowShelf
import Derived.Shelf.SlSortCmp.WholeK
set_option linter.unusedVariables false
set_option linter.unusedSimpArgs false
namespace Go.Proofs.YtoiffnoiliknnaaDoor.Rout
open Go.RowKit
theorem less_irr : ∀ x : List UInt8, Op.bytesLess x x = false
  | [] => rfl
  | a :: x => by
    show (decide (a < a) || (a == a && Op.bytesLess x x)) = false
    rw [less_irr x]; simp
theorem less_trans : ∀ x y z : List UInt8, Op.bytesLess x y = true → Op.bytesLess y z = true → Op.bytesLess x z = true
  | [], [], _, h, _ => by cases h
  | _ :: _, [], _, h, _ => by cases h
  | _, _ :: _, [], _, h => by cases h
  | [], _ :: _, _ :: _, _, _ => rfl
  | a :: x, b :: y, c :: z, h1, h2 => by
    have h1 : (decide (a < b) || (a == b && Op.bytesLess x y)) = true := h1
    have h2 : (decide (b < c) || (b == c && Op.bytesLess y z)) = true := h2
    show (decide (a < c) || (a == c && Op.bytesLess x z)) = true
    simp only [Bool.or_eq_true, decide_eq_true_eq, Bool.and_eq_true, beq_iff_eq] at h1 h2 ⊢
    rcases h1 with k1 | ⟨rfl, k1⟩
    · rcases h2 with k2 | ⟨rfl, k2⟩
      · exact .inl (UInt8.lt_trans k1 k2)
      · exact .inl k1
    · rcases h2 with k2 | ⟨rfl, k2⟩
      · exact .inl k2
      · exact .inr ⟨rfl, less_trans x y z k1 k2⟩
theorem less_tri : ∀ x y : List UInt8, Op.bytesLess x y = true ∨ x = y ∨ Op.bytesLess y x = true
  | [], [] => .inr (.inl rfl)
  | [], _ :: _ => .inl rfl
  | _ :: _, [] => .inr (.inr rfl)
  | a :: x, b :: y => by
    show (decide (a < b) || (a == b && Op.bytesLess x y)) = true ∨ _ ∨ (decide (b < a) || (b == a && Op.bytesLess y x)) = true
    simp only [Bool.or_eq_true, decide_eq_true_eq, Bool.and_eq_true, beq_iff_eq]
    rcases Nat.lt_trichotomy a.toNat b.toNat with h | h | h
    · exact .inl (.inl (UInt8.lt_iff_toNat_lt.2 h))
    · obtain rfl := UInt8.toNat_inj.1 h
      rcases less_tri x y with h | h | h
      · exact .inl (.inr ⟨rfl, h⟩)
      · exact .inr (.inl (by rw [h]))
      · exact .inr (.inr (.inr ⟨rfl, h⟩))
    · exact .inr (.inr (.inl (UInt8.lt_iff_toNat_lt.2 h)))
theorem less_asym (x y : List UInt8) (h : Op.bytesLess x y = true) : Op.bytesLess y x = false := by
  cases h2 : Op.bytesLess y x
  · rfl
  · have := less_trans x y x h h2
    rw [less_irr] at this
    cases this
/-- The three answers. -/
theorem cmpB_cases (a b : ByteArray) : (cmpB a b = -1 ∧ Op.bytesLess a.toList b.toList = true) ∨ (cmpB a b = 0 ∧ a.toList = b.toList) ∨ (cmpB a b = 1 ∧ Op.bytesLess b.toList a.toList = true) := by
  unfold cmpB
  rcases less_tri a.toList b.toList with h | h | h
  · exact .inl ⟨by rw [if_pos h], h⟩
  · exact .inr (.inl ⟨by rw [h, less_irr]; simp, h⟩)
  · refine .inr (.inr ⟨?_, h⟩)
    rw [less_asym _ _ h, if_neg (by simp), if_neg]
    intro e
    have e := eq_of_beq e
    rw [e, less_irr] at h
    cases h
theorem cmpB_self (a : ByteArray) : cmpB a a = 0 := by
  rcases cmpB_cases a a with ⟨_, h⟩ | ⟨h, _⟩ | ⟨_, h⟩
  · rw [less_irr] at h; cases h
  · exact h
  · rw [less_irr] at h; cases h
theorem cmpB_neg {a b : ByteArray} (h : Op.bytesLess a.toList b.toList = true) : cmpB a b = -1 := by unfold cmpB; rw [if_pos h]
theorem cmpB_pos {a b : ByteArray} (h : Op.bytesLess b.toList a.toList = true) : cmpB a b = 1 := by
  rcases cmpB_cases a b with ⟨_, h2⟩ | ⟨_, h2⟩ | ⟨h2, _⟩
  · rw [less_asym _ _ h2] at h; cases h
  · rw [h2, less_irr] at h; cases h
  · exact h2
theorem cmpB_congr {a b : ByteArray} (h : a.toList = b.toList) (c : ByteArray) : cmpB a c = cmpB b c ∧ cmpB c a = cmpB c b := by
  unfold cmpB
  rw [h]
  exact ⟨rfl, rfl⟩
theorem cmpL_self : ∀ a, cmpL a a = 0
  | [] => rfl
  | x :: a => by
    show (if cmpB x x = 0 then cmpL a a else cmpB x x) = 0
    rw [cmpB_self, if_pos rfl, cmpL_self a]
theorem cmpL_trans : ∀ a b c, cmpL a b < 0 → cmpL b c < 0 → cmpL a c < 0
  | [], [], _, h, _ => by simp [cmpL] at h
  | _ :: _, [], _, h, _ => by simp [cmpL] at h
  | _, _ :: _, [], _, h => by simp [cmpL] at h
  | [], _ :: _, _ :: _, _, _ => by simp [cmpL]
  | x :: a, y :: b, z :: c, h1, h2 => by
    have h1 : (if cmpB x y = 0 then cmpL a b else cmpB x y) < 0 := h1
    have h2 : (if cmpB y z = 0 then cmpL b c else cmpB y z) < 0 := h2
    show (if cmpB x z = 0 then cmpL a c else cmpB x z) < 0
    rcases cmpB_cases x y with ⟨e1, q1⟩ | ⟨e1, q1⟩ | ⟨e1, q1⟩
    · rcases cmpB_cases y z with ⟨e2, q2⟩ | ⟨e2, q2⟩ | ⟨e2, q2⟩
      · rw [cmpB_neg (less_trans _ _ _ q1 q2)]; simp
      · rw [← (cmpB_congr q2 x).2, e1]; simp
      · rw [e2, if_neg (by decide)] at h2; omega
    · rw [(cmpB_congr q1 z).1]
      rw [e1, if_pos rfl] at h1
      rcases cmpB_cases y z with ⟨e2, q2⟩ | ⟨e2, q2⟩ | ⟨e2, q2⟩
      · rw [e2]; simp
      · rw [e2, if_pos rfl] at h2 ⊢; exact cmpL_trans a b c h1 h2
      · rw [e2, if_neg (by decide)] at h2; omega
    · rw [e1, if_neg (by decide)] at h1; omega
theorem cmpL_ntrans : ∀ a b c, 0 ≤ cmpL a b → 0 ≤ cmpL b c → 0 ≤ cmpL a c
  | [], [], [], _, _ => by simp [cmpL]
  | [], [], _ :: _, _, h => by simp [cmpL] at h
  | [], _ :: _, _, h, _ => by simp [cmpL] at h
  | _ :: _, _, [], _, _ => by simp [cmpL]
  | _ :: _, [], _ :: _, _, h => by simp [cmpL] at h
  | x :: a, y :: b, z :: c, h1, h2 => by
    have h1 : 0 ≤ (if cmpB x y = 0 then cmpL a b else cmpB x y) := h1
    have h2 : 0 ≤ (if cmpB y z = 0 then cmpL b c else cmpB y z) := h2
    show 0 ≤ (if cmpB x z = 0 then cmpL a c else cmpB x z)
    rcases cmpB_cases x y with ⟨e1, q1⟩ | ⟨e1, q1⟩ | ⟨e1, q1⟩
    · rw [e1, if_neg (by decide)] at h1; omega
    · rw [(cmpB_congr q1 z).1]
      rw [e1, if_pos rfl] at h1
      rcases cmpB_cases y z with ⟨e2, q2⟩ | ⟨e2, q2⟩ | ⟨e2, q2⟩
      · rw [e2, if_neg (by decide)] at h2; omega
      · rw [e2, if_pos rfl] at h2 ⊢; exact cmpL_ntrans a b c h1 h2
      · rw [e2]; simp
    · rcases cmpB_cases y z with ⟨e2, q2⟩ | ⟨e2, q2⟩ | ⟨e2, q2⟩
      · rw [e2, if_neg (by decide)] at h2; omega
      · rw [← (cmpB_congr q2 x).2, e1]; simp
      · rw [cmpB_pos (less_trans _ _ _ q2 q1)]; simp
theorem compB_self (a : ByteArray) : compB a a = 0 := cmpL_self _
theorem compB_trans {a b c : ByteArray} (h : compB a b < 0) (k : compB b c < 0) : compB a c < 0 := cmpL_trans _ _ _ h k
theorem compB_ntrans {a b c : ByteArray} (h : 0 ≤ compB a b) (k : 0 ≤ compB b c) : 0 ≤ compB a c := cmpL_ntrans _ _ _ h k
/-- Two rows in strict order of the same things are one. -/
theorem sorted_one {α : Type} {R : α → α → Prop} (irr : ∀ x, ¬ R x x) (tr : ∀ x y z, R x y → R y z → R x z) : ∀ {l m : List α}, l.Perm m → l.Pairwise R → m.Pairwise R → l = m
  | [], m, h, _, _ => by rw [List.nil_perm.1 h]
  | x :: l, [], h, _, _ => by have := h.length_eq; simp at this
  | x :: l, y :: m, h, hl, hm => by
    obtain ⟨hx, hl'⟩ := List.pairwise_cons.1 hl
    obtain ⟨hy, hm'⟩ := List.pairwise_cons.1 hm
    have hxy : x = y := by
      have h1 : x ∈ y :: m := h.subset List.mem_cons_self
      have h2 : y ∈ x :: l := h.symm.subset List.mem_cons_self
      rcases List.mem_cons.1 h1 with e | h1
      · exact e
      · rcases List.mem_cons.1 h2 with e | h2
        · exact e.symm
        · exact absurd (tr _ _ _ (hx _ h2) (hy _ h1)) (irr _)
    subst hxy
    rw [sorted_one irr tr (List.Perm.cons_inv h) hl' hm']
end Go.Proofs.YtoiffnoiliknnaaDoor.Rout
set_option linter.unusedVariables false
set_option linter.unusedSimpArgs false
namespace Go.Proofs.YtoiffnoiliknnaaDoor.Rout
open Go.RowKit Go.BigFrame Go.Proofs.YtoiffnoiliknnaaDoor.Reg Go.Proofs.YtoiffnoiliknnaaDoorW.PrintWords
theorem split_grow (s : ByteArray) (w : World) (hs : s.size < 4294967281) :
    Calls Tryd.prog 51 #[.string s, .string ⟨#[47]⟩] w fun e w' => ∃ A, e = .returned (.slice A (pcs s).length (pcs s).length) ∧ Kd.string.C w' A (pcs s).length (pcs s) ∧ Below w.heap.size w w' ∧ ∃ os, w' = Go.Sort.grow w os := by
  have hl : (pcs s).length ≤ 9223372036854775807 := by rw [pcs_len]; have := List.count_le_length (a := (47 : UInt8)) (l := s.data.toList); rw [size_data] at this; omega
  refine (split_calls s w hs).mono fun e w' ⟨he, hw⟩ => ⟨_, he, ?_, ?_, ?_⟩
  · rw [hw]; exact strs_C w (pcs s) hl
  · rw [hw]; exact balloc (Below.refl _ _) _
  · exact ⟨_, by rw [hw, Go.Sort.alloc_eq_grow]⟩
set_option maxRecDepth 100000 in
set_option maxHeartbeats 4000000 in
theorem compare_grow (a b : ByteArray) (w : World) (ha : a.size ≤ 1024) (hb : b.size ≤ 1024) :
    Calls Tryd.prog 31 #[.string a, .string b] w fun e w' => e = .returned (.int .i64 (compB a b)) ∧ ∃ os, w' = Go.Sort.grow w os := by
  have la : (pcs a).length ≤ 1025 := by rw [pcs_len]; have := List.count_le_length (a := (47 : UInt8)) (l := a.data.toList); rw [size_data] at this; omega
  have lb : (pcs b).length ≤ 1025 := by rw [pcs_len]; have := List.count_le_length (a := (47 : UInt8)) (l := b.data.toList); rw [size_data] at this; omega
  have tok : True := trivial
  have C1 := Lib.hid (fun W => split_grow a W (by omega))
  have C2 := Lib.hid (fun W => split_grow b W (by omega))
  go_enter Tryd.func31, Tryd.ntmps31
  go_wp2_with (first
    | (go_at_call 50; refine (compareL_calls _ _ _ _ _ _ _ HX.out HY.out (by omega) (by omega)).mono ?_; rintro e w3 ⟨rfl, rfl⟩)
    | (go_at_call 51; have _t := tok; with_reducible refine (C1.out _).mono ?_; rintro e w1 ⟨A1, rfl, h1, hb1, g1⟩; have H1 := Lib.hid h1; have G1 := Lib.hid g1; clear h1 hb1 g1 tok)
    | (go_at_call 51; with_reducible refine (C2.out _).mono ?_; rintro e w2 ⟨A2, rfl, h2, hb2, g2⟩; have HY := Lib.hid h2; have HX := Lib.hid (Kd.C_below H1.out hb2); have G2 := Lib.hid g2; clear h2 hb2 g2))
  go_ret
  obtain ⟨o1, e1⟩ := G1.out
  obtain ⟨o2, e2⟩ := G2.out
  exact ⟨rfl, o1 ++ o2, by rw [e2, e1, Go.Sort.grow_grow]⟩
set_option maxRecDepth 100000 in
set_option maxHeartbeats 4000000 in
theorem less_grow (x y : Node.Nd) (v u : Value) (W : World) (hx : x.f1.size ≤ 1024) (hy : y.f1.size ≤ 1024) :
    Calls Tryd.prog 38 #[.agg #[.int .i64 x.f0, .string x.f1, v, .int .i64 x.f3, .int .i64 x.f4], .agg #[.int .i64 y.f0, .string y.f1, u, .int .i64 y.f3, .int .i64 y.f4]] W fun e w' => e = .returned (.int .i64 (compB x.f1 y.f1)) ∧ ∃ q os', w' = Go.Sort.grow (W.drewN q) os' := by
  have HC := Lib.hid (fun W' => compare_grow x.f1 y.f1 W' hx hy)
  generalize compB x.f1 y.f1 = r at *
  go_enter Tryd.func38, Tryd.ntmps38
  go_wp2_with (go_at_call 31; refine (HC.out _).mono ?_; rintro e w' ⟨rfl, os1, hw⟩; have HW := Lib.hid hw; clear hw)
  go_ret
  exact ⟨rfl, 0, _, by rw [HW.out, Go.Sort.alloc_eq_grow, Go.Sort.alloc_eq_grow, Go.Sort.grow_grow, Go.Sort.grow_grow]; rfl⟩
end Go.Proofs.YtoiffnoiliknnaaDoor.Rout
set_option linter.unusedVariables false
set_option linter.unusedSimpArgs false
namespace Go.Proofs.YtoiffnoiliknnaaDoor.Tree
open Go.RowKit Go.Maps Go.Proofs.YtoiffnoiliknnaaDoor.Rout Go.Proofs.YtoiffnoiliknnaaDoor.Node
/-- What the map of paths reads as. -/
def foldT (ps : List ByteArray) : DataW Unit := ps.foldl (fun D p => D.put (.string p.data.toList) (.lit (.bool true))) (.map [])
theorem foldT_snoc (ps : List ByteArray) (p : ByteArray) : foldT (ps ++ [p]) = (foldT ps).put (.string p.data.toList) (.lit (.bool true)) := by unfold foldT; rw [List.foldl_append]; rfl
theorem isMap_foldT (l : List ByteArray) : IsMap (foldT l) := by
  induction l using snoc_ind with
  | h0 => exact isMap_empty
  | h1 l x ih => rw [foldT_snoc]; exact ih.put _ _
/-- Is a path among them? -/
def has (l : List ByteArray) (p : ByteArray) : Bool := l.any (fun q => decide (q = p))
theorem has_snoc (l : List ByteArray) (x p : ByteArray) : has (l ++ [x]) p = (has l p || decide (x = p)) := by unfold has; rw [List.any_append]; simp
theorem has_iff (l : List ByteArray) (p : ByteArray) : has l p = true ↔ p ∈ l := by unfold has; simp
theorem foldT_at (l : List ByteArray) (p : ByteArray) : (foldT l).atKey (.string p.data.toList) (.lit (.bool false)) = .lit (.bool (has l p)) := by
  induction l using snoc_ind with
  | h0 => rfl
  | h1 l x ih =>
    rw [foldT_snoc]
    by_cases h : x = p
    · subst h
      rw [atKey_put_same (isMap_foldT l) (by trivial), has_snoc]
      simp
    · rw [atKey_put_other (fun e => h (ba_ext (by injection e with e; exact e.symm))), ih, has_snoc, decide_eq_false h, Bool.or_false]
theorem ownsT_look {w : World} {b n : Nat} {l : List ByteArray} (h : owns w b n (foldT l)) (p : ByteArray) (hp : p.size ≤ 140737488351232) : (Instr.lookup 52 (.map (some b)) (.string p) false).run Tryd.prog w = .ok (.bool (has l p)) w := by
  obtain ⟨v, ps, hrun, hv⟩ := h.lookup key9 Tryd.underlying52 (zero4 w) (plainElem_bool Tryd.underlying4 false) (Go.WideMaps.keyOf_string_mk (s := p) Tryd.underlying9 (by unfold maxLen; omega))
  rw [foldT_at] at hv
  have : v = .bool (has l p) := by
    simp only [plainElem, Tryd.underlying4] at hv
    cases v <;> simp at hv
    rw [hv.1]
  rw [hrun, this]
/-- The folders above p that lack. -/
def ups (ps : List ByteArray) (p : ByteArray) : Nat → List ByteArray
  | 0 => []
  | f + 1 => if (parB p).2 = true ∧ has ps (parB p).1 = false then (parB p).1 :: ups (ps ++ [(parB p).1]) (parB p).1 f else []
theorem parB_less (s : ByteArray) (h : (parB s).2 = true) : (parB s).1.size < s.size := by
  unfold parB at h ⊢
  by_cases hc : 0 ≤ Lib.lastIndexByte s 47 ∧ validB s = true
  · rw [if_pos hc]
    rcases last_cases s with hl | ⟨i, hi, hl⟩
    · rw [hl] at hc; omega
    · rw [hl]
      show (s.extract 0 ((i : Int)).toNat).size < s.size
      rw [ByteArray.size_extract, Int.toNat_natCast]
      omega
  · rw [if_neg hc] at h; cases h
def news (ps : List ByteArray) : List Nd → List ByteArray
  | [] => []
  | x :: r => ups ps x.f1 (x.f1.size + 1) ++ news (ps ++ ups ps x.f1 (x.f1.size + 1)) r
def folder (p : ByteArray) : Nd := ⟨1, p, [], 493, 0⟩
def paths (l : List Nd) : List ByteArray := l.map Nd.f1
def grown (l : List Nd) : List Nd := l ++ (news (paths l) l).map folder
/-- Why nothing grows: a path that is none, a node that may not be, a path that comes twice. -/
def bad (ps : List ByteArray) : List Nd → Int
  | [] => 0
  | x :: r => if validB x.f1 = false then 20 else if mayB x = false ∨ has ps x.f1 = true then 21 else bad (ps ++ [x.f1]) r
theorem bad_step (l : List Nd) (k : Nat) (h : k < l.length) : bad (paths (l.take k)) (l.drop k) = if validB (rdN l k).f1 = false then 20 else if mayB (rdN l k) = false ∨ has (paths (l.take k)) (rdN l k).f1 = true then 21 else bad (paths (l.take (k + 1))) (l.drop (k + 1)) := by
  have e1 : rdN l (k : Int) = l[k] := by unfold rdN; rw [Int.toNat_natCast, List.getD_eq_getElem?_getD, List.getElem?_eq_getElem h]; rfl
  have e2 : paths (l.take (k + 1)) = paths (l.take k) ++ [(rdN l k).f1] := by rw [take_rdN l k h]; unfold paths; rw [List.map_append]; rfl
  rw [e2, e1, List.drop_eq_getElem_cons h]
  rfl
theorem news_step (l : List Nd) (k : Nat) (ps : List ByteArray) (h : k < l.length) : news ps (l.drop k) = ups ps (rdN l k).f1 ((rdN l k).f1.size + 1) ++ news (ps ++ ups ps (rdN l k).f1 ((rdN l k).f1.size + 1)) (l.drop (k + 1)) := by
  have e1 : rdN l (k : Int) = l[k] := by unfold rdN; rw [Int.toNat_natCast, List.getD_eq_getElem?_getD, List.getElem?_eq_getElem h]; rfl
  rw [e1, List.drop_eq_getElem_cons h]
  rfl
/-- In order. -/
def Sorted (l : List Nd) : Prop := l.Pairwise (fun x y => 0 ≤ compB y.f1 x.f1)
theorem bad_all (l : List Nd) : ∀ ps, bad ps l = 0 → ∀ x ∈ l, validB x.f1 = true ∧ mayB x = true := by
  induction l with
  | nil => intro _ _ x hx; cases hx
  | cons y r ih =>
    intro ps h x hx
    unfold bad at h
    cases h1 : validB y.f1
    · rw [if_pos h1] at h; omega
    · rw [if_neg (by rw [h1]; simp)] at h
      by_cases h2 : mayB y = false ∨ has ps y.f1 = true
      · rw [if_pos h2] at h; omega
      · rw [if_neg h2] at h
        rcases List.mem_cons.1 hx with rfl | hx
        · exact ⟨h1, by cases hm : mayB x; exact absurd (.inl hm) h2; rfl⟩
        · exact ih _ h x hx
theorem ups_size (f : Nat) : ∀ (ps : List ByteArray) (p : ByteArray), p.size ≤ 1024 → ∀ q ∈ ups ps p f, q.size ≤ 1024 := by
  induction f with
  | zero => intro _ _ _ q hq; cases hq
  | succ f ih =>
    intro ps p hp q hq
    unfold ups at hq
    split at hq
    · have h1 := Nat.le_trans (parB_size p) hp
      rcases List.mem_cons.1 hq with rfl | hq
      · exact h1
      · exact ih _ _ h1 q hq
    · cases hq
theorem news_size (r : List Nd) : ∀ ps, (∀ x ∈ r, x.f1.size ≤ 1024) → ∀ q ∈ news ps r, q.size ≤ 1024 := by
  induction r with
  | nil => intro _ _ q hq; cases hq
  | cons x r ih =>
    intro ps h q hq
    unfold news at hq
    rcases List.mem_append.1 hq with hq | hq
    · exact ups_size _ _ _ (h x List.mem_cons_self) q hq
    · exact ih _ (fun y hy => h y (List.mem_cons_of_mem _ hy)) q hq
theorem ok_folder (p : ByteArray) (h : p.size ≤ 1024) : Ok (folder p) := ⟨fun b hb => absurd hb (by simp [folder]), by show p.size ≤ _; omega, by show 0 ≤ _; omega⟩
theorem grown_ok (l : List Nd) (hok : ∀ x ∈ l, Ok x) (hb : bad [] l = 0) : (∀ x ∈ grown l, Ok x) ∧ ∀ x ∈ grown l, x.f1.size ≤ 1024 := by
  have hv : ∀ x ∈ l, x.f1.size ≤ 1024 := fun x hx => valid_size _ (bad_all l [] hb x hx).1
  constructor
  · intro x hx
    rcases List.mem_append.1 hx with hx | hx
    · exact hok x hx
    · obtain ⟨q, hq, rfl⟩ := List.mem_map.1 hx
      exact ok_folder q (news_size l _ hv q hq)
  · intro x hx
    rcases List.mem_append.1 hx with hx | hx
    · exact hv x hx
    · obtain ⟨q, hq, rfl⟩ := List.mem_map.1 hx
      exact news_size l _ hv q hq
/-- What tree.Grow hands back: e0, and the row m. -/
def GrowSpec (l : List Nd) (e0 : Int) (m : List Nd) : Prop :=
  (bad [] l ≠ 0 ∧ e0 = bad [] l ∧ m = []) ∨ (bad [] l = 0 ∧ ∃ s : List Nd, (grown l).Perm s ∧ Sorted s ∧ e0 = (chk s).2 ∧ m = if (chk s).2 = 0 then s else [])
/-- How far an inner loop has still to go. -/
def toGo : Value → Value → Nat
  | .string p, .bool true => p.size + 1
  | _, _ => 0
end Go.Proofs.YtoiffnoiliknnaaDoor.Tree
set_option linter.unusedVariables false
set_option linter.unusedSimpArgs false
namespace Go.Proofs.YtoiffnoiliknnaaDoor.Tree
open Go.RowKit Go.Proofs.YtoiffnoiliknnaaDoor.Reg Go.Proofs.YtoiffnoiliknnaaDoor.Rout Go.Proofs.YtoiffnoiliknnaaDoor.Node Go.Proofs.YtoiffnoiliknnaaDoorW.PrintWords Go.Sort
/-- A node with where its bytes lie; its path is short. -/
abbrev El := { e : Nd × Option Addr × Nat // e.1.f1.size ≤ 1024 }
instance : Inhabited El := ⟨⟨(zN, none, 0), by decide⟩⟩
def encE (e : El) : List Value := [.int .i64 e.1.1.f0, .string e.1.1.f1, .slice e.1.2.1 e.1.1.f2.length e.1.2.2, .int .i64 e.1.1.f3, .int .i64 e.1.1.f4]
theorem encE_len (e : El) : (encE e).length = 5 := rfl
theorem encE_one (e : El) : ∀ v ∈ encE e, v.oneCell' = true := by
  intro v hv
  simp [encE] at hv
  rcases hv with rfl | rfl | rfl | rfl | rfl <;> rfl
def cmpE (x y : El) : Int := compB x.1.1.f1 y.1.1.f1
theorem swoE : SWO (ltOf cmpE) where
  irrefl x := by unfold ltOf cmpE; rw [compB_self]; rfl
  trans x y z h1 h2 := by
    unfold ltOf cmpE at *
    rw [decide_eq_true_eq] at *
    exact compB_trans h1 h2
  ntrans x y z h1 h2 := by
    unfold ltOf cmpE at *
    rw [decide_eq_false_iff_not] at *
    have := compB_ntrans (Int.not_lt.1 h1) (Int.not_lt.1 h2)
    omega
theorem cmpLays (g : Nat) (n : Nat) (w : World) : CmpLays Tryd.prog 38 #[] encE 5 cmpE g 0 n w :=
  fun _ _ _ _ x y => less_grow x.1.1 y.1.1 _ _ _ x.2 y.2
/-- The world behind a sort: the row's block turned, all others as they were. -/
theorem sort_world (W : World) (g m n cap : Nat) (cur : Array Value) (d : Array El) (os : Array Obj) (hh : W.heap[g]? = some (.cells cur 35 (0, 0))) (hsz : cur.size = cap * 5) (hn : d.size = n) (hle : n ≤ cap) :
    ∃ cur', (sortWorldK encE 5 W g 0 m d os).heap[g]? = some (.cells cur' 35 (0, 0)) ∧ cur'.size = cap * 5 ∧ (∀ j, j < n → (cur'.toList.drop (j * 5)).take 5 = encE d[j]!) ∧ W.grownBy (sortWorldK encE 5 W g 0 m d os) (some g) := by
  have hg : g < W.heap.size := by
    rcases Nat.lt_or_ge g W.heap.size with h | h
    · exact h
    · rw [Array.getElem?_eq_none h] at hh; cases hh
  have hheap : (sortWorldK encE 5 W g 0 m d os).heap = W.heap.modify g (onCells (putCells id 0 (flatK encE 5 d))) ++ os := rfl
  refine ⟨putCells id 0 (flatK encE 5 d) cur, ?_, ?_, ?_, rfl, rfl, rfl, ?_, ?_⟩
  · rw [hheap, Array.getElem?_append_left (by simp; exact hg), Array.getElem?_modify, if_pos rfl, hh]
    rfl
  · unfold putCells; simp [hsz]
  · intro j hj
    have hj5 : j * 5 + 5 ≤ cap * 5 := by have : j + 1 ≤ cap := by omega
                                         omega
    refine List.ext_getElem? fun i => ?_
    rw [List.getElem?_take]
    by_cases hi : i < 5
    · rw [if_pos hi, List.getElem?_drop, Array.getElem?_toList]
      unfold putCells
      rw [Array.getElem?_mapIdx, Array.getElem?_eq_getElem (show j * 5 + i < cur.size by omega)]
      have h1 : 0 ≤ j * 5 + i ∧ j * 5 + i < 0 + (flatK encE 5 d).size := by rw [size_flatK, hn]; omega
      simp only [Option.map_some, if_pos h1, Nat.sub_zero, id]
      rw [get_flatK _ _ _ _ (by rw [hn]; omega), show (j * 5 + i) / 5 = j by omega, show (j * 5 + i) % 5 = i by omega]
      rw [List.getElem?_eq_getElem (show i < (encE d[j]!).length from hi), getElem!_pos (encE d[j]!) i hi]
      rfl
    · rw [if_neg hi, List.getElem?_eq_none (show (encE d[j]!).length ≤ i by rw [encE_len]; omega)]
  · rw [hheap]; simp
  · intro k hk hne
    rw [hheap, Array.getElem?_append_left (by simp; exact hk), Array.getElem?_modify, if_neg (fun e => hne (by rw [e]))]
theorem toN (l : List Nd) (d : Array El) (hd : d.size = l.length) (h : ∀ j, j < l.length → l[j]? = some d[j]!.1.1) : l = d.toList.map (fun e => e.1.1) := by
  refine List.ext_getElem? fun i => ?_
  by_cases hi : i < l.length
  · rw [h i hi, List.getElem?_map, Array.getElem?_toList, Array.getElem?_eq_getElem (by omega), getElem!_pos d i (by omega)]
    rfl
  · rw [List.getElem?_eq_none (by omega), List.getElem?_eq_none (by simp; omega)]
set_option maxHeartbeats 1000000 in
theorem sort_calls (base g cap : Nat) (l : List Nd) (W : World) (h : kN.R 35 W base (fun _ => True) (.slice (some ⟨g, 0, none⟩) l.length cap) l) (hp : ∀ x ∈ l, x.f1.size ≤ 1024) (hl : l.length < 4611686018427387904) :
    Calls Tryd.prog 37 #[.slice (some ⟨g, 0, none⟩) l.length cap, .func (.func 38) #[] #[]] W fun e w' => e = .returned (.tuple #[]) ∧ ∃ m : List Nd, l.Perm m ∧ Sorted m ∧ kN.R 35 w' base (fun _ => True) (.slice (some ⟨g, 0, none⟩) l.length cap) m ∧ W.grownBy w' (some g) := by
  obtain ⟨cells, how, he⟩ := GRow.of_made h
  obtain ⟨hbase, hgl⟩ := (GRow.of_made h).lt
  obtain ⟨hcl, hform⟩ := how
  obtain ⟨cur, hcur, hncap, hcapm, hcs, hct⟩ : ∃ cur, W.heap[g]? = some (.cells cur 35 (0, 0)) ∧ l.length ≤ cap ∧ cap ≤ maxLen ∧ cur.size = cap * 5 ∧ cur.toList.take (l.length * 5) = cells := by
    rcases hform with ⟨h', _⟩ | ⟨g', cap', cur, h', _, hh, h3, h4, h5, h6⟩
    · cases h'
    · injection h' with h1 _ h2
      injection h1 with h1
      injection h1 with h1
      subst h1 h2
      exact ⟨cur, hh, h3, h4, h5, h6⟩
  have each : ∀ j, j < l.length → ∃ e : El, l[j]? = some e.1.1 ∧ (cells.drop (j * 5)).take 5 = encE e := by
    intro j hj
    obtain ⟨v2, hcells, hR⟩ := kN_openM (he j hj _ (List.getElem?_eq_getElem hj))
    obtain ⟨A2, c2, rfl⟩ := Kd.R_slice hR
    exact ⟨⟨(l[j], A2, c2), hp _ (List.getElem_mem hj)⟩, List.getElem?_eq_getElem hj, hcells⟩
  obtain ⟨f, hf⟩ : ∃ f : Nat → El, ∀ j, j < l.length → l[j]? = some (f j).1.1 ∧ (cells.drop (j * 5)).take 5 = encE (f j) := by
    refine ⟨fun j => if h : j < l.length then Classical.choose (each j h) else default, fun j hj => ?_⟩
    dsimp only
    rw [dif_pos hj]
    exact Classical.choose_spec (each j hj)
  obtain ⟨d, hds, hdj⟩ : ∃ d : Array El, d.size = l.length ∧ ∀ j, j < l.length → d[j]! = f j := by
    refine ⟨Array.ofFn (n := l.length) (fun i => f i.1), by simp, fun j hj => ?_⟩
    rw [getElem!_pos _ j (by simpa using hj)]
    simp
  have hN := toN l d hds (fun j hj => by rw [hdj j hj]; exact (hf j hj).1)
  have hH : HoldsK encE 5 W g 0 d := by
    intro t ht
    rw [size_flatK, hds] at ht
    have hj : t / 5 < l.length := by omega
    rw [get_flatK _ _ _ _ (by rw [hds]; exact ht), hdj _ hj, Nat.zero_add]
    refine ⟨?_, by simp [World.frozen?, hcur]⟩
    have h1 := (hf _ hj).2
    have h2 : (encE (f (t / 5)))[t % 5]? = cur[t]? := by
      rw [← h1, List.getElem?_take, if_pos (by omega), List.getElem?_drop, ← hct, List.getElem?_take, if_pos (by omega), Array.getElem?_toList, show t / 5 * 5 + t % 5 = t by omega]
    have h3 : t % 5 < (encE (f (t / 5))).length := by rw [encE_len]; omega
    rw [List.getElem?_eq_getElem h3] at h2
    show W.cell? ⟨g, t, none⟩ = some ((encE (f (t / 5)))[t % 5]!)
    rw [getElem!_pos (encE (f (t / 5))) (t % 5) h3, h2]
    simp [World.cell?, hcur]
  have eg : ∀ args w, (callFunc 38 args).run Tryd.prog w = .ok (.enter 38 args) w := enters_of Tryd.func38 (by kernel_rfl) rfl
  have HS := AnyQ.slices_SortFunc Tryd.laysSortF 5 Tryd.isAgg35 Tryd.sizeOf35 encE encE_len encE_one cmpE swoE 38 #[] g 0 cap d W eg (cmpLays g d.size W) hH hgl (by omega)
  change Calls Tryd.prog 37 _ _ _ at HS
  rw [hds] at HS
  refine HS.mono ?_
  rintro e w' ⟨rfl, d', n, os, hperm, hsort, rfl⟩
  obtain ⟨hsz', _, hpm⟩ := hperm
  have hex : ∀ a : Array El, a.size = l.length → a.extract 0 l.length = a := fun a ha => by rw [← ha]; simp
  rw [hex d' (by omega), hex d hds] at hpm
  obtain ⟨cur', hc1, hc2, hc3, hgr⟩ := sort_world W g n l.length cap cur d' os hcur hcs (by omega) hncap
  refine ⟨rfl, d'.toList.map (fun e => e.1.1), ?_, ?_, ?_, hgr⟩
  · rw [hN]; exact (hpm.symm.map _)
  · unfold Sorted
    rw [List.pairwise_iff_getElem]
    intro i j hi hj hij
    simp only [List.length_map, Array.length_toList] at hi hj
    have := hsort i j (Nat.zero_le _) hij (by omega)
    unfold ltOf cmpE at this
    rw [decide_eq_false_iff_not, getElem!_pos d' j hj, getElem!_pos d' i hi] at this
    simp only [List.getElem_map, Array.getElem_toList]
    omega
  · have hlm : (d'.toList.map (fun e => e.1.1)).length = l.length := by simp; omega
    have hG : GRow (sortWorldK encE 5 W g 0 n d' os) base g cap (d'.toList.map (fun e => e.1.1)).length (fun j cs => ∀ x, (d'.toList.map (fun e => e.1.1))[j]? = some x → kN.M (sortWorldK encE 5 W g 0 n d' os) base (fun q => True ∧ q ≠ g) x cs) := by
      rw [hlm]
      refine ⟨cur'.toList.take (l.length * 5), ⟨by rw [List.length_take, show cur'.toList.length = cap * 5 from hc2]; omega, .inr ⟨g, cap, cur', rfl, hbase, hc1, hncap, hcapm, hc2, rfl⟩⟩, fun j hj x hx => ?_⟩
      have hj' : j < d'.size := by omega
      rw [List.getElem?_map, Array.getElem?_toList, Array.getElem?_eq_getElem hj'] at hx
      obtain rfl := Option.some.inj hx
      have hmem : d'[j] ∈ d.toList := hpm.subset (by simp)
      obtain ⟨i, hi, hid⟩ := List.getElem_of_mem hmem
      simp only [Array.length_toList] at hi
      have hi' : i < l.length := by omega
      have h1 := he i hi' _ (hf i hi').1
      have h2 : f i = d'[j] := by rw [← hdj i hi', getElem!_pos d i hi]; simpa using hid
      rw [(hf i hi').2, h2] at h1
      rw [List.drop_take, List.take_take, show min 5 (l.length * 5 - j * 5) = 5 by omega, hc3 j hj, getElem!_pos d' j hj']
      exact Kd.M_step (kN.M_mono (fun q hq => hq) h1) (fun q hq hlt => hgr.block q hlt (fun e => hq.2 (by injection e)))
    have hm := GRow.made (ok := fun _ => True) hG trivial
    rw [hlm] at hm
    exact hm
theorem sort_any (base : Nat) (v : Value) (l : List Nd) (W : World) (h : kN.R 35 W base (fun _ => True) v l) (hp : ∀ x ∈ l, x.f1.size ≤ 1024) (hl : l.length < 4611686018427387904) :
    Calls Tryd.prog 37 #[v, .func (.func 38) #[] #[]] W fun e w' => e = .returned (.tuple #[]) ∧ ∃ m : List Nd, l.Perm m ∧ Sorted m ∧ kN.R 35 w' base (fun _ => True) v m ∧ W.grownBy w' v.ownBlock := by
  by_cases h0 : l.length = 0
  · obtain rfl : l = [] := List.eq_nil_of_length_eq_zero h0
    obtain ⟨A, c, rfl⟩ := Kd.R_slice h
    have hN := AnyF.slices_SortFunc_none Tryd.laysSortF A c (.func (.func 38) #[] #[]) W
    change Calls Tryd.prog 37 _ _ _ at hN
    refine hN.mono ?_
    rintro e w' ⟨rfl, rfl⟩
    exact ⟨rfl, [], .nil, List.Pairwise.nil, h, ⟨rfl, rfl, rfl, Nat.le_refl _, fun _ _ _ => rfl⟩⟩
  · obtain ⟨g, cap, rfl, _⟩ := Kd.R_form h (by omega)
    exact sort_calls base g cap l W h hp hl
end Go.Proofs.YtoiffnoiliknnaaDoor.Tree
set_option linter.unusedVariables false
set_option linter.unusedSimpArgs false
namespace Go.Proofs.YtoiffnoiliknnaaDoor.Tree
open Go.RowKit Go.BigFrame Go.Maps Go.Proofs.YtoiffnoiliknnaaDoor.Reg Go.Proofs.YtoiffnoiliknnaaDoor.Rout Go.Proofs.YtoiffnoiliknnaaDoor.Node Go.Proofs.YtoiffnoiliknnaaDoorW.PrintWords Go.Proofs.YtoiffnoiliknnaaDoorW.PrintLast Go.Proofs.YtoiffnoiliknnaaDoorW.PrintMore
/-- A row that is not the map's block. -/
abbrev RN (mb : Nat) (W : World) (base : Nat) (v : Value) (l : List Nd) : Prop := kN.R 35 W base (fun q => q ≠ mb) v l
set_option maxRecDepth 100000 in
set_option maxHeartbeats 16000000 in
theorem grow_calls (A : Option Addr) (c : Nat) (l : List Nd) (w : World) (hC : kN.C w A l.length l) (hok : ∀ x ∈ l, Ok x) (hl : l.length * 64 ≤ 140737488355328) (hg : bad [] l = 0 → (grown l).length * 64 ≤ 140737488355328) :
    Calls Tryd.prog 17 #[.slice A l.length c] w fun e w' => ∃ v e0 m, e = .returned (.tuple #[v, .int .i64 e0]) ∧ kN.R 35 w' w.heap.size (fun _ => True) v m ∧ Below w.heap.size w w' ∧ GrowSpec l e0 m := by
  have HC := Lib.hid hC
  have HOK := Lib.hid hok
  have HG := Lib.hid hg
  have hmm := @run_makeMap Tryd.prog
  clear hC hok hg
  go_enter Tryd.func17, Tryd.ntmps17
  go_wp2
  clear hmm
  go_loopw [17] (fun i wr => ∃ k : Nat, i = .int .i64 k ∧ k ≤ l.length ∧ Hid (owns wr w.heap.size k (foldT (paths (l.take k)))) ∧ Below w.heap.size w wr ∧ Hid (bad (paths (l.take k)) (l.drop k) = bad [] l)) (fun i _ => (l.length - intOf i).toNat)
  case atStart => exact ⟨0, rfl, by omega, Lib.hid (World.ownsMap_made _ _ _ _), balloc (Below.refl _ _) _, Lib.hid rfl⟩
  case round =>
    obtain ⟨k, rfl, hk, hown, hb, hbd⟩ := hrel
    by_cases hlt : k < l.length
    · obtain ⟨ad, A2, c2, hA, c0, c1, c2', c3, c4, hl2, hd⟩ := atN (Kd.C_below HC.out hb) (k : Int) (by omega) (by omega)
      subst hA
      have hok := HOK.out _ (rdN_mem l k hlt)
      have hps := hok.ps
      have HOKX := Lib.hid hok
      have hst := Lib.hid (bad_step l k hlt)
      have htk := Lib.hid (take_rdN l k hlt)
      have HD := Lib.hid hd
      have hown2 := Lib.hid hown.out
      rw [Int.toNat_natCast] at c0 c1 c2' c3 c4
      clear hok hd hown
      generalize rdN l (k : Int) = x at *
      have HV := Lib.hid (fun W => valid_calls x.f1 W (by omega))
      cases hv : validB x.f1
      · have HR := Lib.hid (show bad [] l = 20 by rw [← hbd.out, hst.out, if_pos hv])
        rw [hv] at HV
        clear hst hbd htk hv
        go_wp2_with (go_at_call 28; refine (HV.out _).mono ?_; rintro e w1 ⟨rfl, hb1⟩)
        go_ret2
        exact ⟨_, _, _, rfl, Kd.R_nil _ _ _ _ _, bgo (balloc hb _) hb1, .inl ⟨by rw [HR.out]; decide, HR.out.symm, rfl⟩⟩
      · have hvs := valid_size _ hv
        rw [hv] at HV
        have hst2 := Lib.hid (show bad (paths (l.take k)) (l.drop k) = if mayB x = false ∨ has (paths (l.take k)) x.f1 = true then 21 else bad (paths (l.take (k + 1))) (l.drop (k + 1)) by rw [hst.out, if_neg (by rw [hv]; simp)])
        clear hst hv
        have m0 : (wr.alloc (.cells #[.int .i64 x.f0, .string x.f1, .slice A2 x.f2.length c2, .int .i64 x.f3, .int .i64 x.f4] 35)).cell? ⟨wr.heap.size, 0, none⟩ = some (.int .i64 x.f0) := by simp
        have m1 : (wr.alloc (.cells #[.int .i64 x.f0, .string x.f1, .slice A2 x.f2.length c2, .int .i64 x.f3, .int .i64 x.f4] 35)).cell? ⟨wr.heap.size, 1, none⟩ = some (.string x.f1) := by simp
        have m2 : (wr.alloc (.cells #[.int .i64 x.f0, .string x.f1, .slice A2 x.f2.length c2, .int .i64 x.f3, .int .i64 x.f4] 35)).cell? ⟨wr.heap.size, 2, none⟩ = some (.slice A2 x.f2.length c2) := by simp
        have m3 : (wr.alloc (.cells #[.int .i64 x.f0, .string x.f1, .slice A2 x.f2.length c2, .int .i64 x.f3, .int .i64 x.f4] 35)).cell? ⟨wr.heap.size, 3, none⟩ = some (.int .i64 x.f3) := by simp
        have m4 : (wr.alloc (.cells #[.int .i64 x.f0, .string x.f1, .slice A2 x.f2.length c2, .int .i64 x.f3, .int .i64 x.f4] 35)).cell? ⟨wr.heap.size, 4, none⟩ = some (.int .i64 x.f4) := by simp
        have HM0 := Lib.hid m0
        have HM1 := Lib.hid m1
        have HM2 := Lib.hid m2
        have HM3 := Lib.hid m3
        have HM4 := Lib.hid m4
        clear m0 m1 m2 m3 m4
        go_upto_region 7 with (go_at_call 28; refine (HV.out _).mono ?_; rintro e w1 ⟨rfl, hb1⟩; have n0 := bkeep hb1 HM0.out; have n1 := bkeep hb1 HM1.out; have n2 := bkeep hb1 HM2.out; have n3 := bkeep hb1 HM3.out; have n4 := bkeep hb1 HM4.out; have B1 := Lib.hid (bgo (balloc (Below.refl wr.heap.size wr) _) hb1); clear hb1)
        clear c0 c1 c2' c3 c4 HM0 HM1 HM2 HM3 HM4 HV
        have HM := Lib.hid (fun (W : World) (h : Below w1.heap.size w1 W) => may_calls x A2 c2 W (Kd.C_below HD.out (bgo B1.out h)) HOKX.out)
        have HLK := Lib.hid (fun (W : World) (h : Below w1.heap.size w1 W) => ownsT_look (w := W) (hown2.out.kept (row := none) (grownBy_of_below (bgo B1.out h)) (by simp)) x.f1 (by omega))
        cases hm : mayB x
        · have HR := Lib.hid (show bad [] l = 21 by rw [← hbd.out, hst2.out, if_pos (.inl hm)])
          rw [hm] at HM
          clear hst2 hbd htk hm HLK
          go_wp2_with (go_at_call 30; refine (HM.out _ (Below.refl _ _)).mono ?_; rintro e w2 ⟨rfl, hb2⟩)
          go_ret2
          exact ⟨_, _, _, rfl, Kd.R_nil _ _ _ _ _, bgo hb (bgo B1.out hb2), .inl ⟨by rw [HR.out]; decide, HR.out.symm, rfl⟩⟩
        · rw [hm] at HM
          cases hs : has (paths (l.take k)) x.f1
          · have HR := Lib.hid (show bad (paths (l.take (k + 1))) (l.drop (k + 1)) = bad [] l by rw [← hbd.out, hst2.out, if_neg (by rw [hm, hs]; simp)])
            rw [hs] at HLK
            clear hst2 hbd hm hs
            go_wp2_with (first
              | (go_at_call 30; refine (HM.out _ (Below.refl _ _)).mono ?_; rintro e w2 ⟨rfl, hb2⟩; have hlk := HLK.out _ hb2; have r1 := bkeep hb2 n1; have B2 := Lib.hid (bgo B1.out hb2); have HO2 := Lib.hid (show owns w2 w.heap.size k (foldT (paths (l.take k))) from hown2.out.kept (row := none) (grownBy_of_below B2.out) (by simp)); clear hb2 n0 n1 n2 n3 n4)
              | (at_mapUpdate; refine wpList_mapUpdate_own _ rfl _ _ _ 52 rfl 9 4 key9 Tryd.underlying52 _ w.heap.size k _ rfl HO2.out (by unfold maxLen; omega) _ _ _ rfl rfl (Go.WideMaps.keyOf_string_mk Tryd.underlying9 (by unfold maxLen; omega)) _ [] (plainElem_bool Tryd.underlying4 _) ?_; intro w5 hown5 hgr5))
            have HB5 := Lib.hid ((bgo hb B2.out).grown hgr5 (bgo hb B2.out).size (fun j e => by injection e with e; omega))
            have HO5 := Lib.hid (show owns w5 w.heap.size (k + 1) (foldT (paths (l.take (k + 1)))) by rw [htk.out]; unfold paths; rw [List.map_append]; show owns w5 w.heap.size (k + 1) (foldT (paths (l.take k) ++ [x.f1])); rw [foldT_snoc]; exact hown5)
            clear hown5 hgr5 r1 hlk
            go_wp2
            go_roundw
            case rel => exact ⟨k + 1, by go_num, by omega, HO5, HB5.out, HR⟩
            case measure => simp [intOf]; omega
          · have HR := Lib.hid (show bad [] l = 21 by rw [← hbd.out, hst2.out, if_pos (.inr hs)])
            rw [hs] at HLK
            clear hst2 hbd htk hm hs
            go_wp2_with (go_at_call 30; refine (HM.out _ (Below.refl _ _)).mono ?_; rintro e w2 ⟨rfl, hb2⟩; have hlk := HLK.out _ hb2; have r1 := bkeep hb2 n1)
            go_ret2
            exact ⟨_, _, _, rfl, Kd.R_nil _ _ _ _ _, bgo hb (bgo B1.out hb2), .inl ⟨by rw [HR.out]; decide, HR.out.symm, rfl⟩⟩
    · obtain rfl : k = l.length := by omega
      have hb0 : bad [] l = 0 := by rw [← hbd.out, List.drop_length]; rfl
      have HB0 := Lib.hid hb0
      have hgl := HG.out hb0
      have HGO := Lib.hid (grown_ok l HOK.out hb0)
      have HO1 := Lib.hid (show owns wr w.heap.size l.length (foldT (paths l)) by have := hown.out; rwa [List.take_length] at this)
      have HLE := Lib.hid (lent_calls A c l wr (Kd.C_below HC.out hb) HOK.out hl)
      have hmb : w.heap.size < wr.heap.size := by have := HO1.out.lt; omega
      clear hown hbd hk hlt hb0
      go_upto_region 12 with (go_at_call 19; refine HLE.out.mono ?_; rintro e w1 ⟨v, rfl, hR, hb1⟩; have HR1 := Lib.hid hR; have HB1 := Lib.hid hb1; clear hR hb1)
      have HR2 := Lib.hid (show RN w.heap.size w1 w.heap.size v (l ++ ([] : List ByteArray).map folder) by
        rw [List.map_nil, List.append_nil]
        exact Kd.R_lower (Kd.R_mono (Kd.R_bound HR1.out) (fun q hq => by have := hq.2.1; omega)) (by omega))
      have HO2 := Lib.hid (show owns w1 w.heap.size (l.length + ([] : List ByteArray).length) (foldT (paths l ++ [])) by
        rw [List.append_nil]
        exact HO1.out.kept (row := none) (grownBy_of_below HB1.out) (by simp))
      have HB2 := Lib.hid (bgo hb HB1.out)
      clear HR1 HO1 HLE
      go_wp2
      go_loopw [7, 44] (fun v7 i w2 => ∃ (k : Nat) (u : List ByteArray), i = .int .i64 k ∧ k ≤ l.length ∧ Hid (RN w.heap.size w2 w.heap.size v7 (l ++ u.map folder)) ∧ Hid (owns w2 w.heap.size (l.length + u.length) (foldT (paths l ++ u))) ∧ Hid (Below w.heap.size w w2) ∧ Hid (u ++ news (paths l ++ u) (l.drop k) = news (paths l) l)) (fun _ i _ => (l.length - intOf i).toNat)
      case atStart => exact ⟨0, [], rfl, by omega, HR2, HO2, HB2, Lib.hid (by rw [List.append_nil]; rfl)⟩
      case round =>
        obtain ⟨k, u, rfl, hk, hR, hO, hB, hU⟩ := hrel
        by_cases hlt : k < l.length
        · obtain ⟨ad, A2, c2, hA, c0, c1, c2', c3, c4, hl2, hd⟩ := atN (Kd.C_below HC.out hB.out) (k : Int) (by omega) (by omega)
          subst hA
          have hvs := HGO.out.2 _ (List.mem_append_left _ (rdN_mem l k hlt))
          have hst := Lib.hid (news_step l k (paths l ++ u) hlt)
          rw [Int.toNat_natCast] at c0 c1 c2' c3 c4
          clear hd
          generalize rdN l (k : Int) = x at *
          have HP := Lib.hid (fun W => parent_calls x.f1 W (by omega))
          go_upto_region 16 with (go_at_call 29; refine (HP.out _).mono ?_; rintro e w3 ⟨rfl, hb3⟩; have HB3 := Lib.hid (bgo (balloc (Below.refl _ _) _) hb3); clear hb3)
          have HR3 := Lib.hid (show RN w.heap.size w3 w.heap.size u7 (l ++ (u ++ ([] : List ByteArray)).map folder) by rw [List.append_nil]; exact Kd.R_below hR.out HB3.out)
          have HO3 := Lib.hid (show owns w3 w.heap.size (l.length + (u ++ ([] : List ByteArray)).length) (foldT (paths l ++ (u ++ ([] : List ByteArray)))) by rw [List.append_nil]; exact hO.out.kept (row := none) (grownBy_of_below HB3.out) (by simp))
          have HB4 := Lib.hid (bgo hB.out HB3.out)
          have HT := Lib.hid (show u ++ (ups (paths l ++ u) x.f1 (x.f1.size + 1) ++ news ((paths l ++ u) ++ ups (paths l ++ u) x.f1 (x.f1.size + 1)) (l.drop (k + 1))) = news (paths l) l by rw [← hst.out]; exact hU.out)
          have hgn : (grown l).length = l.length + (news (paths l) l).length := by unfold grown; rw [List.length_append, List.length_map]
          have hlen := congrArg List.length HT.out
          rw [List.length_append, List.length_append] at hlen
          have hnb : l.length + u.length + (ups (paths l ++ u) x.f1 (x.f1.size + 1)).length ≤ 2199023255552 := by omega
          have hnb2 : l.length + u.length ≤ 2199023255552 := by omega
          clear hst hU hR hO hB HB3 c0 c1 c2' c3 c4 HP hlen hgn
          go_loopw [7, 10, 11] (fun v7 p ok w4 => ∃ (e : List ByteArray) (cur : ByteArray) (f : Nat), p = .string (parB cur).1 ∧ ok = .bool (parB cur).2 ∧ cur.size < f ∧ cur.size ≤ 1024 ∧ Hid (RN w.heap.size w4 w.heap.size v7 (l ++ (u ++ e).map folder)) ∧ Hid (owns w4 w.heap.size (l.length + (u ++ e).length) (foldT (paths l ++ (u ++ e)))) ∧ Hid (Below w.heap.size w w4) ∧ Hid (e ++ ups ((paths l ++ u) ++ e) cur f = ups (paths l ++ u) x.f1 (x.f1.size + 1))) (fun _ p ok _ => toGo p ok)
          case atStart => exact ⟨[], x.f1, x.f1.size + 1, rfl, rfl, by omega, hvs, HR3, HO3, HB4, Lib.hid (by rw [List.append_nil]; rfl)⟩
          case round =>
            obtain ⟨e, cur, f, rfl, rfl, hf, hcs, hR, hO, hB, hE⟩ := hrel
            obtain ⟨f', rfl⟩ : ∃ f', f = f' + 1 := ⟨f - 1, by omega⟩
            have hps := Nat.le_trans (parB_size cur) hcs
            have hup := Lib.hid (show ups ((paths l ++ u) ++ e) cur (f' + 1) = if (parB cur).2 = true ∧ has ((paths l ++ u) ++ e) (parB cur).1 = false then (parB cur).1 :: ups (((paths l ++ u) ++ e) ++ [(parB cur).1]) (parB cur).1 f' else [] from rfl)
            have hless := parB_less cur
            have HLK := Lib.hid (ownsT_look (w := wr) (by have := hO.out; rw [← List.append_assoc] at this; exact this) (parB cur).1 (by omega))
            generalize hpe : (parB cur).1 = pa at *
            cases hinner : (parB cur).2
            · have hEnd := Lib.hid (show e = ups (paths l ++ u) x.f1 (x.f1.size + 1) by rw [← hE.out, hup.out, if_neg (by rw [hinner]; simp), List.append_nil])
              have HU := Lib.hid (show (u ++ e) ++ news (paths l ++ (u ++ e)) (l.drop (k + 1)) = news (paths l) l by rw [← HT.out, ← hEnd.out, List.append_assoc, List.append_assoc])
              clear hup hless hE HLK hpe hinner
              go_wp2
              go_roundw
              case rel => exact ⟨k + 1, u ++ e, by go_num, by omega, hR, by have := hO; exact this, hB, HU⟩
              case measure => simp [intOf]; omega
            · cases hhas : has ((paths l ++ u) ++ e) pa
              · rw [hhas] at HLK
                have hlk := HLK.out
                have hup2 := Lib.hid (show ups ((paths l ++ u) ++ e) cur (f' + 1) = pa :: ups (((paths l ++ u) ++ e) ++ [pa]) pa f' by rw [hup.out, if_pos ⟨hinner, hhas⟩])
                have hpl : pa.size < cur.size := hless hinner
                have hlen2 := congrArg List.length hE.out
                rw [hup2.out, List.length_append, List.length_cons] at hlen2
                have hN : l.length + (u ++ e).length + 1 ≤ 2199023255552 := by rw [List.length_append]; omega
                have HEn := Lib.hid (show (e ++ [pa]) ++ ups ((paths l ++ u) ++ (e ++ [pa])) pa f' = ups (paths l ++ u) x.f1 (x.f1.size + 1) by rw [← hE.out, hup2.out, ← List.append_assoc ((paths l ++ u)) e [pa], List.append_assoc e]; rfl)
                have hrl : (l ++ (u ++ e).map folder).length = l.length + (u ++ e).length := by rw [List.length_append, List.length_map]
                have HPP := Lib.hid (fun W => parent_calls pa W (by omega))
                have hsn : (u ++ e).map folder ++ [folder pa] = (u ++ (e ++ [pa])).map folder := by simp only [List.map_append, List.append_assoc, List.map_cons, List.map_nil]
                clear hup hup2 hE hlen2 HLK hpe hhas hinner hless
                go_upto_region 17 with (first
                  | (at_mapUpdate; refine wpList_mapUpdate_own _ rfl _ _ _ 52 rfl 9 4 key9 Tryd.underlying52 _ w.heap.size (l.length + (u ++ e).length) _ rfl hO.out (by unfold maxLen; omega) _ _ _ rfl rfl (Go.WideMaps.keyOf_string_mk Tryd.underlying9 (by unfold maxLen; omega)) _ [] (plainElem_bool Tryd.underlying4 _) ?_; intro w5 hown5 hgr5; have HO5 := Lib.hid hown5; have HGR5 := Lib.hid hgr5; have HR5 := Lib.hid (Kd.R_step hR.out (fun q hq hlt => hgr5.block q hlt (fun e => hq (by injection e)))); have HB5 := Lib.hid (hB.out.grown hgr5 hB.out.size (fun j e => by injection e with e; omega)); have hs5 := hown5.lt; clear hown5 hgr5)
                  | (at_builtin; refine Kd.R_append kN (w0 := w) w.heap.size rfl (.tmp 68) (.tmp 71) 22 35 (.agg #[.int .i64 0, .string ⟨#[]⟩, .slice none 0 0, .int .i64 0, .int .i64 0]) 64 rfl Tryd.underlying22 infoN rfl (show 0 < 5 by decide) (by omega) u7 (l ++ (u ++ e).map folder) (folder pa) [.int .i64 1, .string pa, .slice none 0 0, .int .i64 493, .int .i64 0] (fun q => q ≠ w.heap.size) (fun _ => False) rfl rfl (kN_mkM _ _ _ (folder pa) (v2 := .slice none 0 0) (Kd.R_nil _ _ _ _ _)) (fun _ h => h.elim) (fun _ h => by omega) HR5.out HB5.out (by omega) (by omega) ?_; intro v6 w6 hR6 hb6 hg6 hat6; have HR6 := Lib.hid hR6; have HB6 := Lib.hid hb6; have HG6 := Lib.hid hg6; clear hR6 hb6 hg6 hat6))
                have HO6 := Lib.hid (show owns w6 w.heap.size (l.length + (u ++ (e ++ [pa])).length) (foldT (paths l ++ (u ++ (e ++ [pa])))) by
                  have h1 := HO5.out.kept HG6.out (fun e => HR5.out.1 _ e.symm rfl)
                  rw [← foldT_snoc, List.append_assoc, List.append_assoc] at h1
                  have h2 : l.length + (u ++ e).length + 1 = l.length + (u ++ (e ++ [pa])).length := by simp only [List.length_append, List.length_singleton]; omega
                  rw [h2] at h1
                  exact h1)
                have HR7 := Lib.hid (show RN w.heap.size w6 w.heap.size v6 (l ++ (u ++ (e ++ [pa])).map folder) by rw [← hsn, ← List.append_assoc]; exact HR6.out)
                have hlp := parB_less pa
                clear HO5 HGR5 HR5 HB5 HR6 HG6 hR hO hB hlk hsn hN hrl
                generalize hp1 : (parB pa).1 = p1 at *
                generalize hp2 : (parB pa).2 = p2 at *
                go_wp2_with (go_at_call 29; refine (HPP.out _).mono ?_; rintro e7 w7 ⟨rfl, hb7⟩; have HB7 := Lib.hid (bgo HB6.out hb7); have HR8 := Lib.hid (Kd.R_below HR7.out hb7); have HO8 := Lib.hid (show owns w7 w.heap.size (l.length + (u ++ (e ++ [pa])).length) (foldT (paths l ++ (u ++ (e ++ [pa])))) from HO6.out.kept (row := none) (grownBy_of_below hb7) (by simp)); clear hb7)
                go_roundw
                case rel => exact ⟨e ++ [pa], pa, f', by rw [hp1], by rw [hp2], by omega, hps, HR8, HO8, HB7, HEn⟩
                case measure =>
                  show toGo (.string p1) (.bool p2) < toGo (.string pa) (.bool true)
                  cases p2
                  · show 0 < pa.size + 1; omega
                  · show p1.size + 1 < pa.size + 1; have := hlp rfl; omega
              · rw [hhas] at HLK
                have hlk := HLK.out
                have hEnd := Lib.hid (show e = ups (paths l ++ u) x.f1 (x.f1.size + 1) by rw [← hE.out, hup.out, if_neg (by rw [hhas]; simp), List.append_nil])
                have HU := Lib.hid (show (u ++ e) ++ news (paths l ++ (u ++ e)) (l.drop (k + 1)) = news (paths l) l by rw [← HT.out, ← hEnd.out, List.append_assoc, List.append_assoc])
                clear hup hless hE HLK hpe hinner hhas
                go_wp2
                go_roundw
                case rel => exact ⟨k + 1, u ++ e, by go_num, by omega, hR, by have := hO; exact this, hB, HU⟩
                case measure => simp [intOf]; omega
        · obtain rfl : k = l.length := by omega
          have hun : u = news (paths l) l := by
            have := hU.out
            rw [List.drop_length] at this
            simpa [news] using this
          subst hun
          have HRG := Lib.hid (show kN.R 35 wr w.heap.size (fun _ => True) u7 (grown l) from Kd.R_mono hR.out (fun _ _ => trivial))
          have hln : (grown l).length ≤ 2199023255552 := by omega
          have HS := Lib.hid (sort_any w.heap.size u7 (grown l) wr HRG.out HGO.out.2 (by omega))
          have hgr := Lib.hid (Kd.R_base2 HRG.out)
          clear hU hR hO hlt hk
          go_upto_region 22 with (go_at_call 37; refine HS.out.mono ?_; rintro e8 w8 ⟨rfl, m, hpm, hso, hR8, hg8⟩; have HPM := Lib.hid hpm; have HSO := Lib.hid hso; have HR8 := Lib.hid hR8; have HG8 := Lib.hid hg8; clear hpm hso hR8 hg8)
          have HB8 := Lib.hid (hB.out.grown HG8.out hB.out.size (fun q e => by
            rcases hgr.out with h | ⟨k, h, h2⟩
            · rw [h] at e; cases e
            · rw [h] at e; injection e with e; omega))
          obtain ⟨A9, c9, rfl, _, hC9⟩ := Kd.R_reads HR8.out
          have HC9 := Lib.hid hC9
          have hml := HPM.out.length_eq
          have HCK := Lib.hid (check_calls A9 c9 m w8 hC9 (fun x hx => HGO.out.1 x (HPM.out.symm.subset hx)) (by omega))
          clear hC9 hgr HS HRG HG8 hB
          by_cases hz : (chk m).2 = 0
          · have HSP := Lib.hid (show GrowSpec l 0 m from .inr ⟨HB0.out, m, HPM.out, HSO.out, hz.symm, by rw [if_pos hz]⟩)
            rw [hz] at HCK
            clear hz
            generalize (chk m).1 = at_ at *
            go_wp2_with (go_at_call 15; refine HCK.out.mono ?_; rintro e9 w9 ⟨rfl, hb9⟩; have HR9 := Lib.hid (Kd.R_below HR8.out hb9); have HB9 := Lib.hid (bgo HB8.out hb9); clear hb9)
            go_ret2
            exact ⟨_, _, m, rfl, HR9.out, HB9.out, HSP.out⟩
          · have HSP := Lib.hid (show GrowSpec l (chk m).2 [] from .inr ⟨HB0.out, m, HPM.out, HSO.out, rfl, by rw [if_neg hz]⟩)
            have hz2 : ((chk m).2 != 0) = true := by simpa using hz
            clear hz
            generalize (chk m).1 = at_ at *
            generalize (chk m).2 = er at *
            go_wp2_with (go_at_call 15; refine HCK.out.mono ?_; rintro e9 w9 ⟨rfl, hb9⟩; have HB9 := Lib.hid (bgo HB8.out hb9); clear hb9)
            go_ret2
            exact ⟨_, _, [], rfl, Kd.R_nil _ _ _ _ _, HB9.out, HSP.out⟩
end Go.Proofs.YtoiffnoiliknnaaDoor.Tree
set_option linter.unusedVariables false
set_option linter.unusedSimpArgs false
namespace Go.Proofs.YtoiffnoiliknnaaDoor.Tree
open Go.RowKit Go.Proofs.YtoiffnoiliknnaaDoor.Rout Go.Proofs.YtoiffnoiliknnaaDoor.Node
abbrev Before (x y : Nd) : Prop := compB x.f1 y.f1 < 0
theorem before_irr (x : Nd) : ¬ Before x x := by unfold Before; rw [compB_self]; decide
theorem before_trans (x y z : Nd) (h : Before x y) (k : Before y z) : Before x z := compB_trans h k
theorem pw_any {α : Type} {R : α → α → Prop} : ∀ {l : List α}, l.Pairwise R → ∀ x ∈ l, ∀ y ∈ l, x ≠ y → R x y ∨ R y x
  | [], _, x, hx, _, _, _ => absurd hx (by simp)
  | z :: l, h, x, hx, y, hy, hne => by
    obtain ⟨h1, h2⟩ := List.pairwise_cons.1 h
    rcases List.mem_cons.1 hx with rfl | kx
    · rcases List.mem_cons.1 hy with rfl | ky
      · exact absurd rfl hne
      · exact .inl (h1 _ ky)
    · rcases List.mem_cons.1 hy with rfl | ky
      · exact .inr (h1 _ kx)
      · exact pw_any h2 x kx y ky hne
theorem pw_nodup {l : List Nd} (h : l.Pairwise Before) : l.Nodup := h.imp (fun {a b} hab e => by subst e; exact before_irr _ hab)
/-- The one order of distinct paths. -/
theorem sorted_is (t s : List Nd) (ht : t.Pairwise Before) (hp : t.Perm s) (hs : Sorted s) : s = t := by
  refine (sorted_one before_irr before_trans hp ht ?_).symm
  have hnd : s.Nodup := hp.nodup_iff.1 (pw_nodup ht)
  have h1 : s.Pairwise (fun x y => 0 ≤ compB y.f1 x.f1 ∧ x ≠ y) := List.Pairwise.and hs hnd
  refine h1.imp_of_mem (fun {a b} ha hb hab => ?_)
  rcases pw_any ht a (hp.symm.subset ha) b (hp.symm.subset hb) hab.2 with h | h
  · exact h
  · have h : compB b.f1 a.f1 < 0 := h
    omega
theorem chain_pw (R : Nd → Nd → Prop) (tr : ∀ x y z, R x y → R y z → R x z) (l : List Nd) (h : ∀ k, 0 < k → k < l.length → R (rdN l ((k : Int) - 1)) (rdN l k)) : l.Pairwise R := by
  rw [List.pairwise_iff_getElem]
  have e : ∀ k (hk : k < l.length), rdN l (k : Int) = l[k] := fun k hk => by unfold rdN; rw [Int.toNat_natCast, List.getD_eq_getElem?_getD, List.getElem?_eq_getElem hk]; rfl
  intro i j hi hj hij
  obtain ⟨d, rfl⟩ : ∃ d, j = i + 1 + d := ⟨j - (i + 1), by omega⟩
  clear hij
  induction d with
  | zero =>
    have := h (i + 1) (by omega) hj
    rw [show (((i + 1 : Nat) : Int) - 1) = (i : Int) by omega, e i hi, e (i + 1) hj] at this
    exact this
  | succ d ih =>
    have h1 := ih (by omega)
    have h2 := h (i + 1 + d + 1) (by omega) hj
    rw [show (((i + 1 + d + 1 : Nat) : Int) - 1) = ((i + 1 + d : Nat) : Int) by omega, e (i + 1 + d) (by omega), e (i + 1 + d + 1) hj] at h2
    exact tr _ _ _ h1 h2
theorem err_zero (l : List Nd) (k : Nat) (h : errAt l k = 0) : validB (rdN l k).f1 = true ∧ mayB (rdN l k) = true ∧ k < 65536 ∧ (0 < k → compB (rdN l ((k : Int) - 1)).f1 (rdN l k).f1 < 0) ∧ ((parB (rdN l k).f1).2 = true → isDir (l.take k) (parB (rdN l k).f1).1 = true) := by
  obtain ⟨h1, h2⟩ := errAt_may l k h
  unfold errAt at h
  rw [if_neg (by rw [h2]; simp)] at h
  by_cases h3 : mayB (rdN l k) = false ∨ 65536 ≤ k
  · rw [if_pos h3] at h; omega
  rw [if_neg h3] at h
  by_cases h4 : 0 < k ∧ 0 ≤ compB (rdN l ((k : Int) - 1)).f1 (rdN l k).f1
  · rw [if_pos h4] at h; omega
  rw [if_neg h4] at h
  by_cases h5 : (parB (rdN l k).f1).2 = true ∧ isDir (l.take k) (parB (rdN l k).f1).1 = false
  · rw [if_pos h5] at h; omega
  refine ⟨h2, h1, by omega, fun hk => ?_, fun hp => ?_⟩
  · rcases Int.lt_or_le (compB (rdN l ((k : Int) - 1)).f1 (rdN l k).f1) 0 with h6 | h6
    · exact h6
    · exact absurd ⟨hk, h6⟩ h4
  · cases hd : isDir (l.take k) (parB (rdN l k).f1).1
    · exact absurd ⟨hp, hd⟩ h5
    · rfl
theorem isDir_mem (l : List Nd) (p : ByteArray) (h : isDir l p = true) : p ∈ paths l := by
  induction l using snoc_ind with
  | h0 => cases h
  | h1 l x ih =>
    rw [isDir_snoc] at h
    unfold paths at *
    rw [List.map_append]
    by_cases hx : x.f1 = p
    · rw [← hx]; simp
    · rw [if_neg hx] at h
      exact List.mem_append_left _ (ih h)
theorem mem_rdN (l : List Nd) (x : Nd) (h : x ∈ l) : ∃ k, k < l.length ∧ rdN l (k : Int) = x := by
  obtain ⟨k, hk, rfl⟩ := List.getElem_of_mem h
  exact ⟨k, hk, by unfold rdN; rw [Int.toNat_natCast, List.getD_eq_getElem?_getD, List.getElem?_eq_getElem hk]; rfl⟩
/-- What a tree is. -/
theorem tree_is (l : List Nd) (h : (chk l).2 = 0) : l.Pairwise Before ∧ l.length ≤ 65536 ∧ (∀ x ∈ l, validB x.f1 = true ∧ mayB x = true ∧ ((parB x.f1).2 = true → (parB x.f1).1 ∈ paths l)) := by
  have hk := (chk_ok l).1 h
  refine ⟨chain_pw Before before_trans l (fun k h0 h1 => (err_zero l k (hk k h1)).2.2.2.1 h0), ?_, fun x hx => ?_⟩
  · rcases Nat.eq_zero_or_pos l.length with h0 | h0
    · omega
    · have := (err_zero l (l.length - 1) (hk _ (by omega))).2.2.1
      omega
  · obtain ⟨k, h1, rfl⟩ := mem_rdN l x hx
    obtain ⟨q1, q2, _, _, q3⟩ := err_zero l k (hk k h1)
    refine ⟨q1, q2, fun hp => ?_⟩
    have := isDir_mem _ _ (q3 hp)
    unfold paths at this ⊢
    obtain ⟨y, hy, e⟩ := List.mem_map.1 this
    exact List.mem_map.2 ⟨y, List.mem_of_mem_take hy, e⟩
theorem bad_none (t : List Nd) : ∀ ps : List ByteArray, (∀ x ∈ t, validB x.f1 = true ∧ mayB x = true) → (∀ x ∈ t, x.f1 ∉ ps) → (paths t).Nodup → bad ps t = 0 := by
  induction t with
  | nil => intro _ _ _ _; rfl
  | cons x r ih =>
    intro ps h1 h2 h3
    have hx := h1 x List.mem_cons_self
    unfold bad
    have hh : has ps x.f1 = false := by
      cases hb : has ps x.f1
      · rfl
      · exact absurd ((has_iff _ _).1 hb) (h2 x List.mem_cons_self)
    rw [if_neg (by rw [hx.1]; simp), if_neg (by rw [hx.2, hh]; simp)]
    obtain ⟨h4, h5⟩ := List.nodup_cons.1 (show (x.f1 :: paths r).Nodup from h3)
    refine ih _ (fun y hy => h1 y (List.mem_cons_of_mem _ hy)) (fun y hy hm => ?_) h5
    rcases List.mem_append.1 hm with hm | hm
    · exact h2 y (List.mem_cons_of_mem _ hy) hm
    · obtain hm := List.mem_singleton.1 hm
      exact h4 (hm ▸ List.mem_map.2 ⟨y, hy, rfl⟩)
theorem ups_none (ps : List ByteArray) (p : ByteArray) (f : Nat) (h : (parB p).2 = true → (parB p).1 ∈ ps) : ups ps p f = [] := by
  cases f with
  | zero => rfl
  | succ f =>
    unfold ups
    rw [if_neg]
    rintro ⟨h1, h2⟩
    have := (has_iff _ _).2 (h h1)
    rw [this] at h2
    cases h2
theorem news_none (t : List Nd) (ps : List ByteArray) (h : ∀ x ∈ t, (parB x.f1).2 = true → (parB x.f1).1 ∈ ps) : news ps t = [] := by
  induction t with
  | nil => rfl
  | cons x r ih =>
    unfold news
    rw [ups_none ps x.f1 _ (h x List.mem_cons_self), List.append_nil, List.nil_append]
    exact ih (fun y hy => h y (List.mem_cons_of_mem _ hy))
theorem grow_self (l t : List Nd) (hp : l.Perm t) (h : (chk l).2 = 0) : bad [] t = 0 ∧ grown t = t ∧ ∀ e0 m, GrowSpec t e0 m → e0 = 0 ∧ m = l := by
  obtain ⟨h1, h2, h3⟩ := tree_is l h
  have hpp : (paths l).Perm (paths t) := hp.map _
  have hnd : (paths l).Nodup := by
    unfold paths
    unfold List.Nodup
    rw [List.pairwise_map]
    exact h1.imp (fun {a b} hab e => by unfold Before at hab; rw [e, compB_self] at hab; omega)
  have hb : bad [] t = 0 := bad_none t [] (fun x hx => ⟨(h3 x (hp.symm.subset hx)).1, (h3 x (hp.symm.subset hx)).2.1⟩) (fun x _ hm => absurd hm (by simp)) (hpp.nodup_iff.1 hnd)
  have hg : grown t = t := by
    unfold grown
    rw [news_none t (paths t) (fun x hx hq => hpp.subset ((h3 x (hp.symm.subset hx)).2.2 hq))]
    simp
  refine ⟨hb, hg, fun e0 m hs => ?_⟩
  rcases hs with ⟨hs, _⟩ | ⟨_, s, hs1, hs2, rfl, rfl⟩
  · exact absurd hb hs
  · rw [hg] at hs1
    obtain rfl := sorted_is l s h1 (hp.trans hs1) hs2
    exact ⟨h, by rw [if_pos h]⟩
/-- The law's trial: a file in a folder that lacks. -/
def probe2 : List Nd := [⟨2, ⟨#[97, 47, 98]⟩, [], 0, 0⟩]
def probe3 : List Nd := [⟨1, ⟨#[97]⟩, [], 493, 0⟩, ⟨2, ⟨#[97, 47, 98]⟩, [], 0, 0⟩]
theorem probe_grows : bad [] probe2 = 0 ∧ (grown probe2).length = 2 ∧ ∀ e0 m, GrowSpec probe2 e0 m → e0 = 0 ∧ m.length = 2 := by
  have hb : bad [] probe2 = 0 := by kernel_rfl
  have hg : grown probe2 = [⟨2, ⟨#[97, 47, 98]⟩, [], 0, 0⟩, ⟨1, ⟨#[97]⟩, [], 493, 0⟩] := by kernel_rfl
  refine ⟨hb, by rw [hg]; rfl, fun e0 m hs => ?_⟩
  rcases hs with ⟨hs, _⟩ | ⟨_, s, hs1, hs2, rfl, rfl⟩
  · exact absurd hb hs
  · rw [hg] at hs1
    have hpw : probe3.Pairwise Before := by
      refine List.pairwise_cons.2 ⟨fun y hy => ?_, List.pairwise_cons.2 ⟨fun y hy => absurd hy (by simp), List.Pairwise.nil⟩⟩
      obtain rfl := List.mem_singleton.1 hy
      have : compB ⟨#[97]⟩ ⟨#[97, 47, 98]⟩ = -1 := by kernel_rfl
      show compB ⟨#[97]⟩ ⟨#[97, 47, 98]⟩ < 0
      rw [this]; decide
    obtain rfl := sorted_is probe3 s hpw ((List.Perm.swap _ _ _).trans hs1) hs2
    have hc : (chk probe3).2 = 0 := by kernel_rfl
    exact ⟨hc, by rw [if_pos hc]; rfl⟩
/-! ### turned -/
def turned (l : List Nd) (r : Nat) : List Nd := l.reverse.drop r ++ l.reverse.take r
theorem turned_perm (l : List Nd) (r : Nat) : l.Perm (turned l r) := by
  unfold turned
  have h1 : (l.reverse.take r ++ l.reverse.drop r).Perm (l.reverse.drop r ++ l.reverse.take r) := List.perm_append_comm
  rw [List.take_append_drop] at h1
  exact (List.reverse_perm l).symm.trans h1
theorem turned_len (l : List Nd) (r : Nat) : (turned l r).length = l.length := (turned_perm l r).length_eq.symm
theorem turned_at (l : List Nd) (r i : Nat) (hr : r < l.length) (hi : i < l.length) : (turned l r)[i]? = some (rdN l (((l.length - 1 - (r + i) % l.length : Nat)) : Int)) := by
  have hm : (r + i) % l.length < l.length := Nat.mod_lt _ (by omega)
  have e : rdN l (((l.length - 1 - (r + i) % l.length : Nat)) : Int) = l[l.length - 1 - (r + i) % l.length]'(by omega) := by
    unfold rdN; rw [Int.toNat_natCast, List.getD_eq_getElem?_getD, List.getElem?_eq_getElem (by omega)]; rfl
  rw [e]
  unfold turned
  by_cases h : i < l.length - r
  · rw [List.getElem?_append_left (by simp; exact h), List.getElem?_drop, List.getElem?_reverse (by omega), List.getElem?_eq_getElem (by omega)]
    congr 2
    rw [Nat.mod_eq_of_lt (by omega)]
  · rw [List.getElem?_append_right (by simp; omega), List.getElem?_take, if_pos (by simp; omega), List.length_drop, List.length_reverse, List.getElem?_reverse (by omega), List.getElem?_eq_getElem (by omega)]
    congr 2
    rw [Nat.mod_eq_sub_mod (by omega), Nat.mod_eq_of_lt (by omega)]
    omega
end Go.Proofs.YtoiffnoiliknnaaDoor.Tree
set_option linter.unusedVariables false
set_option linter.unusedSimpArgs false
namespace Go.Proofs.YtoiffnoiliknnaaDoor.Tree
open Go.RowKit Go.BigFrame Go.Maps Go.Proofs.YtoiffnoiliknnaaDoor.Reg Go.Proofs.YtoiffnoiliknnaaDoor.Rout Go.Proofs.YtoiffnoiliknnaaDoor.Node Go.Proofs.YtoiffnoiliknnaaDoorW.PrintWords Go.Proofs.YtoiffnoiliknnaaDoorW.PrintLast Go.Proofs.YtoiffnoiliknnaaDoorW.PrintMore
theorem one_in (W : World) (g : Nat) (x : Nd) (hx : x.f2 = []) (h : ∀ k : Nat, W.cell? ⟨g, k, none⟩ = #[Value.int .i64 x.f0, .string x.f1, .slice none 0 0, .int .i64 x.f3, .int .i64 x.f4][k]?) : kN.C W (some ⟨g, 0, none⟩) [x].length [x] := by
  refine ⟨rfl, by simp, fun _ => ⟨⟨g, 0, none⟩, rfl, fun j p hp => ?_⟩⟩
  obtain ⟨rfl, rfl⟩ : j = 0 ∧ p = x := by
    cases j with
    | zero => exact ⟨rfl, (Option.some.inj hp).symm⟩
    | succ j => simp at hp
  have hk := kN_mk W p (A2 := none) (c2 := 0) (by rw [hx]; exact Nat.le_refl _) (by rw [hx]; exact ⟨rfl, by decide, fun h => absurd h (by decide)⟩)
  rw [hx] at hk
  refine ⟨_, rfl, hk, fun i u hu => ?_⟩
  have h1 : (Addr.mk g 0 none).add (0 * kN.sz + i) = ⟨g, i, none⟩ := by
    rw [show 0 * kN.sz + i = i by omega]
    unfold Addr.add
    by_cases hi : i = 0
    · simp [hi]
    · simp [hi]
  rw [h1, h i, ← hu]
  simp
theorem grow_probe (w W : World) (hW : W = w.alloc (.cells #[.int .i64 2, .string ⟨#[97, 47, 98]⟩, .slice none 0 0, .int .i64 0, .int .i64 0] 35)) :
    Calls Tryd.prog 17 #[.slice (some ⟨w.heap.size, 0, none⟩) 1 1] W fun e w' => ∃ A c, e = .returned (.tuple #[.slice A 2 c, .int .i64 0]) ∧ Below w.heap.size w w' := by
  obtain ⟨hb, hg, hs⟩ := probe_grows
  have h := grow_calls (some ⟨w.heap.size, 0, none⟩) 1 probe2 W (one_in W w.heap.size ⟨2, ⟨#[97, 47, 98]⟩, [], 0, 0⟩ rfl (fun k => by rw [hW]; exact World.cell?_alloc_at _ _ _ _ rfl)) (fun x hx => by
    obtain rfl : x = ⟨2, ⟨#[97, 47, 98]⟩, [], 0, 0⟩ := List.mem_singleton.1 hx
    exact ⟨fun b hb => absurd hb (by simp), by decide, by decide⟩) (by decide) (fun _ => by rw [hg]; decide)
  refine h.mono ?_
  rintro e w' ⟨v, e0, m, rfl, hR, hbl, hsp⟩
  obtain ⟨rfl, hm⟩ := hs e0 m hsp
  obtain ⟨A, c, rfl⟩ := Kd.R_slice hR
  rw [hm]
  rw [hW] at hbl
  exact ⟨A, c, rfl, bgo (balloc (Below.refl _ _) _) hbl⟩
/-- Where the turned row reads. -/
theorem turn_nums (b : Int) (n : Nat) (hn : 0 < n) : ∃ r : Nat, r < n ∧ (b.tmod n + n).tmod n = (r : Int) ∧ -(n : Int) < b.tmod n ∧ b.tmod n < n ∧ ∀ k : Nat, ((r : Int) + k).tmod n = (((r + k) % n : Nat) : Int) := by
  have h1 : -(n : Int) < b.tmod n ∧ b.tmod n < n := by
    have h2 : b.natAbs % n < n := Nat.mod_lt _ hn
    have h : (b.tmod n).natAbs = b.natAbs % n := by rw [Int.natAbs_tmod, Int.natAbs_natCast]
    generalize b.natAbs % n = z at *
    omega
  obtain ⟨q, hq⟩ : ∃ q : Nat, b.tmod n + n = (q : Int) := ⟨(b.tmod n + n).toNat, by omega⟩
  refine ⟨q % n, Nat.mod_lt _ hn, ?_, h1.1, h1.2, fun k => ?_⟩
  · rw [hq, Int.tmod_eq_emod_of_nonneg (by omega)]; rfl
  · rw [show ((q % n : Nat) : Int) + (k : Int) = ((q % n + k : Nat) : Int) by omega, Int.tmod_eq_emod_of_nonneg (by omega)]; rfl
set_option maxRecDepth 100000 in
set_option maxHeartbeats 16000000 in
theorem grows_law (A : Option Addr) (c : Nat) (l : List Nd) (b : Int) (w : World) (hC : kN.C w A l.length l) (hok : ∀ x ∈ l, Ok x) (hl : l.length * 64 ≤ 140737488355328) (hb0 : -9223372036854775808 ≤ b) (hb1 : b ≤ 9223372036854775807) :
    Calls Tryd.prog 6 #[.slice A l.length c, .int .i64 b] w fun e w' => e = .returned (.bool true) ∧ Below w.heap.size w w' := by
  have HC := Lib.hid hC
  have HOK := Lib.hid hok
  have HCK := Lib.hid (check_calls A c l w hC hok (by omega))
  clear hC hok
  by_cases he : (chk l).2 = 0
  · have hlen := (tree_is l he).2.1
    have HSA := Lib.hid (fun W A2 c2 (h : kN.C W A l.length l) (h2 : kN.C W A2 l.length l) => same_calls A2 A c2 c l l W h2 h HOK.out HOK.out (by omega) (by omega))
    rw [sameB_refl] at HSA
    have HGS := Lib.hid (fun t (hp : l.Perm t) => grow_self l t hp he)
    rw [he] at HCK
    clear he
    generalize (chk l).1 = at_ at *
    go_enter Tryd.func6, Tryd.ntmps6
    go_wp2_with (first
      | (go_at_call 15; with_reducible refine HCK.out.mono ?_; rintro e w1 ⟨rfl, hb1⟩; have HB1 := Lib.hid hb1; clear hb1)
      | (go_at_call 17; with_reducible refine (grow_probe w1 _ rfl).mono ?_; rintro e w2 ⟨g0, c0, rfl, hb2⟩; have HB2 := Lib.hid (bgo HB1.out hb2); clear hb2))
    have HR0 := Lib.hid (show ∀ r, (Kd.fixed kN w).R 35 w2 w.heap.size (fun _ => True) (.slice none 0 0) ((turned l r).take 0) from fun r => Kd.R_nil _ _ _ _ _)
    obtain ⟨r, hr⟩ : ∃ r : Nat, (0 < l.length → r < l.length ∧ (b.tmod l.length + l.length).tmod l.length = (r : Int) ∧ -(l.length : Int) < b.tmod l.length ∧ b.tmod l.length < l.length ∧ ∀ k : Nat, ((r : Int) + k).tmod l.length = (((r + k) % l.length : Nat) : Int)) := by
      by_cases h0 : 0 < l.length
      · obtain ⟨r, h⟩ := turn_nums b l.length h0
        exact ⟨r, fun _ => h⟩
      · exact ⟨0, fun h => absurd h h0⟩
    have HRN := Lib.hid hr
    clear hr
    go_loopw [10, 11] (fun v i wr => ∃ k : Nat, i = .int .i64 k ∧ k ≤ l.length ∧ Hid ((Kd.fixed kN w).R 35 wr w.heap.size (fun _ => True) v ((turned l r).take k)) ∧ Below w.heap.size w wr) (fun _ i _ => (l.length - intOf i).toNat)
    case atStart => exact ⟨0, rfl, by omega, Lib.hid (HR0.out r), HB2.out⟩
    case round =>
      obtain ⟨k, rfl, hk, hR, hbr⟩ := hrel
      by_cases hlt : k < l.length
      · obtain ⟨hr1, hr2, hr3, hr4, hr5⟩ := HRN.out (by omega)
        have hr6 := hr5 k
        have hm : (r + k) % l.length < l.length := Nat.mod_lt _ (by omega)
        have hta := Lib.hid (turned_at l r k hr1 hlt)
        obtain ⟨s, hs⟩ : ∃ s : Nat, l.length - 1 - (r + k) % l.length = s := ⟨_, rfl⟩
        have hs2 : (l.length : Int) - 1 - (((r + k) % l.length : Nat) : Int) = (s : Int) := by omega
        rw [hs] at hta
        clear hr5
        generalize (r + k) % l.length = m at *
        obtain ⟨ad, A2, c2, hA, c0, c1, c2', c3, c4, hl2, hd⟩ := atN HC.out (s : Int) (by omega) (by omega)
        subst hA
        rw [Int.toNat_natCast] at c0 c1 c2' c3 c4
        have d0 := bkeep hbr c0
        have d1 := bkeep hbr c1
        have d2 := bkeep hbr c2'
        have d3 := bkeep hbr c3
        have d4 := bkeep hbr c4
        have HK := Lib.hid (kN_mk w (rdN l (s : Int)) hl2 hd)
        have htk : (turned l r).take (k + 1) = (turned l r).take k ++ [rdN l (s : Int)] := by
          rw [List.take_add_one, hta.out]; rfl
        have htl : ((turned l r).take k).length = k := by rw [List.length_take, turned_len]; omega
        have HTK := Lib.hid htk
        have s0 : (0 : Int) ≤ (s : Int) := by omega
        have s1 : (s : Int) < l.length := by omega
        clear c0 c1 c2' c3 c4 hl2 hd hta htk
        generalize rdN l (s : Int) = x at *
        go_upto_region 11 with (at_builtin; refine Kd.R_append (Kd.fixed kN w) (w0 := w) w.heap.size rfl (.tmp 40) (.tmp 58) 22 35 (.agg #[.int .i64 0, .string ⟨#[]⟩, .slice none 0 0, .int .i64 0, .int .i64 0]) 64 rfl Tryd.underlying22 infoN rfl (show 0 < 5 by decide) (by omega) u10 ((turned l r).take k) x [.int .i64 x.f0, .string x.f1, .slice A2 x.f2.length c2, .int .i64 x.f3, .int .i64 x.f4] (fun _ => True) (fun _ => False) rfl rfl HK.out (fun _ h => h.elim) (fun _ _ => trivial) hR.out hbr hbr.size (by omega) ?_; intro v6 w6 hR6 hb6 hg6 hat6; have HR6 := Lib.hid hR6; have HB6 := Lib.hid hb6; clear hR6 hb6 hg6 hat6)
        have HR7 := Lib.hid (show (Kd.fixed kN w).R 35 w6 w.heap.size (fun _ => True) v6 ((turned l r).take (k + 1)) by rw [HTK.out]; exact HR6.out)
        clear hr2 hr3 hr4 hr6 hm hs hs2 hbr d0 d1 d2 d3 d4 HK
        go_wp2
        go_roundw
        case rel => exact ⟨k + 1, by go_num, by omega, HR7, HB6.out⟩
        case measure => simp [intOf]; omega
      · obtain rfl : k = l.length := by omega
        have htl := turned_len l r
        have hR2 := hR.out
        rw [show (turned l r).take l.length = turned l r from List.take_of_length_le (by omega)] at hR2
        obtain ⟨A1, c1, rfl, hc1, hC1⟩ := Kd.R_reads hR2
        have HT1 := Lib.hid (show kN.C wr A1 (turned l r).length (turned l r) from ReadsRow.imp_ hC1 (Below.refl _ _) (fun _ _ h => kN.K_below hbr h))
        obtain ⟨hg1, hg2, hg3⟩ := HGS.out _ (turned_perm l r)
        have HG := Lib.hid (grow_calls A1 c1 (turned l r) wr HT1.out (fun x hx => HOK.out x ((turned_perm l r).symm.subset hx)) (by omega) (fun _ => by rw [hg2]; omega))
        have hG3 := Lib.hid hg3
        rw [htl] at HG
        clear hg1 hg2 hg3 hR hC1 hc1 hR2
        go_wp2_with (first
          | (go_at_call 17; with_reducible refine HG.out.mono ?_; rintro e5 w5 ⟨v5, e0, m5, rfl, hR5, hb5, hsp5⟩; obtain ⟨rfl, hm5⟩ := hG3.out e0 m5 hsp5; rw [hm5] at hR5; clear hm5; obtain ⟨A5, c5, rfl, _, hC5⟩ := Kd.R_reads hR5; have HC5 := Lib.hid hC5; have HB5 := Lib.hid (bgo hbr hb5); clear hR5 hb5 hsp5 hC5)
          | (go_at_call 14; refine (HSA.out _ _ _ (Kd.C_below HC.out HB5.out) HC5.out).mono ?_; rintro e6 w6 ⟨rfl, hb6⟩; have HB6 := Lib.hid (bgo HB5.out hb6); clear hb6))
        go_ret
        exact ⟨ret_bool rfl, HB6.out⟩
  · have hne : ((chk l).2 != 0) = true := by simpa using he
    clear he
    generalize (chk l).1 = at_ at *
    generalize (chk l).2 = er at *
    go_enter Tryd.func6, Tryd.ntmps6
    go_wp2_with (first
      | (go_at_call 15; with_reducible refine HCK.out.mono ?_; rintro e w1 ⟨rfl, hb1⟩; have HB1 := Lib.hid hb1; clear hb1)
      | (go_at_call 17; with_reducible refine (grow_probe w1 _ rfl).mono ?_; rintro e w2 ⟨g0, c0, rfl, hb2⟩; have HB2 := Lib.hid (bgo HB1.out hb2); clear hb2))
    go_ret
    exact ⟨ret_bool rfl, HB2.out⟩
end Go.Proofs.YtoiffnoiliknnaaDoor.Tree
