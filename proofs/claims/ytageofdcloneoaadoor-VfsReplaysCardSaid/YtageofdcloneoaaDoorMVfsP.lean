/- VfsP, VfsQ, VfsM, VfsW put together. -/
import Derived.Test.YtageofdcloneoaaDoorMRoutQ
import Derived.Test.YtageofdcloneoaaDoorMTree
import Derived.Maps.OwnSet
import Derived.StillTailTactics
import Derived.Deep.RegionHeld3
import Derived.Deep.DrawnRows
import Derived.WalkMore
set_option linter.unusedVariables false
set_option linter.unusedSimpArgs false
namespace Go.Proofs.YtageofdcloneoaaDoor.Vfs
open Go.RowKit Go.Proofs.YtageofdcloneoaaDoor.Rout Go.Proofs.YtageofdcloneoaaDoor.Node Go.Proofs.YtageofdcloneoaaDoor.Tree Go.Proofs.YtageofdcloneoaaDoorW.PrintWords
/-! ### trees (as the texts on tree.Grow have them) -/
abbrev Before (x y : Nd) : Prop := compB x.f1 y.f1 < 0
theorem before_trans (x y z : Nd) (h : Before x y) (k : Before y z) : Before x z := compB_trans h k
theorem chkN_ok (l : List Nd) : ∀ f, f ≤ l.length → ((chkN l f).2 = 0 ↔ ∀ k, l.length - f ≤ k → k < l.length → errAt l k = 0)
  | 0, _ => ⟨fun _ k h1 h2 => by omega, fun _ => rfl⟩
  | f + 1, hf => by
    have ih := chkN_ok l f (by omega)
    show (if errAt l (l.length - (f + 1)) = 0 then chkN l f else (((l.length - (f + 1) : Nat) : Int), errAt l (l.length - (f + 1)))).2 = 0 ↔ _
    by_cases h : errAt l (l.length - (f + 1)) = 0
    · rw [if_pos h, ih]
      constructor
      · intro h2 k h3 h4
        by_cases hk : k = l.length - (f + 1)
        · rw [hk]; exact h
        · exact h2 k (by omega) h4
      · exact fun h2 k h3 h4 => h2 k (by omega) h4
    · rw [if_neg h]
      exact ⟨fun h2 => absurd h2 h, fun h2 => absurd (h2 _ (Nat.le_refl _) (by omega)) h⟩
theorem chk_ok (l : List Nd) : (chk l).2 = 0 ↔ ∀ k, k < l.length → errAt l k = 0 := by
  unfold chk
  rw [chkN_ok l l.length (Nat.le_refl _)]
  exact ⟨fun h k hk => h k (by omega) hk, fun h k _ hk => h k hk⟩
theorem rdN_get (l : List Nd) (k : Nat) (hk : k < l.length) : rdN l (k : Int) = l[k] := by
  unfold rdN; rw [Int.toNat_natCast, List.getD_eq_getElem?_getD, List.getElem?_eq_getElem hk]; rfl
theorem chain_pw (R : Nd → Nd → Prop) (tr : ∀ x y z, R x y → R y z → R x z) (l : List Nd) (h : ∀ k, 0 < k → k < l.length → R (rdN l ((k : Int) - 1)) (rdN l k)) : l.Pairwise R := by
  rw [List.pairwise_iff_getElem]
  intro i j hi hj hij
  obtain ⟨d, rfl⟩ : ∃ d, j = i + 1 + d := ⟨j - (i + 1), by omega⟩
  clear hij
  induction d with
  | zero =>
    have := h (i + 1) (by omega) hj
    rw [show (((i + 1 : Nat) : Int) - 1) = (i : Int) by omega, rdN_get l i hi, rdN_get l (i + 1) hj] at this
    exact this
  | succ d ih =>
    have h1 := ih (by omega)
    have h2 := h (i + 1 + d + 1) (by omega) hj
    rw [show (((i + 1 + d + 1 : Nat) : Int) - 1) = ((i + 1 + d : Nat) : Int) by omega, rdN_get l (i + 1 + d) (by omega), rdN_get l (i + 1 + d + 1) hj] at h2
    exact tr _ _ _ h1 h2
theorem err_zero (l : List Nd) (k : Nat) (h : errAt l k = 0) : validB (rdN l k).f1 = true ∧ mayB (rdN l k) = true ∧ k < 65536 ∧ (0 < k → compB (rdN l ((k : Int) - 1)).f1 (rdN l k).f1 < 0) ∧ ((parB (rdN l k).f1).2 = true → isDir (l.take k) (parB (rdN l k).f1).1 = true) := by
  unfold errAt at h
  by_cases h2 : validB (rdN l k).f1 = false
  · rw [if_pos h2] at h; omega
  rw [if_neg h2] at h
  by_cases h3 : mayB (rdN l k) = false ∨ 65536 ≤ k
  · rw [if_pos h3] at h; omega
  rw [if_neg h3] at h
  by_cases h4 : 0 < k ∧ 0 ≤ compB (rdN l ((k : Int) - 1)).f1 (rdN l k).f1
  · rw [if_pos h4] at h; omega
  rw [if_neg h4] at h
  by_cases h5 : (parB (rdN l k).f1).2 = true ∧ isDir (l.take k) (parB (rdN l k).f1).1 = false
  · rw [if_pos h5] at h; omega
  refine ⟨by simpa using h2, ?_, by omega, fun hk => ?_, fun hp => ?_⟩
  · cases hm : mayB (rdN l k)
    · exact absurd (.inl hm) h3
    · rfl
  · rcases Int.lt_or_le (compB (rdN l ((k : Int) - 1)).f1 (rdN l k).f1) 0 with h6 | h6
    · exact h6
    · exact absurd ⟨hk, h6⟩ h4
  · cases hd : isDir (l.take k) (parB (rdN l k).f1).1
    · exact absurd ⟨hp, hd⟩ h5
    · rfl
/-! ### the map of nodes -/
abbrev NMap := ByteArray → Option Nd
def mapL (l : List Nd) : NMap := l.foldl (fun M n p => if n.f1 = p then some n else M p) (fun _ => none)
theorem mapL_snoc (l : List Nd) (n : Nd) (p : ByteArray) : mapL (l ++ [n]) p = if n.f1 = p then some n else mapL l p := by unfold mapL; rw [List.foldl_append]; rfl
theorem mapL_f1 (l : List Nd) (p : ByteArray) (x : Nd) (h : mapL l p = some x) : x.f1 = p ∧ x ∈ l := by
  induction l using snoc_ind with
  | h0 => cases h
  | h1 l y ih =>
    rw [mapL_snoc] at h
    by_cases hy : y.f1 = p
    · rw [if_pos hy] at h; cases h; exact ⟨hy, by simp⟩
    · rw [if_neg hy] at h; exact ⟨(ih h).1, List.mem_append_left _ (ih h).2⟩
theorem isDir_map (l : List Nd) (p : ByteArray) (h : isDir l p = true) : ∃ x, mapL l p = some x ∧ x.f0 = 1 := by
  induction l using snoc_ind with
  | h0 => cases h
  | h1 l y ih =>
    rw [isDir_snoc] at h
    rw [mapL_snoc]
    by_cases hy : y.f1 = p
    · rw [if_pos hy] at h ⊢; exact ⟨y, rfl, by simpa using h⟩
    · rw [if_neg hy] at h ⊢; exact ih h
theorem mapL_own (l : List Nd) (hp : l.Pairwise Before) (x : Nd) (hx : x ∈ l) : mapL l x.f1 = some x := by
  induction l using snoc_ind with
  | h0 => cases hx
  | h1 l y ih =>
    rw [List.pairwise_append] at hp
    rw [mapL_snoc]
    rcases List.mem_append.1 hx with h | h
    · have hb : compB x.f1 y.f1 < 0 := hp.2.2 x h y (by simp)
      rw [if_neg (fun e => by rw [e, compB_self] at hb; omega)]
      exact ih hp.1 h
    · obtain rfl : x = y := by simpa using h
      rw [if_pos rfl]
/-- What a tree is: its map. -/
structure IsTree (l : List Nd) : Prop where
  own : ∀ x ∈ l, mapL l x.f1 = some x
  valid : ∀ x ∈ l, validB x.f1 = true
  may : ∀ x ∈ l, mayB x = true
  up : ∀ x ∈ l, (parB x.f1).2 = true → ∃ y ∈ l, y.f1 = (parB x.f1).1 ∧ y.f0 = 1
  len : l.length ≤ 65536
theorem tree_is (l : List Nd) (h : (chk l).2 = 0) : IsTree l := by
  have hk := (chk_ok l).1 h
  have each : ∀ x ∈ l, validB x.f1 = true ∧ mayB x = true ∧ ((parB x.f1).2 = true → ∃ y ∈ l, y.f1 = (parB x.f1).1 ∧ y.f0 = 1) := by
    intro x hx
    obtain ⟨k, h1, rfl⟩ := List.getElem_of_mem hx
    obtain ⟨q1, q2, _, _, q3⟩ := err_zero l k (hk k h1)
    rw [rdN_get l k h1] at q1 q2 q3
    refine ⟨q1, q2, fun hp => ?_⟩
    obtain ⟨y, hy, h0⟩ := isDir_map _ _ (q3 hp)
    exact ⟨y, List.mem_of_mem_take (mapL_f1 _ _ _ hy).2, (mapL_f1 _ _ _ hy).1, h0⟩
  refine ⟨mapL_own l (chain_pw Before before_trans l (fun k h0 h1 => (err_zero l k (hk k h1)).2.2.2.1 h0)), fun x hx => (each x hx).1, fun x hx => (each x hx).2.1, fun x hx => (each x hx).2.2, ?_⟩
  rcases Nat.eq_zero_or_pos l.length with h0 | h0
  · omega
  · have := (err_zero l (l.length - 1) (hk _ (by omega))).2.2.1
    omega
/-! ### pieces -/
theorem cut_mid : ∀ l m : List UInt8, cut (l ++ 47 :: m) = cut l ++ cut m
  | [], m => by simp [cut]
  | c :: r, m => by
    have ih := cut_mid r m
    by_cases hc : c = 47
    · subst hc; simp [cut, ih]
    · have e : ∀ q, cut (c :: q) = if c = 47 then [] :: cut q else match cut q with | [] => [[c]] | p :: ps => (c :: p) :: ps := fun _ => rfl
      rw [List.cons_append, e, e, if_neg hc, if_neg hc, ih]
      cases hr : cut r with
      | nil => exact absurd hr (cut_ne r)
      | cons p ps => rfl
def slash : ByteArray := ⟨#[47]⟩
def emp : ByteArray := ⟨#[]⟩
theorem data_append (s t : ByteArray) : (s ++ t).data.toList = s.data.toList ++ t.data.toList := by simp
theorem pcs_mid (s t : ByteArray) : pcs (s ++ slash ++ t) = pcs s ++ pcs t := by
  unfold pcs
  rw [data_append, data_append, List.append_assoc, show slash.data.toList = [47] from rfl, List.singleton_append, cut_mid, List.map_append]
def underB (f n : ByteArray) : ByteArray := if f.size = 0 then n else f ++ slash ++ n
/-! ### the way -/
def absB (s : ByteArray) : Bool := s.data.toList.head? == some 47
def wayS (M : NMap) (a : ByteArray) (fl : Nat) (p : ByteArray) (rest : List ByteArray) : Sum (ByteArray × Nat × List ByteArray) Int :=
  if p.data.toList = [] ∨ p.data.toList = [46] then .inl (a, fl, rest)
  else if p.data.toList = [46, 46] then .inl ((parB a).1, fl, rest)
  else match M (underB a p) with
    | none => .inr 31
    | some n => if n.f0 = 2 then .inr 33 else if n.f0 = 1 then .inl (n.f1, fl, rest) else if 16 < fl + 1 then .inr 34
      else .inl (if absB (strOfNums n.f2) = true then emp else a, fl + 1, pcs (strOfNums n.f2) ++ rest)
def wayN (M : NMap) : Nat → ByteArray → Nat → List ByteArray → ByteArray × Int
  | 0, _, _, _ => (emp, 34)
  | _ + 1, a, _, [] => (a, 0)
  | k + 1, a, fl, p :: r => match wayS M a fl p r with
    | .inl (b, f, t) => wayN M k b f t
    | .inr e => (emp, e)
theorem wayN_cons (M : NMap) (k : Nat) (a : ByteArray) (fl : Nat) (p : ByteArray) (r : List ByteArray) : wayN M (k + 1) a fl (p :: r) = match wayS M a fl p r with
    | .inl (b, f, t) => wayN M k b f t
    | .inr e => (emp, e) := rfl
def mu (fl : Nat) (t : List ByteArray) : Nat := (17 - fl) * 1100 + t.length
/-- A link's text is short. -/
def Small (M : NMap) : Prop := ∀ p n, M p = some n → n.f0 ≠ 1 → n.f0 ≠ 2 → n.f2.length ≤ 1024
theorem strOfNums_size (xs : List Int) : (strOfNums xs).size = xs.length := by simp [strOfNums, ByteArray.size]
theorem pcs_le (s : ByteArray) : (pcs s).length ≤ s.size + 1 := by
  rw [pcs_len]
  have := List.count_le_length (a := (47 : UInt8)) (l := s.data.toList)
  rw [size_data] at this
  omega
theorem wayS_less (M : NMap) (hM : Small M) (a : ByteArray) (fl : Nat) (p : ByteArray) (r : List ByteArray) (b : ByteArray) (f : Nat) (t : List ByteArray) (hf : fl ≤ 16) (h : wayS M a fl p r = .inl (b, f, t)) : f ≤ 16 ∧ mu f t < mu fl (p :: r) := by
  unfold wayS at h
  unfold mu
  rw [List.length_cons]
  by_cases h1 : p.data.toList = [] ∨ p.data.toList = [46]
  · rw [if_pos h1] at h
    simp only [Sum.inl.injEq, Prod.mk.injEq] at h
    obtain ⟨_, rfl, rfl⟩ := h
    omega
  rw [if_neg h1] at h
  by_cases h2 : p.data.toList = [46, 46]
  · rw [if_pos h2] at h
    simp only [Sum.inl.injEq, Prod.mk.injEq] at h
    obtain ⟨_, rfl, rfl⟩ := h
    omega
  rw [if_neg h2] at h
  cases hn : M (underB a p) with
  | none => rw [hn] at h; cases h
  | some n =>
    rw [hn] at h
    dsimp only at h
    by_cases h3 : n.f0 = 2
    · rw [if_pos h3] at h; cases h
    rw [if_neg h3] at h
    by_cases h4 : n.f0 = 1
    · rw [if_pos h4] at h
      simp only [Sum.inl.injEq, Prod.mk.injEq] at h
      obtain ⟨_, rfl, rfl⟩ := h
      omega
    rw [if_neg h4] at h
    by_cases h5 : 16 < fl + 1
    · rw [if_pos h5] at h; cases h
    rw [if_neg h5] at h
    simp only [Sum.inl.injEq, Prod.mk.injEq] at h
    obtain ⟨_, rfl, rfl⟩ := h
    have h6 := hM _ _ hn h4 h3
    have h7 := pcs_le (strOfNums n.f2)
    rw [strOfNums_size] at h7
    rw [List.length_append]
    refine ⟨by omega, ?_⟩
    obtain ⟨d, hd⟩ : ∃ d, 17 - (fl + 1) = d := ⟨_, rfl⟩
    rw [show 17 - fl = d + 1 by omega, hd, Nat.add_mul]
    omega
theorem wayN_enough (M : NMap) (hM : Small M) (k : Nat) : ∀ (j : Nat) (a : ByteArray) (fl : Nat) (t : List ByteArray), fl ≤ 16 → mu fl t < k → mu fl t < j → wayN M k a fl t = wayN M j a fl t := by
  induction k with
  | zero => intro j a fl t _ h _; omega
  | succ k ih =>
    intro j a fl t hf h1 h2
    obtain ⟨j, rfl⟩ : ∃ i, j = i + 1 := ⟨j - 1, by omega⟩
    cases t with
    | nil => rfl
    | cons p r =>
      rw [wayN_cons, wayN_cons]
      cases hs : wayS M a fl p r with
      | inr e => rfl
      | inl q =>
        obtain ⟨b, f, t⟩ := q
        obtain ⟨hf2, hlt⟩ := wayS_less M hM a fl p r b f t hf hs
        exact ih j b f t hf2 (by omega) (by omega)
def way (M : NMap) (ps : List ByteArray) : ByteArray × Int := wayN M (mu 0 ps + 1) emp 0 ps
/-- One link more that has been followed: the same, or too many. -/
theorem wayN_more (M : NMap) : ∀ (k : Nat) (a : ByteArray) (fl : Nat) (t : List ByteArray), (wayN M k a fl t).2 = 0 → wayN M k a (fl + 1) t = wayN M k a fl t ∨ wayN M k a (fl + 1) t = (emp, 34)
  | 0, _, _, _, h => .inr rfl
  | k + 1, a, fl, [], h => .inl rfl
  | k + 1, a, fl, p :: r, h => by
    rw [wayN_cons] at h
    rw [wayN_cons, wayN_cons]
    unfold wayS at h ⊢
    by_cases h1 : p.data.toList = [] ∨ p.data.toList = [46]
    · rw [if_pos h1] at h ⊢; rw [if_pos h1]; exact wayN_more M k _ _ _ h
    rw [if_neg h1] at h ⊢
    rw [if_neg h1]
    by_cases h2 : p.data.toList = [46, 46]
    · rw [if_pos h2] at h ⊢; rw [if_pos h2]; exact wayN_more M k _ _ _ h
    rw [if_neg h2] at h ⊢
    rw [if_neg h2]
    cases hn : M (underB a p) with
    | none => exact .inl rfl
    | some n =>
      rw [hn] at h
      dsimp only at h ⊢
      by_cases h3 : n.f0 = 2
      · rw [if_pos h3] at h; cases h
      rw [if_neg h3] at h ⊢
      rw [if_neg h3]
      by_cases h4 : n.f0 = 1
      · rw [if_pos h4] at h ⊢; rw [if_pos h4]; exact wayN_more M k _ _ _ h
      rw [if_neg h4] at h ⊢
      rw [if_neg h4]
      by_cases h5 : 16 < fl + 1
      · rw [if_pos h5] at h; cases h
      rw [if_neg h5] at h
      rw [if_neg h5]
      by_cases h6 : 16 < fl + 1 + 1
      · rw [if_pos h6]; exact .inr rfl
      rw [if_neg h6]
      exact wayN_more M k _ _ _ h
end Go.Proofs.YtageofdcloneoaaDoor.Vfs
set_option linter.unusedVariables false
set_option linter.unusedSimpArgs false
namespace Go.Proofs.YtageofdcloneoaaDoor.Vfs
open Go.RowKit Go.Proofs.YtageofdcloneoaaDoor.Rout Go.Proofs.YtageofdcloneoaaDoor.Node Go.Proofs.YtageofdcloneoaaDoor.Tree Go.Proofs.YtageofdcloneoaaDoorW.PrintWords
theorem may_link (x : Nd) (h : mayB x = true) (h1 : x.f0 ≠ 1) (h2 : x.f0 ≠ 2) : x.f0 = 3 ∧ x.f2.length ≤ 1024 := by
  unfold mayB kindB at h
  rw [if_neg h1, if_neg h2] at h
  by_cases h3 : x.f0 = 3
  · rw [if_pos h3] at h; simp at h; exact ⟨h3, by omega⟩
  · rw [if_neg h3] at h; simp at h
theorem small_tree (l : List Nd) (T : IsTree l) : Small (mapL l) := fun p n hn h1 h2 => (may_link n (T.may n (mapL_f1 _ _ _ hn).2) h1 h2).2
theorem name_ok {p : ByteArray} (h : nameB p = true) : ¬ (p.data.toList = [] ∨ p.data.toList = [46]) ∧ ¬ p.data.toList = [46, 46] ∧ 0 < p.size := by
  unfold nameB at h
  simp at h
  obtain ⟨⟨⟨⟨h1, h2⟩, h3⟩, h4⟩, h5⟩ := h
  refine ⟨fun h => ?_, fun h => h4 h, h1⟩
  rcases h with h | h
  · have := size_data p
    rw [h] at this
    simp at this
    omega
  · exact h3 h
theorem valid_pcs {s : ByteArray} (h : validB s = true) (p : ByteArray) (hp : p ∈ pcs s) : nameB p = true := by
  unfold validB at h
  simp only [Bool.and_eq_true] at h
  exact (List.all_eq_true.1 h.1.1) p hp
theorem pcs_none (s : ByteArray) (h : ∀ k : Nat, s.data.toList[k]? ≠ some 47) : pcs s = [s] := by
  unfold pcs
  rw [cut_miss _ h]
  simp [toB_data]
theorem pcs_pos {s : ByteArray} (h : validB s = true) : 0 < s.size := by
  rcases Nat.eq_zero_or_pos s.size with h0 | h0
  · have hd : s.data.toList = [] := List.eq_nil_of_length_eq_zero (by rw [size_data]; exact h0)
    have := valid_pcs h s (by rw [pcs_none s (by rw [hd]; simp)]; simp)
    have := (name_ok this).2.2
    omega
  · exact h0
theorem par_cut (s : ByteArray) (h : validB s = true) : ((parB s).2 = false ∧ (parB s).1 = emp ∧ pcs s = [s]) ∨ ((parB s).2 = true ∧ ∃ b, s = (parB s).1 ++ slash ++ b ∧ pcs s = pcs (parB s).1 ++ [b]) := by
  have get (j : Nat) (hj : j < s.size) : s.data.toList[j]? = some (s.data[j]!) := by
    rw [get_data s j hj, getElem!_pos s.data j hj]
    rfl
  rcases Lib.lastIdx_spec s 47 s.size with ⟨e, hn⟩ | ⟨i, hi, e, hc, hn⟩
  · left
    have e : Lib.lastIndexByte s 47 = -1 := e
    have hp : parB s = (emp, false) := by unfold parB; rw [if_neg (fun h => by rw [e] at h; omega)]; rfl
    rw [hp]
    refine ⟨rfl, rfl, pcs_none s (fun k hk => ?_)⟩
    have hk2 : k < s.size := by rw [← size_data]; exact (List.getElem?_eq_some_iff.1 hk).1
    rw [get k hk2] at hk
    have := hn k hk2
    rw [Option.some.inj hk] at this
    exact this rfl
  · right
    have e : Lib.lastIndexByte s 47 = (i : Int) := e
    have hp : parB s = (s.extract 0 i, true) := by unfold parB; rw [if_pos ⟨by rw [e]; omega, h⟩, e]; rfl
    rw [hp]
    have hb : s.data.toList[i]? = some 47 := by
      rw [get i hi]
      have : (s.data[i]!).toNat = 47 := by omega
      have : s.data[i]! = 47 := UInt8.toNat.inj this
      rw [this]
    have hs : s = s.extract 0 i ++ slash ++ s.extract (i + 1) s.size := by
      apply ba_ext
      rw [data_append, data_append, show slash.data.toList = [47] from rfl]
      have e1 : (s.extract 0 i).data.toList = s.data.toList.take i := by simp
      have e2 : (s.extract (i + 1) s.size).data.toList = s.data.toList.drop (i + 1) := by
        rw [ByteArray.data_extract]
        simp
        rw [List.take_of_length_le]
        rw [List.length_drop, size_data]
        omega
      rw [e1, e2, List.append_assoc, List.singleton_append]
      conv => lhs; rw [← List.take_append_drop i s.data.toList]
      congr 1
      have hl : i < s.data.toList.length := by rw [size_data]; exact hi
      rw [List.drop_eq_getElem_cons hl]
      rw [List.getElem?_eq_getElem hl] at hb
      rw [Option.some.inj hb]
    refine ⟨rfl, s.extract (i + 1) s.size, hs, ?_⟩
    have h2 : pcs (s.extract (i + 1) s.size) = [s.extract (i + 1) s.size] := by
      refine pcs_none _ (fun k hk => ?_)
      have e2 : (s.extract (i + 1) s.size).data.toList = s.data.toList.drop (i + 1) := by
        rw [ByteArray.data_extract]
        simp
        rw [List.take_of_length_le]
        rw [List.length_drop, size_data]
        omega
      rw [e2, List.getElem?_drop] at hk
      have hk2 : i + 1 + k < s.size := by rw [← size_data]; exact (List.getElem?_eq_some_iff.1 hk).1
      rw [get _ hk2] at hk
      have := hn (i + 1 + k) (by omega) hk2
      rw [Option.some.inj hk] at this
      exact this rfl
    conv => lhs; rw [hs]
    rw [pcs_mid, h2]
theorem underB_par {s b : ByteArray} (p : ByteArray) (hp : 0 < p.size) (h : s = p ++ slash ++ b) : underB p b = s := by unfold underB; rw [if_neg (by omega), h]
/-- Through folders. -/
theorem way_dir (l : List Nd) (T : IsTree l) : ∀ (n : Nat) (x : Nd), x ∈ l → x.f0 = 1 → x.f1.size ≤ n → ∀ (k fl : Nat) (r : List ByteArray), wayN (mapL l) (k + (pcs x.f1).length) emp fl (pcs x.f1 ++ r) = wayN (mapL l) k x.f1 fl r
  | n, x, hx, h0, hn, k, fl, r => by
    have hv := T.valid x hx
    have step (p b : ByteArray) (k : Nat) (hu : underB p b = x.f1) (hb : nameB b = true) : wayN (mapL l) (k + 1) p fl (b :: r) = wayN (mapL l) k x.f1 fl r := by
      rw [wayN_cons]
      unfold wayS
      rw [if_neg (name_ok hb).1, if_neg (name_ok hb).2.1, hu, T.own x hx]
      dsimp only
      rw [if_neg (by omega), if_pos h0]
    rcases par_cut x.f1 hv with ⟨h1, h2, h3⟩ | ⟨h1, b, h2, h3⟩
    · rw [h3]
      exact step emp x.f1 k (by unfold underB; rw [if_pos (show emp.size = 0 from rfl)]) (valid_pcs hv _ (by rw [h3]; simp))
    · obtain ⟨y, hy, e1, e2⟩ := T.up x hx h1
      have hyv := pcs_pos (T.valid y hy)
      rw [e1] at hyv
      have hlt : y.f1.size < x.f1.size := by
        rw [e1]
        have := congrArg ByteArray.size h2
        rw [ByteArray.size_append, ByteArray.size_append, show slash.size = 1 from rfl] at this
        omega
      have hnpos : 0 < n := by omega
      have ih := way_dir l T (n - 1) y hy e2 (by omega) (k + 1) fl (b :: r)
      rw [e1] at ih
      rw [h3, List.length_append, List.append_assoc, List.singleton_append, List.length_singleton, show k + ((pcs (parB x.f1).1).length + 1) = k + 1 + (pcs (parB x.f1).1).length by omega, ih]
      exact step _ b k (underB_par _ hyv h2) (valid_pcs hv _ (by rw [h3]; simp))
/-- Real, plainly. -/
def realF (M : NMap) (s : ByteArray) : ByteArray × Int :=
  if s.size = 0 then (emp, 0) else if validB s = false then (emp, 20) else
  if (way M (pcs s).dropLast).2 = 0 then (underB (way M (pcs s).dropLast).1 ((pcs s).getLastD emp), 0) else (emp, (way M (pcs s).dropLast).2)
def toOf (x : Nd) : ByteArray := if (parB x.f1).1.size = 0 then strOfNums x.f2 else (parB x.f1).1 ++ slash ++ strOfNums x.f2
/-- THE LAW: behind a link to a folder, as behind the folder. -/
theorem links_law (l : List Nd) (T : IsTree l) (x : Nd) (hx : x ∈ l) (h3 : x.f0 = 3) (hd : validB (strOfNums x.f2) = true) (name : ByteArray) (hv1 : validB (toOf x ++ slash ++ name) = true) (hv2 : validB (x.f1 ++ slash ++ name) = true)
    (h : (realF (mapL l) (toOf x ++ slash ++ name)).2 = 0) :
    ((realF (mapL l) (x.f1 ++ slash ++ name)).2 = 0 ∧ (realF (mapL l) (x.f1 ++ slash ++ name)).1 = (realF (mapL l) (toOf x ++ slash ++ name)).1) ∨ (realF (mapL l) (x.f1 ++ slash ++ name)).2 = 34 := by
  have hxv := T.valid x hx
  have hS := small_tree l T
  obtain ⟨nm, q, hnq⟩ : ∃ nm q, pcs name = nm ++ [q] := ⟨(pcs name).dropLast, (pcs name).getLast (pcs_ne name), (List.dropLast_concat_getLast (pcs_ne name)).symm⟩
  have hdabs : absB (strOfNums x.f2) = false := by
    cases ha : absB (strOfNums x.f2)
    · rfl
    · unfold absB at ha
      have h1 : (strOfNums x.f2).data.toList.head? = some 47 := by simpa using ha
      obtain ⟨r, hr⟩ : ∃ r, (strOfNums x.f2).data.toList = 47 :: r := by
        cases hl : (strOfNums x.f2).data.toList with
        | nil => rw [hl] at h1; simp at h1
        | cons c r => rw [hl] at h1; simp at h1; exact ⟨r, by rw [h1]⟩
      have h2 : emp ∈ pcs (strOfNums x.f2) := by unfold pcs; rw [hr]; simp [cut]; exact .inl rfl
      have := (name_ok (valid_pcs hd _ h2)).2.2
      exact absurd this (by decide)
  -- the pieces of both, with the parent's ahead
  obtain ⟨pp, b, hp1, hp2, hub, hgo⟩ : ∃ (pp : List ByteArray) (b : ByteArray), pcs x.f1 = pp ++ [b] ∧ pcs (toOf x) = pp ++ pcs (strOfNums x.f2) ∧ underB (parB x.f1).1 b = x.f1 ∧ ∀ (k fl : Nat) (r : List ByteArray), wayN (mapL l) (k + pp.length) emp fl (pp ++ r) = wayN (mapL l) k (parB x.f1).1 fl r := by
    rcases par_cut x.f1 hxv with ⟨h1, h2, h4⟩ | ⟨h1, b, h2, h4⟩
    · refine ⟨[], x.f1, h4, ?_, ?_, fun k fl r => by rw [h2]; rfl⟩
      · unfold toOf; rw [h2, if_pos (show emp.size = 0 from rfl)]; rfl
      · rw [h2]; rfl
    · obtain ⟨y, hy, e1, e2⟩ := T.up x hx h1
      have hyv := pcs_pos (T.valid y hy)
      rw [e1] at hyv
      refine ⟨pcs (parB x.f1).1, b, h4, ?_, underB_par _ hyv h2, fun k fl r => ?_⟩
      · unfold toOf; rw [if_neg (by omega), pcs_mid]
      · have := way_dir l T _ y hy e2 (Nat.le_refl _) k fl r
        rw [e1] at this
        exact this
  have hb : nameB b = true := valid_pcs hxv _ (by rw [hp1]; simp)
  have e1 : pcs (toOf x ++ slash ++ name) = (pp ++ (pcs (strOfNums x.f2) ++ nm)) ++ [q] := by rw [pcs_mid, hp2, hnq]; simp
  have e2 : pcs (x.f1 ++ slash ++ name) = (pp ++ (b :: nm)) ++ [q] := by rw [pcs_mid, hp1, hnq]; simp
  have s1 : ¬ (toOf x ++ slash ++ name).size = 0 := by have := pcs_pos hv1; omega
  have s2 : ¬ (x.f1 ++ slash ++ name).size = 0 := by have := pcs_pos hv2; omega
  unfold realF at h ⊢
  rw [if_neg s1, if_neg (by rw [hv1]; simp), e1, List.dropLast_concat, List.getLastD_concat] at h
  rw [if_neg s1, if_neg s2, if_neg (show ¬ validB (x.f1 ++ slash ++ name) = false by rw [hv2]; simp), if_neg (show ¬ validB (toOf x ++ slash ++ name) = false by rw [hv1]; simp), e1, e2, List.dropLast_concat, List.dropLast_concat, List.getLastD_concat, List.getLastD_concat]
  -- both ways from the parent on, at one number of steps
  have w1 : ∀ K, mu 0 (pp ++ (pcs (strOfNums x.f2) ++ nm)) < K → way (mapL l) (pp ++ (pcs (strOfNums x.f2) ++ nm)) = wayN (mapL l) K emp 0 (pp ++ (pcs (strOfNums x.f2) ++ nm)) := fun K hK => wayN_enough _ hS _ _ _ _ _ (by omega) (by unfold mu; omega) hK
  have w2 : ∀ K, mu 0 (pp ++ (b :: nm)) < K → way (mapL l) (pp ++ (b :: nm)) = wayN (mapL l) K emp 0 (pp ++ (b :: nm)) := fun K hK => wayN_enough _ hS _ _ _ _ _ (by omega) (by unfold mu; omega) hK
  generalize hK : mu 0 (pp ++ (pcs (strOfNums x.f2) ++ nm)) + mu 0 (pp ++ (b :: nm)) + 1 = K at *
  have v1 := w1 (K + pp.length) (by omega)
  have v2 := w2 (K + 1 + pp.length) (by omega)
  rw [hgo] at v1 v2
  have v3 : wayN (mapL l) (K + 1) (parB x.f1).1 0 (b :: nm) = wayN (mapL l) K (parB x.f1).1 1 (pcs (strOfNums x.f2) ++ nm) := by
    rw [wayN_cons]
    unfold wayS
    rw [if_neg (name_ok hb).1, if_neg (name_ok hb).2.1, hub, T.own x hx]
    dsimp only
    rw [if_neg (by omega), if_neg (by omega), if_neg (by omega), hdabs]
    rfl
  rw [v3] at v2
  rw [v1] at h ⊢
  rw [v2]
  by_cases hz : (wayN (mapL l) K (parB x.f1).1 0 (pcs (strOfNums x.f2) ++ nm)).2 = 0
  · rw [if_pos hz] at h ⊢
    rcases wayN_more (mapL l) K (parB x.f1).1 0 (pcs (strOfNums x.f2) ++ nm) hz with h7 | h7
    · rw [h7, if_pos hz]; exact .inl ⟨rfl, rfl⟩
    · rw [h7, if_neg (by simp)]; exact .inr rfl
  · rw [if_neg hz] at h
    exact absurd h hz
/-! ### the law's trial -/
def one : List Nd := [⟨1, ⟨#[97]⟩, [], 0, 0⟩, ⟨3, ⟨#[98]⟩, [97], 0, 0⟩]
theorem one_tree : chk one = (0, 0) := by kernel_rfl
theorem one_real : realF (mapL one) ⟨#[98, 47, 99]⟩ = (⟨#[97, 47, 99]⟩, 0) := by kernel_rfl
end Go.Proofs.YtageofdcloneoaaDoor.Vfs
set_option linter.unusedVariables false
set_option linter.unusedSimpArgs false
namespace Go.Proofs.YtageofdcloneoaaDoor.Vfs
open Go.RowKit Go.BigFrame Go.Maps Go.Proofs.YtageofdcloneoaaDoor.Reg Go.Proofs.YtageofdcloneoaaDoor.Rout Go.Proofs.YtageofdcloneoaaDoor.Node Go.Proofs.YtageofdcloneoaaDoor.Tree Go.Proofs.YtageofdcloneoaaDoorW.PrintWords Go.Proofs.YtageofdcloneoaaDoorW.PrintLast Go.Proofs.YtageofdcloneoaaDoorW.PrintMore
/-! ### bytes.Clone -/
theorem bclone_calls (A : Option Addr) (c : Nat) (xs : List Int) (w : World) (hC : (Kd.int .u8).C w A xs.length xs) (hl : xs.length ≤ 140737488355328) :
    Calls Tryd.prog 20 #[.slice A xs.length c] w fun e w' => ∃ v, e = .returned v ∧ (Kd.int .u8).R 5 w' w.heap.size (fun _ => True) v xs ∧ Below w.heap.size w w' := by
  cases A with
  | none =>
    have h0 : xs.length = 0 := by
      rcases Nat.eq_zero_or_pos xs.length with h | h
      · exact h
      · obtain ⟨ad, he, _⟩ := Kd.at_int hC 0 (by omega) (by omega)
        cases he
    obtain rfl : xs = [] := List.eq_nil_of_length_eq_zero h0
    refine (Tryd.bytes_Clone_nil 0 c w).mono fun e w' ⟨he, hw⟩ => ⟨_, he, ?_, ?_⟩
    · rw [hw]; exact Kd.R_nil _ _ _ _ _
    · rw [hw]; exact Below.refl _ _
  | some ad =>
    refine (Tryd.bytes_Clone_at ad xs.length c xs w rfl hl (fun i hi => ?_)).mono fun e w' ⟨v, he, hown, _, hb⟩ => ⟨v, he, Kd.R_of_own hown (fun _ _ => trivial), hb⟩
    obtain ⟨ad2, hA2, hx2⟩ := Kd.at_int hC (i : Int) (by omega) (by omega)
    obtain rfl := Option.some.inj hA2
    rw [Int.toNat_natCast] at hx2
    rw [hx2]
    unfold rd
    rw [Int.toNat_natCast]
/-! ### the map of nodes: each element is read as its very value -/
def rawR (v : Value) : Option (DataW Value × List MemPlace) := some (.held v, [])
abbrev ownN (w : World) (b n : Nat) (D : DataW Value) : Prop := w.ownsMap Tryd.prog 9 rawR b n D
def zeroNode : Value := .agg #[.int .i64 0, .string ⟨#[]⟩, .slice none 0 0, .int .i64 0, .int .i64 0]
theorem zeroN (w : World) : (zeroValue 33).run Tryd.prog w = .ok zeroNode w := by kernel_rfl
/-- At each path what the map M says, with bytes in blocks that are ok. -/
def Says (D : DataW Value) (w : World) (base : Nat) (ok : Nat → Prop) (M : NMap) : Prop :=
  ∀ p : ByteArray, (M p = none → Maps.has D (.string p.data.toList) = false) ∧ ∀ x, M p = some x → Maps.has D (.string p.data.toList) = true ∧ ∃ cs : List Value, D.atKey (.string p.data.toList) (.held zeroNode) = .held (.agg cs.toArray) ∧ kN.M w base ok x cs
def MapAt (w : World) (base b n : Nat) (ok : Nat → Prop) (M : NMap) : Prop := ∃ D, ownN w b n D ∧ Says D w base ok M
theorem Says.kept {D : DataW Value} {w w' : World} {base : Nat} {ok : Nat → Prop} {M : NMap} (h : Says D w base ok M) (hm : ∀ q, ok q → q < w.heap.size → w'.heap[q]? = w.heap[q]?) : Says D w' base ok M := fun p => ⟨(h p).1, fun x hx => by
  obtain ⟨g1, cs, g2, g3⟩ := (h p).2 x hx
  exact ⟨g1, cs, g2, Kd.M_step g3 hm⟩⟩
theorem MapAt.kept {w w' : World} {base b n : Nat} {ok : Nat → Prop} {M : NMap} (h : MapAt w base b n ok M) (hb : w'.heap[b]? = w.heap[b]?) (hm : ∀ q, ok q → q < w.heap.size → w'.heap[q]? = w.heap[q]?) : MapAt w' base b n ok M := by
  obtain ⟨D, ⟨es, clock, h1, h2⟩, hp⟩ := h
  exact ⟨D, ⟨es, clock, hb.trans h1, h2⟩, hp.kept hm⟩
theorem MapAt.lt {w : World} {base b n : Nat} {ok : Nat → Prop} {M : NMap} (h : MapAt w base b n ok M) : b < w.heap.size := by
  obtain ⟨D, h1, _⟩ := h
  exact h1.lt
theorem MapAt.below {w w' : World} {base b n : Nat} {ok : Nat → Prop} {M : NMap} (h : MapAt w base b n ok M) (hb : Below w.heap.size w w') : MapAt w' base b n ok M :=
  h.kept (hb.block b h.lt) (fun q _ hq => hb.block q hq)
theorem Says.put {D : DataW Value} {w w' : World} {base : Nat} {ok : Nat → Prop} {M : NMap} (h : Says D w base ok M) (hD : IsMap D) (x : Nd) (cs : List Value) (hm : ∀ q, ok q → q < w.heap.size → w'.heap[q]? = w.heap[q]?) (hx : kN.M w' base ok x cs) :
    Says (D.put (.string x.f1.data.toList) (.held (.agg cs.toArray))) w' base ok (fun p => if x.f1 = p then some x else M p) := by
  intro p
  by_cases he : x.f1 = p
  · subst he
    dsimp only
    rw [if_pos rfl]
    refine ⟨(fun h => by cases h), fun y hy => ?_⟩
    cases hy
    exact ⟨Maps.has_put_same hD (by trivial) _, cs, Maps.atKey_put_same hD (by trivial) _ _, hx⟩
  · dsimp only
    rw [if_neg he]
    have hne : Lit.string p.data.toList ≠ Lit.string x.f1.data.toList := fun e => he (ba_ext (by injection e with e; exact e.symm))
    rw [Maps.has_put_other hne, Maps.atKey_put_other hne]
    refine ⟨(h p).1, fun y hy => ?_⟩
    obtain ⟨g1, cs', g2, g3⟩ := (h p).2 y hy
    exact ⟨g1, cs', g2, Kd.M_step g3 hm⟩
theorem Says.eq {D : DataW Value} {w : World} {base : Nat} {ok : Nat → Prop} {M M' : NMap} (h : Says D w base ok M) (e : M = M') : Says D w base ok M' := e ▸ h
theorem MapAt.made (w : World) (base : Nat) (ok : Nat → Prop) : MapAt (w.alloc (.map #[] 0)) base w.heap.size 0 ok (fun _ => none) :=
  ⟨_, World.ownsMap_made w _ _ _, fun p => ⟨fun _ => rfl, fun x hx => by cases hx⟩⟩
/-- What a lookup finds. -/
theorem MapAt.look {w : World} {base b n : Nat} {ok : Nat → Prop} {M : NMap} (h : MapAt w base b n ok M) (p : ByteArray) (hp : p.size ≤ 140737488351232) :
    (M p = none → (Instr.lookup 54 (.map (some b)) (.string p) true).run Tryd.prog w = .ok (.tuple #[zeroNode, .bool false]) w) ∧
    ∀ x, M p = some x → ∃ cs : List Value, kN.M w base ok x cs ∧ (Instr.lookup 54 (.map (some b)) (.string p) true).run Tryd.prog w = .ok (.tuple #[.agg cs.toArray, .bool true]) w := by
  obtain ⟨D, h1, hq⟩ := h
  obtain ⟨v, ps, hrun, hv⟩ := h1.look_ok (z := zeroNode) (zd := .held zeroNode) (zp := []) key9 Tryd.underlying54 (zeroN w) rfl (Go.WideMaps.keyOf_string_mk (s := p) Tryd.underlying9 (by unfold maxLen; omega))
  unfold rawR at hv
  simp only [Option.some.injEq, Prod.mk.injEq] at hv
  refine ⟨fun hn => ?_, fun x hx => ?_⟩
  · have h0 := (hq p).1 hn
    rw [Maps.atKey_of_not_has h0] at hv
    obtain rfl : v = zeroNode := by injection hv.1
    rw [hrun, h0]
  · obtain ⟨g1, cs, g2, g3⟩ := (hq p).2 x hx
    rw [g2] at hv
    obtain rfl : v = .agg cs.toArray := by injection hv.1
    exact ⟨cs, g3, by rw [hrun, g1]⟩
/-! ### New -/
/-- The file system at g, its map at b: as it is made. -/
def FsNew (w : World) (g b : Nat) : Prop := w.heap[g]? = some (.cells #[.map (some b), .slice none 0 0, .int .i64 0, .bool false, .bool false, .int .i64 (-1)] 56 (0, 0))
theorem new_bad (A : Option Addr) (c : Nat) (l : List Nd) (w : World) (hC : kN.C w A l.length l) (hok : ∀ x ∈ l, Ok x) (hl : l.length ≤ 140737488351232) (hb : (chk l).2 ≠ 0) :
    Calls Tryd.prog 6 #[.slice A l.length c] w fun e w' => e = .returned (.tuple #[.pointer none, .int .i64 21]) ∧ Below w.heap.size w w' := by
  have H1 := Lib.hid (check_calls A c l w hC hok hl)
  clear hC hok
  generalize chk l = R at *
  have hb' : (R.2 != 0) = true := by simpa using hb
  clear hb
  go_enter Tryd.func6, Tryd.ntmps6
  go_wp2_with (go_at_call 7; refine H1.out.mono ?_; rintro e w1 ⟨rfl, hb1⟩)
  go_ret2
  exact ⟨rfl, hb1⟩
set_option maxRecDepth 100000 in
set_option maxHeartbeats 4000000 in
theorem new_good (A : Option Addr) (c : Nat) (l : List Nd) (w : World) (hC : kN.C w A l.length l) (hok : ∀ x ∈ l, Ok x) (hl : l.length ≤ 140737488351232) (hb : (chk l).2 = 0) :
    Calls Tryd.prog 6 #[.slice A l.length c] w fun e w' => ∃ b, e = .returned (.tuple #[.pointer (some ⟨b + 1, 0, none⟩), .int .i64 0]) ∧ w.heap.size ≤ b ∧ FsNew w' (b + 1) b ∧ MapAt w' w.heap.size b l.length (fun q => q ≠ b + 1 ∧ q ≠ b) (mapL l) ∧ Below w.heap.size w w' := by
  have HC := Lib.hid hC
  have HOK := Lib.hid hok
  have H1 := Lib.hid (check_calls A c l w hC hok hl)
  have hmm := @run_makeMap Tryd.prog
  have T := Lib.hid (tree_is l hb)
  clear hC hok
  rw [show chk l = ((chk l).1, 0) by rw [← hb]] at H1
  clear hb
  generalize (chk l).1 = R at *
  go_enter Tryd.func6, Tryd.ntmps6
  go_wp2_with (go_at_call 7; refine H1.out.mono ?_; rintro e w1 ⟨rfl, hb1⟩)
  have hs1 := hb1.size
  generalize hB : w1.heap.size = B at *
  go_loopw [8, 21] (fun _ i wr => ∃ k : Nat, i = .int .i64 k ∧ k ≤ l.length ∧ Hid (MapAt wr w.heap.size B k (fun q => q ≠ B + 1 ∧ q ≠ B) (mapL (l.take k))) ∧ Below w.heap.size w wr ∧ Hid (FsNew wr (B + 1) B) ∧ B + 1 < wr.heap.size) (fun _ i _ => (l.length - intOf i).toNat)
  case atStart =>
    refine ⟨0, rfl, by omega, Lib.hid ?_, ?_, Lib.hid ?_, by simp [hB]⟩
    · have h := (MapAt.made w1 w.heap.size (fun q => q ≠ B + 1 ∧ q ≠ B)).below (balloc (Below.refl _ _) (.cells #[.map (some B), .slice none 0 0, .int .i64 0, .bool false, .bool false, .int .i64 (-1)] 56))
      rw [hB] at h
      exact h
    · exact balloc (balloc hb1 _) _
    · have h := (MapKept.heap_alloc (w1.alloc (.map #[] 0)) (.cells #[.map (some B), .slice none 0 0, .int .i64 0, .bool false, .bool false, .int .i64 (-1)] 56)).1
      rw [World.size_alloc, hB] at h
      exact h
  case round =>
    obtain ⟨k, rfl, hk, hM, hbr, hF, hlt2⟩ := hrel
    by_cases hlt : k < l.length
    · obtain ⟨ad, A2, c2, hA, c0, c1, c2', c3, c4, hl2, hd⟩ := atN (Kd.C_below HC.out hbr) (k : Int) (by omega) (by omega)
      subst hA
      have hxm := rdN_mem l k hlt
      have hps := (HOK.out _ hxm).ds
      have hv := valid_size _ (T.out.valid _ hxm)
      have htk := Lib.hid (take_rdN l k hlt)
      have HD := Lib.hid hd
      rw [Int.toNat_natCast] at c0 c1 c2' c3 c4
      clear hxm hd
      generalize rdN l (k : Int) = x at *
      have k0 : (0 : Int) ≤ (k : Int) := by omega
      have k1 : (k : Int) < l.length := by omega
      have HB := Lib.hid (fun W (h : Below wr.heap.size wr W) => bclone_calls A2 c2 x.f2 W (Kd.C_below HD.out h) (by omega))
      go_upto_region 9 with (go_at_call 20; refine (HB.out _ (balloc (Below.refl _ _) _)).mono ?_; rintro e w3 ⟨v2, rfl, hR2, hb3⟩; obtain ⟨A3, e3, rfl, hl3, hC3⟩ := Kd.R_reads hR2; have q0 := bkeep hb3 (show (wr.alloc (.cells #[.int .i64 x.f0, .string x.f1, .slice A2 x.f2.length c2, .int .i64 x.f3, .int .i64 x.f4] 33)).cell? ⟨wr.heap.size, 0, none⟩ = some (.int .i64 x.f0) by simp); have q1 := bkeep hb3 (show (wr.alloc (.cells #[.int .i64 x.f0, .string x.f1, .slice A2 x.f2.length c2, .int .i64 x.f3, .int .i64 x.f4] 33)).cell? ⟨wr.heap.size, 1, none⟩ = some (.string x.f1) by simp); have q2 := bkeep hb3 (show (wr.alloc (.cells #[.int .i64 x.f0, .string x.f1, .slice A2 x.f2.length c2, .int .i64 x.f3, .int .i64 x.f4] 33)).cell? ⟨wr.heap.size, 2, none⟩ = some (.slice A2 x.f2.length c2) by simp); have q3 := bkeep hb3 (show (wr.alloc (.cells #[.int .i64 x.f0, .string x.f1, .slice A2 x.f2.length c2, .int .i64 x.f3, .int .i64 x.f4] 33)).cell? ⟨wr.heap.size, 3, none⟩ = some (.int .i64 x.f3) by simp); have q4 := bkeep hb3 (show (wr.alloc (.cells #[.int .i64 x.f0, .string x.f1, .slice A2 x.f2.length c2, .int .i64 x.f3, .int .i64 x.f4] 33)).cell? ⟨wr.heap.size, 4, none⟩ = some (.int .i64 x.f4) by simp); have qf : w3.frozen? ⟨wr.heap.size, 2, none⟩ = false := (hb3.frozen (p := ⟨wr.heap.size, 2, none⟩) (by simp)).trans (by simp))
      have HBN := Lib.hid (((balloc (Below.refl wr.heap.size wr) (.cells #[.int .i64 x.f0, .string x.f1, .slice A2 x.f2.length c2, .int .i64 x.f3, .int .i64 x.f4] 33)).trans (hb3.mono (by simp))).setCell (p := ⟨wr.heap.size, 2, none⟩) (Nat.le_refl _) (.slice A3 x.f2.length e3))
      have hs3 := hb3.size
      rw [World.size_alloc] at hs3
      have HR := Lib.hid (Kd.R_far (p := ⟨wr.heap.size, 2, none⟩) (Kd.R_mono (Kd.R_lower (Kd.R_bound hR2) (show w.heap.size ≤ _ by have := hbr.size; simp; omega)) (ok' := fun q => q ≠ B + 1 ∧ q ≠ B ∧ q ≠ wr.heap.size) (fun q hq => by have := hq.2.1; simp at this; omega)) (fun q hq => hq.2.2) (.slice A3 x.f2.length e3))
      have HFC := Lib.hid (show (w3.setCell ⟨wr.heap.size, 2, none⟩ (.slice A3 x.f2.length e3)).heap[B + 1]? = _ from (HBN.out.block (B + 1) hlt2).trans hF.out)
      refine wp_world ?_
      intro w4 hw4
      rw [← hw4] at HBN HR HFC
      have p0 : w4.cell? ⟨wr.heap.size, 0, none⟩ = some (.int .i64 x.f0) := by rw [hw4]; go_simp
      have p1 : w4.cell? ⟨wr.heap.size, 1, none⟩ = some (.string x.f1) := by rw [hw4]; go_simp
      have p2 : w4.cell? ⟨wr.heap.size, 2, none⟩ = some (.slice A3 x.f2.length e3) := by rw [hw4]; go_simp
      have p3 : w4.cell? ⟨wr.heap.size, 3, none⟩ = some (.int .i64 x.f3) := by rw [hw4]; go_simp
      have p4 : w4.cell? ⟨wr.heap.size, 4, none⟩ = some (.int .i64 x.f4) := by rw [hw4]; go_simp
      clear q0 q1 q2 q3 q4 qf hb3 hR2 hC3 c0 c1 c2' c3 c4 hw4
      have pF : w4.cell? ⟨B + 1, 0, none⟩ = some (.map (some B)) := by simp [World.cell?, HFC.out]
      go_still_tail 7, (by kernel_rfl)
      have hM4 := hM.out.below HBN.out
      obtain ⟨D, hown, hsays⟩ := hM4
      have HS := Lib.hid hsays
      have HIM := Lib.hid hown.isMap
      clear hsays hM
      go_wp2_with (at_mapUpdate; refine wpList_mapUpdate_own _ rfl _ _ _ 54 rfl 9 33 key9 Tryd.underlying54 _ B k D rfl hown (by unfold maxLen; omega) _ (.agg #[.int .i64 x.f0, .string x.f1, .slice A3 x.f2.length e3, .int .i64 x.f3, .int .i64 x.f4]) _ rfl rfl (Go.WideMaps.keyOf_string_mk Tryd.underlying9 (by unfold maxLen; omega)) _ [] rfl ?_; intro w5 hown5 hgr5)
      have HB5 := Lib.hid ((bdrew (bgo hbr HBN.out)).grown hgr5 (Nat.le_trans hbr.size HBN.out.size) (fun j e => by injection e with e; omega))
      have hs5 : w4.heap.size ≤ w5.heap.size := hgr5.size
      have hs4 := HBN.out.size
      have HF5 := Lib.hid (show FsNew w5 (B + 1) B from (hgr5.block (B + 1) (by show _ < w4.heap.size; omega) (by simp)).trans HFC.out)
      have hmv : ∀ q, (q ≠ B + 1 ∧ q ≠ B) → q < w4.heap.size → w5.heap[q]? = w4.heap[q]? := fun q hq hlt => hgr5.block q hlt (fun e => by injection e with e; exact hq.2 e)
      have HM5 := Lib.hid (show MapAt w5 w.heap.size B (k + 1) (fun q => q ≠ B + 1 ∧ q ≠ B) (mapL (l.take (k + 1))) from ⟨_, hown5, (HS.out.put HIM.out x [.int .i64 x.f0, .string x.f1, .slice A3 x.f2.length e3, .int .i64 x.f3, .int .i64 x.f4] hmv
        (kN_mkM _ _ _ x (v2 := .slice A3 x.f2.length e3) (Kd.R_mono (Kd.R_step HR.out (fun q hq hlt => hmv q ⟨hq.1, hq.2.1⟩ hlt)) (fun q hq => ⟨hq.1, hq.2.1⟩)))).eq (by funext p; rw [htk.out, mapL_snoc])⟩)
      clear hown5 hgr5 hown HS HIM hmv HR
      go_roundw
      case rel => exact ⟨k + 1, by go_num, by omega, HM5, HB5.out, HF5, by omega⟩
      case measure => simp [intOf]; omega
    · obtain rfl : k = l.length := by omega
      rw [List.take_length] at hM
      go_wp2
      go_ret2
      exact ⟨B, rfl, by omega, hF.out, hM.out, hbr⟩
end Go.Proofs.YtageofdcloneoaaDoor.Vfs
set_option linter.unusedVariables false
set_option linter.unusedSimpArgs false
namespace Go.Proofs.YtageofdcloneoaaDoor.Vfs
open Go.RowKit Go.BigFrame Go.Maps Go.Proofs.YtageofdcloneoaaDoor.Reg Go.Proofs.YtageofdcloneoaaDoor.Rout Go.Proofs.YtageofdcloneoaaDoor.Node Go.Proofs.YtageofdcloneoaaDoor.Tree Go.Proofs.YtageofdcloneoaaDoorW.PrintWords Go.Proofs.YtageofdcloneoaaDoorW.PrintLast Go.Proofs.YtageofdcloneoaaDoorW.PrintMore
attribute [local go_sem ↓] Go.wp_at_zero Go.wp_at_succ
set_option maxRecDepth 10000 in
/-- What a lookup finds, in every world above. -/
theorem MapAt.look_all {w : World} {base b n : Nat} {ok : Nat → Prop} {M : NMap} (h : MapAt w base b n ok M) (p : ByteArray) (hp : p.size ≤ 140737488351232) (x : Nd) (hx : M p = some x) :
    ∃ A2 c2, x.f2.length ≤ c2 ∧ ∀ W, Below w.heap.size w W → (Kd.int .u8).C W A2 x.f2.length x.f2 ∧ (Instr.lookup 54 (.map (some b)) (.string p) true).run Tryd.prog W = .ok (.tuple #[.agg #[.int .i64 x.f0, .string x.f1, .slice A2 x.f2.length c2, .int .i64 x.f3, .int .i64 x.f4], .bool true]) W := by
  obtain ⟨D, h1, hq⟩ := h
  obtain ⟨g1, cs, g2, g3⟩ := (hq p).2 x hx
  obtain ⟨A2, c2, rfl, l2, d2⟩ := kN_open (kN.K_of_M g3)
  refine ⟨A2, c2, l2, fun W hW => ⟨Kd.C_below d2 hW, ?_⟩⟩
  obtain ⟨v, ps, hrun, hv⟩ := (h1.kept (row := none) (grownBy_of_below hW) (by simp)).look_ok (z := zeroNode) (zd := .held zeroNode) (zp := []) key9 Tryd.underlying54 (zeroN W) rfl (Go.WideMaps.keyOf_string_mk (s := p) Tryd.underlying9 (by unfold maxLen; omega))
  unfold rawR at hv
  simp only [Option.some.injEq, Prod.mk.injEq] at hv
  rw [g2] at hv
  rw [hrun, g1, show v = Value.agg _ from DataW.held.inj hv.1]
theorem toList_nil (a : ByteArray) (h : a.size = 0) : a.toList = [] := by
  rw [toList_data]; exact List.eq_nil_of_length_eq_zero (by rw [size_data]; exact h)
theorem toList_ne (a : ByteArray) (h : ¬ a.size = 0) : a.toList.isEmpty = false := by
  rw [toList_data]
  cases hl : a.data.toList with
  | nil => have := size_data a; rw [hl] at this; simp at this; omega
  | cons _ _ => rfl
theorem under_calls (a b : ByteArray) (w : World) (ha : a.size ≤ 140737488351232) (hb : b.size ≤ 140737488351232) :
    Calls Tryd.prog 62 #[.string a, .string b] w fun e w' => e = .returned (.string (underB a b)) ∧ w = w' := by
  by_cases h : a.size = 0
  · have h1 := toList_nil a h
    have HU := Lib.hid (show underB a b = b by unfold underB; rw [if_pos h])
    clear h
    go_enter Tryd.func62, Tryd.ntmps62
    go_wp2
    go_ret
    rw [HU.out]
    exact ⟨rfl, rfl⟩
  · have h1 := toList_ne a h
    have HU := Lib.hid (show underB a b = a ++ ⟨#[47]⟩ ++ b by unfold underB; rw [if_neg h]; rfl)
    clear h
    go_enter Tryd.func62, Tryd.ntmps62
    go_wp2
    go_ret
    rw [HU.out]
    exact ⟨rfl, rfl⟩
theorem hasPrefix_abs (s : ByteArray) : Lib.hasPrefix s.data.toList (⟨#[47]⟩ : ByteArray).data.toList = absB s := by
  unfold Lib.hasPrefix absB
  show List.isPrefixOf [47] s.data.toList = _
  cases s.data.toList with
  | nil => rfl
  | cons c r => simp [List.isPrefixOf, Bool.beq_comm]
theorem prefix_calls (s : ByteArray) (w : World) : Calls Tryd.prog 31 #[.string s, .string ⟨#[47]⟩] w fun e w' => e = .returned (.bool (absB s)) ∧ w = w' :=
  (Tryd.strings_HasPrefix s ⟨#[47]⟩ w).mono fun e w' ⟨h1, h2⟩ => ⟨by rw [h1, hasPrefix_abs], h2.symm⟩
/-- strings.Split: a row of its own. -/
theorem split_row (s : ByteArray) (w : World) (hs : s.size < 4294967281) :
    Calls Tryd.prog 46 #[.string s, .string ⟨#[47]⟩] w fun e w' => ∃ v, e = .returned v ∧ Kd.string.R 9 w' w.heap.size (fun _ => True) v (pcs s) ∧ Below w.heap.size w w' := by
  have hl : (pcs s).length ≤ 9223372036854775807 := by have := pcs_le s; omega
  refine (split_calls s w hs).mono fun e w' ⟨he, hw⟩ => ⟨_, he, ?_, ?_⟩
  · rw [hw]
    have hown := own_lit_of (enc := Value.string) w w.heap.size 9 (pcs s) (Nat.le_refl _) hl
    exact Kd.R_of_own hown (fun _ _ => trivial)
  · rw [hw]; exact balloc (Below.refl _ _) _
theorem infoS : (Tryd.prog.info? 9).map (fun i => (i.zero, i.size, i.bytes)) = some (some (.string ⟨#[]⟩), 1, 16) := by kernel_rfl
/-- How far the way has still to go. -/
def muV : Value → Value → Nat
  | .int _ f, .slice _ n _ => (17 - f.toNat) * 1100 + n
  | _, _ => 0
theorem muV_mk (k : IntKind) (fl : Nat) (A : Option Addr) (t : List ByteArray) (c : Nat) : muV (.int k fl) (.slice A t.length c) = mu fl t := by show (17 - (fl : Int).toNat) * 1100 + t.length = _; unfold mu; rw [Int.toNat_natCast]
/-- What is asked of a map of nodes. -/
structure Fine (M : NMap) : Prop where
  small : Small M
  path : ∀ p x, M p = some x → x.f1.size ≤ 1024
  kind : ∀ p x, M p = some x → x.f0 = 1 ∨ x.f0 = 2 ∨ x.f0 = 3
  data : ∀ p x, M p = some x → x.f2.length ≤ 268435456
structure WayAt (M : NMap) (ps : List ByteArray) (w wr : World) (a : ByteArray) (fl : Nat) (t : List ByteArray) (A : Option Addr) (c : Nat) : Prop where
  cap : t.length ≤ c
  few : fl ≤ 16
  at_ : a.size ≤ 1024
  piece : ∀ p ∈ t, p.size ≤ 1024
  low : mu fl t ≤ mu 0 ps
  row : Kd.string.C wr A t.length t
  below : Below w.heap.size w wr
  goes : wayN M (mu fl t + 1) a fl t = Vfs.way M ps
theorem WayAt.len {M : NMap} {ps : List ByteArray} {w wr : World} {a : ByteArray} {fl : Nat} {t : List ByteArray} {A : Option Addr} {c : Nat} (h : WayAt M ps w wr a fl t A c) (hps : ps.length ≤ 1100) : t.length ≤ 20000 := by
  have := h.low
  unfold mu at this
  omega
theorem len_of {fl fl' : Nat} {t t' ps : List ByteArray} (h1 : mu fl' t' < mu fl t) (h2 : mu fl t ≤ mu 0 ps) (h3 : ps.length ≤ 1100) : t'.length ≤ 20000 := by
  have e : mu 0 ps = 18700 + ps.length := rfl
  have k : t'.length ≤ mu fl' t' := Nat.le_add_left _ _
  omega
theorem WayAt.next {M : NMap} {ps : List ByteArray} {w wr w' : World} {a b : ByteArray} {fl f : Nat} {p : ByteArray} {r t : List ByteArray} {A A' : Option Addr} {c c' : Nat} (h : WayAt M ps w wr a fl (p :: r) A c) (hM : Small M) (hs : wayS M a fl p r = .inl (b, f, t))
    (hb : b.size ≤ 1024) (hp : ∀ x ∈ t, x.size ≤ 1024) (hc : t.length ≤ c') (hrow : Kd.string.C w' A' t.length t) (hbel : Below w.heap.size w w') : WayAt M ps w w' b f t A' c' := by
  obtain ⟨h1, h2⟩ := wayS_less M hM a fl p r b f t h.few hs
  refine ⟨hc, h1, hb, hp, by have := h.low; omega, hrow, hbel, ?_⟩
  rw [← h.goes, wayN_cons, hs]
  exact wayN_enough M hM _ _ _ _ _ h1 (by omega) (by omega)
theorem WayAt.stop {M : NMap} {ps : List ByteArray} {w wr : World} {a : ByteArray} {fl : Nat} {p : ByteArray} {r : List ByteArray} {A : Option Addr} {c : Nat} {e : Int} (h : WayAt M ps w wr a fl (p :: r) A c) (hs : wayS M a fl p r = .inr e) : way M ps = (emp, e) := by
  rw [← h.goes, wayN_cons, hs]
/-- The ways of a step. -/
theorem wayS_stay (M : NMap) (a : ByteArray) (fl : Nat) (p : ByteArray) (r : List ByteArray) (h : p.toList = [] ∨ p.toList = [46]) : wayS M a fl p r = .inl (a, fl, r) := by
  rw [toList_data] at h; unfold wayS; rw [if_pos h]
theorem wayS_up (M : NMap) (a : ByteArray) (fl : Nat) (p : ByteArray) (r : List ByteArray) (h : p.toList = [46, 46]) : wayS M a fl p r = .inl ((parB a).1, fl, r) := by
  rw [toList_data] at h; unfold wayS; rw [if_neg (by rw [h]; simp), if_pos h]
theorem wayS_in (M : NMap) (a : ByteArray) (fl : Nat) (p : ByteArray) (r : List ByteArray) (h1 : ¬ p.toList = []) (h2 : ¬ p.toList = [46]) (h3 : ¬ p.toList = [46, 46]) : wayS M a fl p r = match M (underB a p) with
    | none => .inr 31
    | some n => if n.f0 = 2 then .inr 33 else if n.f0 = 1 then .inl (n.f1, fl, r) else if 16 < fl + 1 then .inr 34
      else .inl (if absB (strOfNums n.f2) = true then emp else a, fl + 1, pcs (strOfNums n.f2) ++ r) := by
  rw [toList_data] at h1 h2 h3; unfold wayS; rw [if_neg (fun h => h.elim h1 h2), if_neg h3]; try (cases M (underB a p) <;> rfl)
theorem parB_le (a : ByteArray) (h : a.size ≤ 1024) : (parB a).1.size ≤ 1024 := Nat.le_trans (parB_size a) h
theorem pcs_size (s p : ByteArray) (h : p ∈ pcs s) : p.size ≤ s.size := by
  unfold pcs at h
  obtain ⟨l, hl, rfl⟩ := List.mem_map.1 h
  rw [size_toB, ← size_data]
  generalize s.data.toList = m at hl
  clear h
  induction m generalizing l with
  | nil => simp [cut] at hl; subst hl; simp
  | cons c m ih =>
    by_cases hc : c = 47
    · simp only [cut, if_pos hc, List.mem_cons] at hl
      rcases hl with rfl | hl
      · simp
      · have := ih l hl; simp; omega
    · simp only [cut, if_neg hc] at hl
      cases hm : cut m with
      | nil => exact absurd hm (cut_ne m)
      | cons q qs =>
        rw [hm] at hl ih
        simp only [List.mem_cons] at hl
        rcases hl with rfl | hl
        · have := ih q (by simp); simp; omega
        · have := ih l (by simp [hl]); simp; omega
set_option maxRecDepth 100000 in
set_option maxHeartbeats 8000000 in
theorem way_calls (g base b n : Nat) (ok : Nat → Prop) (M : NMap) (q c : Nat) (ps : List ByteArray) (w : World) (hg : w.cell? ⟨g, 0, none⟩ = some (.map (some b))) (hM : MapAt w base b n ok M) (hF : Fine M) (hC : Kd.string.C w (some ⟨q, 0, none⟩) ps.length ps) (hc : ps.length ≤ c) (hps : ps.length ≤ 1100) (hpp : ∀ p ∈ ps, p.size ≤ 1024) :
    Calls Tryd.prog 61 #[.pointer (some ⟨g, 0, none⟩), .slice (some ⟨q, 0, none⟩) ps.length c] w fun e w' => e = .returned (.tuple #[.string (way M ps).1, .int .i64 (way M ps).2]) ∧ Below w.heap.size w w' := by
  have HCL := Lib.hid (show Calls Tryd.prog 72 #[.slice (some ⟨q, 0, none⟩) ps.length c] w fun e w' => ∃ A c, e = .returned (.slice A ps.length c) ∧ ps.length ≤ c ∧ Kd.string.C w' A ps.length ps ∧ Below w.heap.size w w' from by
    refine (Tryd.slices_Clone_string q 0 ps.length c ps w (Nat.le_refl _) (by omega) (fun j hj => ?_)).mono fun e w' ⟨v, he, hown, _, hb⟩ => ?_
    · obtain ⟨ad, hA, hx⟩ := Kd.at_string hC (j : Int) (by omega) (by omega)
      obtain rfl := Option.some.inj hA
      rw [Int.toNat_natCast, add_plain] at hx
      rw [Nat.zero_add, hx]
      unfold rdOf
      rw [Int.toNat_natCast]
    · rw [List.take_length] at hown
      have hR : Kd.string.R 9 w' w.heap.size (fun _ => True) v ps := Kd.R_of_own hown (fun _ _ => trivial)
      obtain ⟨A, c, h1, h2, h3⟩ := Kd.R_reads hR
      exact ⟨A, c, by rw [he, h1], h2, h3, hb⟩)
  have HM := Lib.hid hM
  have HF := Lib.hid hF
  clear hM hF hC
  obtain ⟨i9, hi9, hz9⟩ := info_parts infoS
  have HI := Lib.hid (And.intro hi9 hz9)
  have HP := Lib.hid hps
  clear hi9 hz9
  go_enter Tryd.func61, Tryd.ntmps61
  go_wp2
  go_step3
  go_wp2_with (go_at_call 72; refine HCL.out.mono ?_; rintro e w1 ⟨A1, c1, rfl, hc1, hC1, hb1⟩)
  have HW1 := Lib.hid (show WayAt M ps w w1 emp 0 ps A1 c1 from ⟨hc1, by omega, by decide, hpp, Nat.le_refl _, hC1, hb1, rfl⟩)
  clear hC1 hb1
  go_step3
  go_wp2
  clear HCL hps hpp hc
  go_loopw [4, 5, 6, 7, 8, 9, 10, 11, 12, 24, 27, 45, 48, 52] (fun _ _ av fv tv _ _ _ _ _ _ _ _ _ wr => ∃ (a : ByteArray) (fl : Nat) (t : List ByteArray) (A : Option Addr) (c : Nat), av = .string a ∧ fv = .int .i64 fl ∧ tv = .slice A t.length c ∧ Hid (WayAt M ps w wr a fl t A c) ∧ t.length ≤ 20000) (fun _ _ _ fv tv _ _ _ _ _ _ _ _ _ _ => muV fv tv)
  case atStart => exact ⟨emp, 0, ps, A1, c1, rfl, rfl, rfl, HW1, by have := HP.out; omega⟩
  case round =>
    obtain ⟨a, fl, t, A, c, rfl, rfl, rfl, HW, hlen⟩ := hrel
    cases t with
    | nil =>
      have HR := Lib.hid (show way M ps = (a, 0) from HW.out.goes.symm)
      have HB := Lib.hid HW.out.below
      clear HW
      go_wp2
      (try simp only [Exit.noGoto_ret])
      go_ret2
      rw [HR.out]
      exact ⟨rfl, HB.out⟩
    | cons p r =>
      obtain ⟨ad, hA, hx⟩ := Kd.at_string HW.out.row 0 (by omega) (by simp)
      subst hA
      have hx : wr.cell? ad = some (.string p) := by simpa [Addr.add, rdOf] using hx
      have HD := Lib.hid (show Kd.string.C wr (if c = 1 then some ad else some ⟨ad.block, ad.off + 1, none⟩) r.length r from Kd.C_drop (m := 1) HW.out.row (by simp) HW.out.cap)
      have hcr : r.length ≤ c - 1 := by have := HW.out.cap; simp at this; omega
      have hpr := Lib.hid HW.out.piece
      have hasz := HW.out.at_
      have hpsz := hpr.out p (by simp)
      have HBL := Lib.hid HW.out.below
      go_upto_region 6 with (fail)
      generalize (if c = 1 then some ad else some (⟨ad.block, ad.off + 1, none⟩ : Addr)) = A3 at *
      by_cases h1 : p.toList = []
      · have h1b : p.toList.isEmpty = true := by rw [h1]; rfl
        have HN := Lib.hid (HW.out.next HF.out.small (wayS_stay M a fl p r (.inl h1)) hasz (fun x hx => hpr.out x (by simp [hx])) hcr HD.out HBL.out)
        have hm := Lib.hid (wayS_less M HF.out.small a fl p r a fl r HW.out.few (wayS_stay M a fl p r (.inl h1)))
        clear h1
        go_wp2
        go_roundw
        case rel => exact ⟨a, fl, r, A3, c - 1, rfl, rfl, rfl, HN, by simp at hlen; omega⟩
        case measure => rw [muV_mk, muV_mk]; exact hm.out.2
      have h1b : p.toList.isEmpty = false := by cases hl : p.toList with
        | nil => exact absurd hl h1
        | cons _ _ => rfl
      by_cases h2 : p.toList = [46]
      · have h2b : (p.toList == [46]) = true := beq_iff_eq.mpr h2
        have HN := Lib.hid (HW.out.next HF.out.small (wayS_stay M a fl p r (.inr h2)) hasz (fun x hx => hpr.out x (by simp [hx])) hcr HD.out HBL.out)
        have hm := Lib.hid (wayS_less M HF.out.small a fl p r a fl r HW.out.few (wayS_stay M a fl p r (.inr h2)))
        clear h1 h2
        go_wp2
        go_roundw
        case rel => exact ⟨a, fl, r, A3, c - 1, rfl, rfl, rfl, HN, by simp at hlen; omega⟩
        case measure => rw [muV_mk, muV_mk]; exact hm.out.2
      have h2b : (p.toList == [46]) = false := beq_eq_false_iff_ne.mpr h2
      by_cases h3 : p.toList = [46, 46]
      · have h3b : (p.toList == [46, 46]) = true := beq_iff_eq.mpr h3
        have HN := Lib.hid (fun w' hr hb => HW.out.next (w' := w') (A' := A3) (c' := c - 1) HF.out.small (wayS_up M a fl p r h3) (parB_le a hasz) (fun x hx => hpr.out x (by simp [hx])) hcr hr hb)
        have hm := Lib.hid (wayS_less M HF.out.small a fl p r (parB a).1 fl r HW.out.few (wayS_up M a fl p r h3))
        have HPC := Lib.hid (parent_calls a wr (by omega))
        clear h1 h2 h3
        go_wp2_with (go_at_call 22; refine HPC.out.mono ?_; rintro e w2 ⟨rfl, hb2⟩)
        go_roundw
        case rel => exact ⟨(parB a).1, fl, r, A3, c - 1, rfl, rfl, rfl, Lib.hid (HN.out _ (Kd.C_below HD.out hb2) (bgo HBL.out hb2)), by simp at hlen; omega⟩
        case measure => rw [muV_mk, muV_mk]; exact hm.out.2
      have h3b : (p.toList == [46, 46]) = false := beq_eq_false_iff_ne.mpr h3
      have HIN := Lib.hid (wayS_in M a fl p r h1 h2 h3)
      clear h1 h2 h3
      have hus : (underB a p).size ≤ 140737488351232 := by
        unfold underB
        split
        · omega
        · rw [ByteArray.size_append, ByteArray.size_append, show slash.size = 1 from rfl]; omega
      have HU := Lib.hid (fun W => under_calls a p W (by omega) (by omega))
      have HLK := Lib.hid (fun W (h : Below wr.heap.size wr W) => (HM.out.below (bgo HBL.out h)).look (underB a p) hus)
      have hgr := bkeep HBL.out hg
      generalize underB a p = u at *
      go_upto_region 11 with (fail)
      cases hn : M u with
      | none =>
        have HL := Lib.hid (fun W h => (HLK.out W h).1 hn)
        rw [hn] at HIN
        have HR := Lib.hid (HW.out.stop HIN.out)
        have hlk := HL.out wr (Below.refl _ _)
        clear HIN HLK hn
        go_region_held3 (fun w' => w'.cell? ⟨g, 0, none⟩ = some (.map (some b)) ∧ (Instr.lookup 54 (.map (some b)) (.string u) true).run Tryd.prog w' = .ok (.tuple #[.agg #[.int .i64 0, .string ⟨#[]⟩, .slice none 0 0, .int .i64 0, .int .i64 0], .bool false]) w') ((refine ⟨?_, HL.out _ ?_⟩; go_keep; repeat (first | with_reducible exact Below.refl _ _ | with_reducible refine bdrew ?_ | with_reducible refine balloc ?_ _ | with_reducible refine Below.setCell ?_ (by simp) _))) ((go_at_call 62; refine (HU.out _).mono ?_; rintro e w' ⟨rfl, rfl⟩))
        all_goals
          go_wp2
          (try simp only [Exit.inBlock, Exit.then, Exit.noGoto_ret])
          go_ret2
          rw [HR.out]
          exact ⟨rfl, bdrew (bgo HBL.out (balloc (Below.refl _ _) _))⟩
      | some x =>
        obtain ⟨A2, c2, l2, hL⟩ := (HM.out.below HBL.out).look_all u hus x hn
        have HL := Lib.hid hL
        have hfp := HF.out.path u x hn
        have hfs := Lib.hid (HF.out.small u x hn)
        rw [hn] at HIN
        have hlk := (HL.out wr (Below.refl _ _)).2
        clear HLK hL
        rcases HF.out.kind u x hn with hk | hk | hk
        · have HN := Lib.hid (fun w' hr hb => HW.out.next (w' := w') (A' := A3) (c' := c - 1) HF.out.small (by rw [HIN.out]; dsimp only; rw [if_neg (show ¬ x.f0 = 2 by omega), if_pos hk]) hfp (fun x hx => hpr.out x (by simp [hx])) hcr hr hb)
          have hm := Lib.hid (wayS_less M HF.out.small a fl p r x.f1 fl r HW.out.few (by rw [HIN.out]; dsimp only; rw [if_neg (show ¬ x.f0 = 2 by omega), if_pos hk]))
          rw [hk] at HL hlk
          clear HIN hn hk
          go_region_held3 (fun w' => w'.cell? ⟨g, 0, none⟩ = some (.map (some b)) ∧ (Instr.lookup 54 (.map (some b)) (.string u) true).run Tryd.prog w' = .ok (.tuple #[.agg #[.int .i64 1, .string x.f1, .slice A2 x.f2.length c2, .int .i64 x.f3, .int .i64 x.f4], .bool true]) w') ((refine ⟨?_, (HL.out _ ?_).2⟩; go_keep; repeat (first | with_reducible exact Below.refl _ _ | with_reducible refine bdrew ?_ | with_reducible refine balloc ?_ _ | with_reducible refine Below.setCell ?_ (by simp) _))) ((go_at_call 62; refine (HU.out _).mono ?_; rintro e w' ⟨rfl, rfl⟩))
          all_goals
            go_wp2
            go_roundw
            case rel => exact ⟨x.f1, fl, r, A3, c - 1, rfl, rfl, rfl, Lib.hid (HN.out _ (Kd.C_below HD.out (bdrew (balloc (Below.refl _ _) _))) (bgo HBL.out (bdrew (balloc (Below.refl _ _) _)))), by simp at hlen; omega⟩
            case measure => rw [muV_mk, muV_mk]; exact hm.out.2
        · have HR := Lib.hid (HW.out.stop (e := 33) (by rw [HIN.out]; dsimp only; rw [if_pos hk]))
          rw [hk] at HL hlk
          clear HIN hn hk
          go_region_held3 (fun w' => w'.cell? ⟨g, 0, none⟩ = some (.map (some b)) ∧ (Instr.lookup 54 (.map (some b)) (.string u) true).run Tryd.prog w' = .ok (.tuple #[.agg #[.int .i64 2, .string x.f1, .slice A2 x.f2.length c2, .int .i64 x.f3, .int .i64 x.f4], .bool true]) w') ((refine ⟨?_, (HL.out _ ?_).2⟩; go_keep; repeat (first | with_reducible exact Below.refl _ _ | with_reducible refine bdrew ?_ | with_reducible refine balloc ?_ _ | with_reducible refine Below.setCell ?_ (by simp) _))) ((go_at_call 62; refine (HU.out _).mono ?_; rintro e w' ⟨rfl, rfl⟩))
          all_goals
            go_wp2
            (try simp only [Exit.inBlock, Exit.then, Exit.noGoto_ret])
            go_ret2
            rw [HR.out]
            exact ⟨rfl, bdrew (bgo HBL.out (balloc (Below.refl _ _) _))⟩
        · rw [hk] at HL hlk
          have hsz := hfs.out (by omega) (by omega)
          have hlk2 := Lib.hid hlk
          by_cases h16 : 16 < fl + 1
          · have HR := Lib.hid (HW.out.stop (e := 34) (by rw [HIN.out]; dsimp only; rw [if_neg (show ¬ x.f0 = 2 by omega), if_neg (show ¬ x.f0 = 1 by omega), if_pos h16]))
            have h16b : (16 : Int) < (fl : Int) + 1 := by omega
            have hfew := HW.out.few
            clear HIN hn hk
            go_region_held3 (fun w' => w'.cell? ⟨g, 0, none⟩ = some (.map (some b)) ∧ (Instr.lookup 54 (.map (some b)) (.string u) true).run Tryd.prog w' = .ok (.tuple #[.agg #[.int .i64 3, .string x.f1, .slice A2 x.f2.length c2, .int .i64 x.f3, .int .i64 x.f4], .bool true]) w') ((refine ⟨?_, (HL.out _ ?_).2⟩; go_keep; repeat (first | with_reducible exact Below.refl _ _ | with_reducible refine bdrew ?_ | with_reducible refine balloc ?_ _ | with_reducible refine Below.setCell ?_ (by simp) _))) ((go_at_call 62; refine (HU.out _).mono ?_; rintro e w' ⟨rfl, rfl⟩))
            all_goals
              go_wp2
              (try simp only [Exit.inBlock, Exit.then, Exit.noGoto_ret])
              go_ret2
              rw [HR.out]
              exact ⟨rfl, bdrew (bgo HBL.out (balloc (Below.refl _ _) _))⟩
          · have HST := Lib.hid (show wayS M a fl p r = .inl (if absB (strOfNums x.f2) = true then emp else a, fl + 1, pcs (strOfNums x.f2) ++ r) by rw [HIN.out]; dsimp only; rw [if_neg (show ¬ x.f0 = 2 by omega), if_neg (show ¬ x.f0 = 1 by omega), if_neg h16])
            have hm := Lib.hid (wayS_less M HF.out.small a fl p r _ _ _ HW.out.few HST.out)
            have h16b : ¬ (16 : Int) < (fl : Int) + 1 := by omega
            have htz : (strOfNums x.f2).size ≤ 1024 := by rw [strOfNums_size]; exact hsz
            have HCV := Lib.hid (fun W (h : Below wr.heap.size wr W) => Kd.C_string (P := Tryd.prog) (w := W) (src := 31) (dst := 9) (c := c2) Tryd.underlying31 Tryd.underlying5 Tryd.underlying9 (HL.out W h).1)
            clear HIN hn hk
            go_region_held3 (fun w' => w'.cell? ⟨g, 0, none⟩ = some (.map (some b)) ∧ (Instr.lookup 54 (.map (some b)) (.string u) true).run Tryd.prog w' = .ok (.tuple #[.agg #[.int .i64 3, .string x.f1, .slice A2 x.f2.length c2, .int .i64 x.f3, .int .i64 x.f4], .bool true]) w') ((refine ⟨?_, (HL.out _ ?_).2⟩; go_keep; repeat (first | with_reducible exact Below.refl _ _ | with_reducible refine bdrew ?_ | with_reducible refine balloc ?_ _ | with_reducible refine Below.setCell ?_ (by simp) _))) ((go_at_call 62; refine (HU.out _).mono ?_; rintro e w' ⟨rfl, rfl⟩))
            all_goals
              have hcv := HCV.out _ (bdrew (balloc (Below.refl wr.heap.size wr) (.cells #[.int .i64 3, .string x.f1, .slice A2 x.f2.length c2, .int .i64 x.f3, .int .i64 x.f4] 33)))
              go_upto_region 22 with (fail)
              have hfewb := HW.out.few
              have HB2 := Lib.hid (bdrew (balloc (Below.refl wr.heap.size wr) (.cells #[.int .i64 3, .string x.f1, .slice A2 x.f2.length c2, .int .i64 x.f3, .int .i64 x.f4] 33)))
              clear hcv hlk
              have HPX := Lib.hid (fun W => prefix_calls (strOfNums x.f2) W)
              have HSP := Lib.hid (fun W => split_row (strOfNums x.f2) W (by omega))
              have hln := pcs_le (strOfNums x.f2)
              have hpz := Lib.hid (fun y (hy : y ∈ pcs (strOfNums x.f2)) => pcs_size _ y hy)
              revert HB2
              generalize World.drew _ = W2
              intro HB2
              generalize strOfNums x.f2 = tx at *
              cases hab : absB tx
              · skip
                rw [hab] at HPX
                rw [hab, if_neg (by simp)] at HST
                go_wp2_with (first
                  | (go_at_call 31; refine (HPX.out _).mono ?_; rintro e w' ⟨rfl, rfl⟩)
                  | (go_at_call 46; refine (HSP.out _).mono ?_; rintro e w3 ⟨v, rfl, hR3, hb3⟩; obtain ⟨A4, c4, rfl, hc4, _⟩ := Kd.R_reads hR3; have HR3 := Lib.hid hR3; have HB3 := Lib.hid hb3; have HD3 := Lib.hid (Kd.C_below HD.out (bgo HB2.out hb3)); clear hR3 hb3)
                  | (at_builtin; refine Kd.R_append_row Value.string ByteArray.empty (h1 := fun _ => rfl) (w0 := W2) W2.heap.size rfl (.tmp 68) (.tmp 69) 71 9 (.string ⟨#[]⟩) 16 rfl Tryd.underlying71 infoS rfl (by omega) _ (pcs tx) r A3 r.length (c - 1) (fun _ => True) rfl rfl (fun _ _ => trivial) HR3.out HD3.out HB3.out HB3.out.size (by simp at hlen; omega) ?_; intro v5 w5 hR5 hb5 hg5 hat5; obtain ⟨t5, ht5⟩ : ∃ t5, pcs tx ++ r = t5 := ⟨_, rfl⟩; rw [ht5] at hR5; obtain ⟨A5, c5, rfl, hc5, hC5⟩ := Kd.R_reads (d := Kd.string) hR5; have HT5 := Lib.hid ht5; have HC5 := Lib.hid hC5; have HB5 := Lib.hid (bgo HBL.out (bgo HB2.out hb5)); clear ht5 hR5 hC5 hb5 hg5 hat5))
                go_roundw
                case rel => exact ⟨a, fl + 1, t5, A5, c5, rfl, by go_num, rfl, Lib.hid (HW.out.next HF.out.small (by rw [← HT5.out]; exact HST.out) hasz (fun y hy => by
                  rw [← HT5.out] at hy
                  rcases List.mem_append.1 hy with h | h
                  · have := hpz.out y h; omega
                  · exact hpr.out y (by simp [h])) hc5 HC5.out HB5.out), by have h1 := hm.out.2; rw [HT5.out] at h1; exact len_of h1 HW.out.low HP.out⟩
                case measure => have h1 := hm.out.2; rw [HT5.out] at h1; rw [show ((fl : Int) + 1) = ((fl + 1 : Nat) : Int) by omega, muV_mk, muV_mk]; exact h1
              · skip
                rw [hab] at HPX
                rw [hab, if_pos rfl] at HST
                go_wp2_with (first
                  | (go_at_call 31; refine (HPX.out _).mono ?_; rintro e w' ⟨rfl, rfl⟩)
                  | (go_at_call 46; refine (HSP.out _).mono ?_; rintro e w3 ⟨v, rfl, hR3, hb3⟩; obtain ⟨A4, c4, rfl, hc4, _⟩ := Kd.R_reads hR3; have HR3 := Lib.hid hR3; have HB3 := Lib.hid hb3; have HD3 := Lib.hid (Kd.C_below HD.out (bgo HB2.out hb3)); clear hR3 hb3)
                  | (at_builtin; refine Kd.R_append_row Value.string ByteArray.empty (h1 := fun _ => rfl) (w0 := W2) W2.heap.size rfl (.tmp 68) (.tmp 69) 71 9 (.string ⟨#[]⟩) 16 rfl Tryd.underlying71 infoS rfl (by omega) _ (pcs tx) r A3 r.length (c - 1) (fun _ => True) rfl rfl (fun _ _ => trivial) HR3.out HD3.out HB3.out HB3.out.size (by simp at hlen; omega) ?_; intro v5 w5 hR5 hb5 hg5 hat5; obtain ⟨t5, ht5⟩ : ∃ t5, pcs tx ++ r = t5 := ⟨_, rfl⟩; rw [ht5] at hR5; obtain ⟨A5, c5, rfl, hc5, hC5⟩ := Kd.R_reads (d := Kd.string) hR5; have HT5 := Lib.hid ht5; have HC5 := Lib.hid hC5; have HB5 := Lib.hid (bgo HBL.out (bgo HB2.out hb5)); clear ht5 hR5 hC5 hb5 hg5 hat5))
                go_roundw
                case rel => exact ⟨emp, fl + 1, t5, A5, c5, rfl, by go_num, rfl, Lib.hid (HW.out.next HF.out.small (by rw [← HT5.out]; exact HST.out) (by decide) (fun y hy => by
                  rw [← HT5.out] at hy
                  rcases List.mem_append.1 hy with h | h
                  · have := hpz.out y h; omega
                  · exact hpr.out y (by simp [h])) hc5 HC5.out HB5.out), by have h1 := hm.out.2; rw [HT5.out] at h1; exact len_of h1 HW.out.low HP.out⟩
                case measure => have h1 := hm.out.2; rw [HT5.out] at h1; rw [show ((fl : Int) + 1) = ((fl + 1 : Nat) : Int) by omega, muV_mk, muV_mk]; exact h1
end Go.Proofs.YtageofdcloneoaaDoor.Vfs
