/- Ways through folders and links, as a function: a path through a link to a folder leads where the folder's own path leads. No walk in it. -/
import Derived.Test.YtfnncfgdlinmcaaDoorGrowO
import Derived.Test.YtfnncfgdlinmcaaDoorTreeC
set_option linter.unusedVariables false
set_option linter.unusedSimpArgs false
namespace Go.Proofs.YtfnncfgdlinmcaaDoor.Vfs
open Go.RowKit Go.Proofs.YtfnncfgdlinmcaaDoor.Rout Go.Proofs.YtfnncfgdlinmcaaDoor.Node Go.Proofs.YtfnncfgdlinmcaaDoor.Tree Go.Proofs.YtfnncfgdlinmcaaDoorW.PrintWords
/-! ### trees (as the texts on tree.Grow have them) -/
abbrev Before (x y : Nd) : Prop := compB x.f1 y.f1 < 0
theorem before_trans (x y z : Nd) (h : Before x y) (k : Before y z) : Before x z := compB_trans h k
theorem chkN_ok (l : List Nd) : ∀ f, f ≤ l.length → ((chkN l f).2 = 0 ↔ ∀ k, l.length - f ≤ k → k < l.length → errAt l k = 0)
  | 0, _ => ⟨fun _ k h1 h2 => by omega, fun _ => rfl⟩
  | f + 1, hf => by
    have ih := chkN_ok l f (by omega)
    show (if errAt l (l.length - (f + 1)) = 0 then chkN l f else (((l.length - (f + 1) : Nat) : Int), errAt l (l.length - (f + 1)))).2 = 0 ↔ _
    by_cases h : errAt l (l.length - (f + 1)) = 0
    · rw [if_pos h, ih]
      constructor
      · intro h2 k h3 h4
        by_cases hk : k = l.length - (f + 1)
        · rw [hk]; exact h
        · exact h2 k (by omega) h4
      · exact fun h2 k h3 h4 => h2 k (by omega) h4
    · rw [if_neg h]
      exact ⟨fun h2 => absurd h2 h, fun h2 => absurd (h2 _ (Nat.le_refl _) (by omega)) h⟩
theorem chk_ok (l : List Nd) : (chk l).2 = 0 ↔ ∀ k, k < l.length → errAt l k = 0 := by
  unfold chk
  rw [chkN_ok l l.length (Nat.le_refl _)]
  exact ⟨fun h k hk => h k (by omega) hk, fun h k _ hk => h k hk⟩
theorem rdN_get (l : List Nd) (k : Nat) (hk : k < l.length) : rdN l (k : Int) = l[k] := by
  unfold rdN; rw [Int.toNat_natCast, List.getD_eq_getElem?_getD, List.getElem?_eq_getElem hk]; rfl
theorem chain_pw (R : Nd → Nd → Prop) (tr : ∀ x y z, R x y → R y z → R x z) (l : List Nd) (h : ∀ k, 0 < k → k < l.length → R (rdN l ((k : Int) - 1)) (rdN l k)) : l.Pairwise R := by
  rw [List.pairwise_iff_getElem]
  intro i j hi hj hij
  obtain ⟨d, rfl⟩ : ∃ d, j = i + 1 + d := ⟨j - (i + 1), by omega⟩
  clear hij
  induction d with
  | zero =>
    have := h (i + 1) (by omega) hj
    rw [show (((i + 1 : Nat) : Int) - 1) = (i : Int) by omega, rdN_get l i hi, rdN_get l (i + 1) hj] at this
    exact this
  | succ d ih =>
    have h1 := ih (by omega)
    have h2 := h (i + 1 + d + 1) (by omega) hj
    rw [show (((i + 1 + d + 1 : Nat) : Int) - 1) = ((i + 1 + d : Nat) : Int) by omega, rdN_get l (i + 1 + d) (by omega), rdN_get l (i + 1 + d + 1) hj] at h2
    exact tr _ _ _ h1 h2
theorem err_zero (l : List Nd) (k : Nat) (h : errAt l k = 0) : validB (rdN l k).f1 = true ∧ mayB (rdN l k) = true ∧ k < 65536 ∧ (0 < k → compB (rdN l ((k : Int) - 1)).f1 (rdN l k).f1 < 0) ∧ ((parB (rdN l k).f1).2 = true → isDir (l.take k) (parB (rdN l k).f1).1 = true) := by
  unfold errAt at h
  by_cases h2 : validB (rdN l k).f1 = false
  · rw [if_pos h2] at h; omega
  rw [if_neg h2] at h
  by_cases h3 : mayB (rdN l k) = false ∨ 65536 ≤ k
  · rw [if_pos h3] at h; omega
  rw [if_neg h3] at h
  by_cases h4 : 0 < k ∧ 0 ≤ compB (rdN l ((k : Int) - 1)).f1 (rdN l k).f1
  · rw [if_pos h4] at h; omega
  rw [if_neg h4] at h
  by_cases h5 : (parB (rdN l k).f1).2 = true ∧ isDir (l.take k) (parB (rdN l k).f1).1 = false
  · rw [if_pos h5] at h; omega
  refine ⟨by simpa using h2, ?_, by omega, fun hk => ?_, fun hp => ?_⟩
  · cases hm : mayB (rdN l k)
    · exact absurd (.inl hm) h3
    · rfl
  · rcases Int.lt_or_le (compB (rdN l ((k : Int) - 1)).f1 (rdN l k).f1) 0 with h6 | h6
    · exact h6
    · exact absurd ⟨hk, h6⟩ h4
  · cases hd : isDir (l.take k) (parB (rdN l k).f1).1
    · exact absurd ⟨hp, hd⟩ h5
    · rfl
/-! ### the map of nodes -/
abbrev NMap := ByteArray → Option Nd
def mapL (l : List Nd) : NMap := l.foldl (fun M n p => if n.f1 = p then some n else M p) (fun _ => none)
theorem mapL_snoc (l : List Nd) (n : Nd) (p : ByteArray) : mapL (l ++ [n]) p = if n.f1 = p then some n else mapL l p := by unfold mapL; rw [List.foldl_append]; rfl
theorem mapL_f1 (l : List Nd) (p : ByteArray) (x : Nd) (h : mapL l p = some x) : x.f1 = p ∧ x ∈ l := by
  induction l using snoc_ind with
  | h0 => cases h
  | h1 l y ih =>
    rw [mapL_snoc] at h
    by_cases hy : y.f1 = p
    · rw [if_pos hy] at h; cases h; exact ⟨hy, by simp⟩
    · rw [if_neg hy] at h; exact ⟨(ih h).1, List.mem_append_left _ (ih h).2⟩
theorem isDir_map (l : List Nd) (p : ByteArray) (h : isDir l p = true) : ∃ x, mapL l p = some x ∧ x.f0 = 1 := by
  induction l using snoc_ind with
  | h0 => cases h
  | h1 l y ih =>
    rw [isDir_snoc] at h
    rw [mapL_snoc]
    by_cases hy : y.f1 = p
    · rw [if_pos hy] at h ⊢; exact ⟨y, rfl, by simpa using h⟩
    · rw [if_neg hy] at h ⊢; exact ih h
theorem mapL_own (l : List Nd) (hp : l.Pairwise Before) (x : Nd) (hx : x ∈ l) : mapL l x.f1 = some x := by
  induction l using snoc_ind with
  | h0 => cases hx
  | h1 l y ih =>
    rw [List.pairwise_append] at hp
    rw [mapL_snoc]
    rcases List.mem_append.1 hx with h | h
    · have hb : compB x.f1 y.f1 < 0 := hp.2.2 x h y (by simp)
      rw [if_neg (fun e => by rw [e, compB_self] at hb; omega)]
      exact ih hp.1 h
    · obtain rfl : x = y := by simpa using h
      rw [if_pos rfl]
/-- What a tree is: its map. -/
structure IsTree (l : List Nd) : Prop where
  own : ∀ x ∈ l, mapL l x.f1 = some x
  valid : ∀ x ∈ l, validB x.f1 = true
  may : ∀ x ∈ l, mayB x = true
  up : ∀ x ∈ l, (parB x.f1).2 = true → ∃ y ∈ l, y.f1 = (parB x.f1).1 ∧ y.f0 = 1
  len : l.length ≤ 65536
theorem tree_is (l : List Nd) (h : (chk l).2 = 0) : IsTree l := by
  have hk := (chk_ok l).1 h
  have each : ∀ x ∈ l, validB x.f1 = true ∧ mayB x = true ∧ ((parB x.f1).2 = true → ∃ y ∈ l, y.f1 = (parB x.f1).1 ∧ y.f0 = 1) := by
    intro x hx
    obtain ⟨k, h1, rfl⟩ := List.getElem_of_mem hx
    obtain ⟨q1, q2, _, _, q3⟩ := err_zero l k (hk k h1)
    rw [rdN_get l k h1] at q1 q2 q3
    refine ⟨q1, q2, fun hp => ?_⟩
    obtain ⟨y, hy, h0⟩ := isDir_map _ _ (q3 hp)
    exact ⟨y, List.mem_of_mem_take (mapL_f1 _ _ _ hy).2, (mapL_f1 _ _ _ hy).1, h0⟩
  refine ⟨mapL_own l (chain_pw Before before_trans l (fun k h0 h1 => (err_zero l k (hk k h1)).2.2.2.1 h0)), fun x hx => (each x hx).1, fun x hx => (each x hx).2.1, fun x hx => (each x hx).2.2, ?_⟩
  rcases Nat.eq_zero_or_pos l.length with h0 | h0
  · omega
  · have := (err_zero l (l.length - 1) (hk _ (by omega))).2.2.1
    omega
/-! ### pieces -/
theorem cut_mid : ∀ l m : List UInt8, cut (l ++ 47 :: m) = cut l ++ cut m
  | [], m => by simp [cut]
  | c :: r, m => by
    have ih := cut_mid r m
    by_cases hc : c = 47
    · subst hc; simp [cut, ih]
    · have e : ∀ q, cut (c :: q) = if c = 47 then [] :: cut q else match cut q with | [] => [[c]] | p :: ps => (c :: p) :: ps := fun _ => rfl
      rw [List.cons_append, e, e, if_neg hc, if_neg hc, ih]
      cases hr : cut r with
      | nil => exact absurd hr (cut_ne r)
      | cons p ps => rfl
def slash : ByteArray := ⟨#[47]⟩
def emp : ByteArray := ⟨#[]⟩
theorem data_append (s t : ByteArray) : (s ++ t).data.toList = s.data.toList ++ t.data.toList := by simp
theorem pcs_mid (s t : ByteArray) : pcs (s ++ slash ++ t) = pcs s ++ pcs t := by
  unfold pcs
  rw [data_append, data_append, List.append_assoc, show slash.data.toList = [47] from rfl, List.singleton_append, cut_mid, List.map_append]
def underB (f n : ByteArray) : ByteArray := if f.size = 0 then n else f ++ slash ++ n
/-! ### the way -/
def absB (s : ByteArray) : Bool := s.data.toList.head? == some 47
def wayS (M : NMap) (a : ByteArray) (fl : Nat) (p : ByteArray) (rest : List ByteArray) : Sum (ByteArray × Nat × List ByteArray) Int :=
  if p.data.toList = [] ∨ p.data.toList = [46] then .inl (a, fl, rest)
  else if p.data.toList = [46, 46] then .inl ((parB a).1, fl, rest)
  else match M (underB a p) with
    | none => .inr 31
    | some n => if n.f0 = 2 then .inr 33 else if n.f0 = 1 then .inl (n.f1, fl, rest) else if 16 < fl + 1 then .inr 34
      else .inl (if absB (strOfNums n.f2) = true then emp else a, fl + 1, pcs (strOfNums n.f2) ++ rest)
def wayN (M : NMap) : Nat → ByteArray → Nat → List ByteArray → ByteArray × Int
  | 0, _, _, _ => (emp, 34)
  | _ + 1, a, _, [] => (a, 0)
  | k + 1, a, fl, p :: r => match wayS M a fl p r with
    | .inl (b, f, t) => wayN M k b f t
    | .inr e => (emp, e)
theorem wayN_cons (M : NMap) (k : Nat) (a : ByteArray) (fl : Nat) (p : ByteArray) (r : List ByteArray) : wayN M (k + 1) a fl (p :: r) = match wayS M a fl p r with
    | .inl (b, f, t) => wayN M k b f t
    | .inr e => (emp, e) := rfl
def mu (fl : Nat) (t : List ByteArray) : Nat := (17 - fl) * 1100 + t.length
/-- A link's text is short. -/
def Small (M : NMap) : Prop := ∀ p n, M p = some n → n.f0 ≠ 1 → n.f0 ≠ 2 → n.f2.length ≤ 1024
theorem strOfNums_size (xs : List Int) : (strOfNums xs).size = xs.length := by simp [strOfNums, ByteArray.size]
theorem pcs_le (s : ByteArray) : (pcs s).length ≤ s.size + 1 := by
  rw [pcs_len]
  have := List.count_le_length (a := (47 : UInt8)) (l := s.data.toList)
  rw [size_data] at this
  omega
theorem wayS_less (M : NMap) (hM : Small M) (a : ByteArray) (fl : Nat) (p : ByteArray) (r : List ByteArray) (b : ByteArray) (f : Nat) (t : List ByteArray) (hf : fl ≤ 16) (h : wayS M a fl p r = .inl (b, f, t)) : f ≤ 16 ∧ mu f t < mu fl (p :: r) := by
  unfold wayS at h
  unfold mu
  rw [List.length_cons]
  by_cases h1 : p.data.toList = [] ∨ p.data.toList = [46]
  · rw [if_pos h1] at h
    simp only [Sum.inl.injEq, Prod.mk.injEq] at h
    obtain ⟨_, rfl, rfl⟩ := h
    omega
  rw [if_neg h1] at h
  by_cases h2 : p.data.toList = [46, 46]
  · rw [if_pos h2] at h
    simp only [Sum.inl.injEq, Prod.mk.injEq] at h
    obtain ⟨_, rfl, rfl⟩ := h
    omega
  rw [if_neg h2] at h
  cases hn : M (underB a p) with
  | none => rw [hn] at h; cases h
  | some n =>
    rw [hn] at h
    dsimp only at h
    by_cases h3 : n.f0 = 2
    · rw [if_pos h3] at h; cases h
    rw [if_neg h3] at h
    by_cases h4 : n.f0 = 1
    · rw [if_pos h4] at h
      simp only [Sum.inl.injEq, Prod.mk.injEq] at h
      obtain ⟨_, rfl, rfl⟩ := h
      omega
    rw [if_neg h4] at h
    by_cases h5 : 16 < fl + 1
    · rw [if_pos h5] at h; cases h
    rw [if_neg h5] at h
    simp only [Sum.inl.injEq, Prod.mk.injEq] at h
    obtain ⟨_, rfl, rfl⟩ := h
    have h6 := hM _ _ hn h4 h3
    have h7 := pcs_le (strOfNums n.f2)
    rw [strOfNums_size] at h7
    rw [List.length_append]
    refine ⟨by omega, ?_⟩
    obtain ⟨d, hd⟩ : ∃ d, 17 - (fl + 1) = d := ⟨_, rfl⟩
    rw [show 17 - fl = d + 1 by omega, hd, Nat.add_mul]
    omega
theorem wayN_enough (M : NMap) (hM : Small M) (k : Nat) : ∀ (j : Nat) (a : ByteArray) (fl : Nat) (t : List ByteArray), fl ≤ 16 → mu fl t < k → mu fl t < j → wayN M k a fl t = wayN M j a fl t := by
  induction k with
  | zero => intro j a fl t _ h _; omega
  | succ k ih =>
    intro j a fl t hf h1 h2
    obtain ⟨j, rfl⟩ : ∃ i, j = i + 1 := ⟨j - 1, by omega⟩
    cases t with
    | nil => rfl
    | cons p r =>
      rw [wayN_cons, wayN_cons]
      cases hs : wayS M a fl p r with
      | inr e => rfl
      | inl q =>
        obtain ⟨b, f, t⟩ := q
        obtain ⟨hf2, hlt⟩ := wayS_less M hM a fl p r b f t hf hs
        exact ih j b f t hf2 (by omega) (by omega)
def way (M : NMap) (ps : List ByteArray) : ByteArray × Int := wayN M (mu 0 ps + 1) emp 0 ps
/-- One link more that has been followed: the same, or too many. -/
theorem wayN_more (M : NMap) : ∀ (k : Nat) (a : ByteArray) (fl : Nat) (t : List ByteArray), (wayN M k a fl t).2 = 0 → wayN M k a (fl + 1) t = wayN M k a fl t ∨ wayN M k a (fl + 1) t = (emp, 34)
  | 0, _, _, _, h => .inr rfl
  | k + 1, a, fl, [], h => .inl rfl
  | k + 1, a, fl, p :: r, h => by
    rw [wayN_cons] at h
    rw [wayN_cons, wayN_cons]
    unfold wayS at h ⊢
    by_cases h1 : p.data.toList = [] ∨ p.data.toList = [46]
    · rw [if_pos h1] at h ⊢; rw [if_pos h1]; exact wayN_more M k _ _ _ h
    rw [if_neg h1] at h ⊢
    rw [if_neg h1]
    by_cases h2 : p.data.toList = [46, 46]
    · rw [if_pos h2] at h ⊢; rw [if_pos h2]; exact wayN_more M k _ _ _ h
    rw [if_neg h2] at h ⊢
    rw [if_neg h2]
    cases hn : M (underB a p) with
    | none => exact .inl rfl
    | some n =>
      rw [hn] at h
      dsimp only at h ⊢
      by_cases h3 : n.f0 = 2
      · rw [if_pos h3] at h; cases h
      rw [if_neg h3] at h ⊢
      rw [if_neg h3]
      by_cases h4 : n.f0 = 1
      · rw [if_pos h4] at h ⊢; rw [if_pos h4]; exact wayN_more M k _ _ _ h
      rw [if_neg h4] at h ⊢
      rw [if_neg h4]
      by_cases h5 : 16 < fl + 1
      · rw [if_pos h5] at h; cases h
      rw [if_neg h5] at h
      rw [if_neg h5]
      by_cases h6 : 16 < fl + 1 + 1
      · rw [if_pos h6]; exact .inr rfl
      rw [if_neg h6]
      exact wayN_more M k _ _ _ h
end Go.Proofs.YtfnncfgdlinmcaaDoor.Vfs
