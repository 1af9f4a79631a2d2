/- RoutQ, GrowO, Node put together. -/
import Derived.Test.YtageofdcloneoaaDoorMRout
import Derived.Lib.SplitLaws
import Derived.WalkLawsBesides
import Derived.Test.YtageofdcloneoaaDoorWMore
import Derived.Sort.Statements
set_option linter.unusedVariables false
set_option linter.unusedSimpArgs false
namespace Go.Proofs.YtageofdcloneoaaDoor.Rout
open Go.RowKit Go.BigFrame Go.Proofs.YtageofdcloneoaaDoor.Reg Go.Proofs.YtageofdcloneoaaDoorW.PrintWords
/-! ### the pieces, by the shelf's word -/
theorem cut_len : ∀ l : List UInt8, (cut l).length = l.count 47 + 1
  | [] => rfl
  | c :: r => by
    have h := cut_len r
    rw [show cut (c :: r) = if c = 47 then [] :: cut r else match cut r with | [] => [[c]] | p :: ps => (c :: p) :: ps from rfl, List.count_cons]
    by_cases hc : c = 47
    · rw [if_pos hc, hc]; simp; omega
    · rw [if_neg hc]
      have : (c == 47) = false := beq_eq_false_iff_ne.mpr hc
      rw [this]
      cases hr : cut r with
      | nil => exact absurd hr (cut_ne r)
      | cons p ps => rw [hr] at h; simpa using h
theorem pcs_len (s : ByteArray) : (pcs s).length = s.data.toList.count 47 + 1 := by unfold pcs; rw [List.length_map, cut_len]
theorem indexB_one (s : ByteArray) : Lib.indexB s ⟨#[47]⟩ = Lib.indexByte s.data.toList 47 := by
  show Lib.index s.data.toList [47] = _
  exact Lib.index_one _ _
theorem splitB_pcs : ∀ (k : Nat) (s : ByteArray), (pcs s).length ≤ k + 1 → Lib.splitB ⟨#[47]⟩ 0 k s = pcs s
  | 0, s, h => by
    have hge := Lib.indexByte_ge s.data.toList 47
    by_cases hm : Lib.indexByte s.data.toList 47 = -1
    · rw [pcs_miss s hm]; rfl
    · obtain ⟨m, hm2⟩ : ∃ m : Nat, Lib.indexByte s.data.toList 47 = (m : Int) := ⟨(Lib.indexByte s.data.toList 47).toNat, by omega⟩
      rw [(pcs_hit s m hm2).2] at h
      have := List.length_pos_iff.2 (pcs_ne (s.extract (m + 1) s.size))
      simp at h
      exact absurd h (pcs_ne _)
  | k + 1, s, h => by
    have hge := Lib.indexByte_ge s.data.toList 47
    by_cases hm : Lib.indexByte s.data.toList 47 = -1
    · rw [pcs_miss s hm, Lib.splitB_miss _ _ _ _ (by rw [indexB_one]; exact hm)]
    · obtain ⟨m, hm2⟩ : ∃ m : Nat, Lib.indexByte s.data.toList 47 = (m : Int) := ⟨(Lib.indexByte s.data.toList 47).toNat, by omega⟩
      rw [(pcs_hit s m hm2).2] at h ⊢
      rw [Lib.splitB_hit _ _ _ _ m (by rw [indexB_one]; exact hm2)]
      have e := splitB_pcs k (s.extract (m + 1) s.size) (by simpa using h)
      rw [show (m + (⟨#[47]⟩ : ByteArray).size) = m + 1 from rfl, e]
      rfl
/-! ### Parent -/
def parB (s : ByteArray) : ByteArray × Bool := if 0 ≤ Lib.lastIndexByte s 47 ∧ validB s = true then (s.extract 0 (Lib.lastIndexByte s 47).toNat, true) else (⟨#[]⟩, false)
theorem last_cases (s : ByteArray) : Lib.lastIndexByte s 47 = -1 ∨ ∃ i : Nat, i < s.size ∧ Lib.lastIndexByte s 47 = i := by
  rcases Lib.lastIdx_spec s 47 s.size with h | h
  · exact .inl h.1
  · obtain ⟨i, h1, h2, _⟩ := h
    exact .inr ⟨i, h1, h2⟩
set_option maxHeartbeats 2000000 in
theorem parent_calls (s : ByteArray) (w : World) (hs : s.size ≤ 140737488355328) :
    Calls Tryd.prog 22 #[.string s] w fun e w' => e = .returned (.tuple #[.string (parB s).1, .bool (parB s).2]) ∧ Below w.heap.size w w' := by
  have HL := Lib.hid (Tryd.strings_LastIndexByte s 47 (by omega))
  have HV := Lib.hid (fun W => valid_calls s W hs)
  have HP := Lib.hid (show parB s = if 0 ≤ Lib.lastIndexByte s 47 ∧ validB s = true then (s.extract 0 (Lib.lastIndexByte s 47).toNat, true) else (⟨#[]⟩, false) from rfl)
  rcases last_cases s with hl | ⟨i, hi, hl⟩
  · rw [hl] at HL HP
    have HE := Lib.hid (show parB s = (⟨#[]⟩, false) by rw [HP.out]; simp)
    clear hl HP
    go_enter Tryd.func22, Tryd.ntmps22
    go_wp2_with (go_at_call 43; refine (HL.out _).mono ?_; rintro e w' ⟨rfl, rfl⟩)
    go_ret2
    rw [HE.out]
    exact ⟨rfl, Below.refl _ _⟩
  · rw [hl] at HL HP
    cases hv : validB s
    · rw [hv] at HV HP
      have HE := Lib.hid (show parB s = (⟨#[]⟩, false) by rw [HP.out]; simp)
      clear hl HP hv
      go_enter Tryd.func22, Tryd.ntmps22
      go_wp2_with (first
        | (go_at_call 43; refine (HL.out _).mono ?_; rintro e w' ⟨rfl, rfl⟩)
        | (go_at_call 21; refine (HV.out _).mono ?_; rintro e w1 ⟨rfl, hb⟩))
      go_ret2
      rw [HE.out]
      exact ⟨rfl, hb⟩
    · rw [hv] at HV HP
      have HE := Lib.hid (show parB s = (s.extract 0 i, true) by rw [HP.out]; simp)
      clear hl HP hv
      go_enter Tryd.func22, Tryd.ntmps22
      go_wp2_with (first
        | (go_at_call 43; refine (HL.out _).mono ?_; rintro e w' ⟨rfl, rfl⟩)
        | (go_at_call 21; refine (HV.out _).mono ?_; rintro e w1 ⟨rfl, hb⟩))
      go_ret2
      rw [HE.out]
      exact ⟨rfl, hb⟩
/-! ### Split -/
theorem split_calls (s : ByteArray) (w : World) (hs : s.size < 4294967281) :
    Calls Tryd.prog 46 #[.string s, .string ⟨#[47]⟩] w fun e w' => e = .returned (.slice (some ⟨w.heap.size, 0, none⟩) (pcs s).length (pcs s).length) ∧ w' = w.alloc (.cells ((pcs s).map Value.string).toArray 9) := by
  have hcnt : Lib.countB s ⟨#[47]⟩ = s.data.toList.count 47 := Lib.count_one 47 s.data.toList
  have hle : s.data.toList.count 47 ≤ s.size := by rw [← size_data]; exact List.count_le_length
  have c := Tryd.strings_genSplit_core s ⟨#[47]⟩ 0 (-1) (pcs s).length w hs (by decide) (by decide)
    (fun x c hx => (Tryd.strings_Index_one x 47 _).mono fun e w' ⟨h1, h2⟩ => ⟨by rw [indexB_one]; exact h1, h2⟩)
    ((Tryd.strings_Count_one s 47 w).mono fun e w' ⟨h1, h2⟩ => ⟨by rw [hcnt]; exact h1, h2⟩)
    (by decide) (by decide) (by rw [if_pos (by decide), hcnt, pcs_len]; omega)
  rw [splitB_pcs _ s (by omega)] at c
  have e2 : Lib.cellsOf (pcs s) (pcs s).length = ((pcs s).map Value.string).toArray := Lib.cellsOf_full _
  rw [e2] at c
  have C := Lib.hid c
  clear c e2 hcnt hle
  go_enter Tryd.func46, Tryd.ntmps46
  go_wp2_with (go_at_call 60; refine C.out.mono ?_; rintro e w' ⟨rfl, hw⟩; rw [hw])
  go_ret
  exact ⟨rfl, rfl⟩
/-! ### Compare -/
def cmpB (a b : ByteArray) : Int := if Op.bytesLess a.toList b.toList = true then -1 else if (a.toList == b.toList) = true then 0 else 1
set_option maxHeartbeats 2000000 in
theorem cmp_calls (a b : ByteArray) (w : World) : Calls Tryd.prog 59 #[.string a, .string b] w fun e w' => e = .returned (.int .i64 (cmpB a b)) ∧ w = w' := by
  have HE := Lib.hid (show cmpB a b = if Op.bytesLess a.toList b.toList = true then -1 else if (a.toList == b.toList) = true then 0 else 1 from rfl)
  cases h1 : Op.bytesLess a.toList b.toList
  · cases h2 : (a.toList == b.toList)
    · rw [h1, h2] at HE
      have HX := Lib.hid (show cmpB a b = 1 by rw [HE.out]; simp)
      clear HE
      go_enter Tryd.func59, Tryd.ntmps59
      go_wp2
      go_ret
      rw [HX.out]
      exact ⟨rfl, rfl⟩
    · rw [h1, h2] at HE
      have HX := Lib.hid (show cmpB a b = 0 by rw [HE.out]; simp)
      clear HE
      go_enter Tryd.func59, Tryd.ntmps59
      go_wp2
      go_ret
      rw [HX.out]
      exact ⟨rfl, rfl⟩
  · rw [h1] at HE
    have HX := Lib.hid (show cmpB a b = -1 by rw [HE.out]; simp)
    clear HE
    go_enter Tryd.func59, Tryd.ntmps59
    go_wp2
    go_ret
    rw [HX.out]
    exact ⟨rfl, rfl⟩
def cmpL : List ByteArray → List ByteArray → Int
  | [], [] => 0
  | [], _ :: _ => -1
  | _ :: _, [] => 1
  | a :: r, b :: q => if cmpB a b = 0 then cmpL r q else cmpB a b
theorem cmpL_end (xs ys : List ByteArray) (k : Nat) (h : xs.length ≤ k) (hk : k ≤ ys.length) (hx : k ≤ xs.length) : cmpL (xs.drop k) (ys.drop k) = if xs.length < ys.length then -1 else 0 := by
  rw [List.drop_of_length_le h]
  cases hd : ys.drop k with
  | nil =>
    have := List.drop_eq_nil_iff.1 hd
    rw [if_neg (by omega)]; rfl
  | cons y r =>
    have : k < ys.length := by
      rcases Nat.lt_or_ge k ys.length with h | h
      · exact h
      · rw [List.drop_of_length_le h] at hd; cases hd
    rw [if_pos (by omega)]; rfl
theorem cmpL_out (xs ys : List ByteArray) (k : Nat) (h : k < xs.length) (hk : ys.length ≤ k) : cmpL (xs.drop k) (ys.drop k) = 1 := by
  rw [List.drop_eq_getElem_cons h, List.drop_of_length_le hk]
  rfl
theorem cmpL_in (xs ys : List ByteArray) (k : Nat) (h : k < xs.length) (hk : k < ys.length) : cmpL (xs.drop k) (ys.drop k) = if cmpB (rdOf ByteArray.empty xs k) (rdOf ByteArray.empty ys k) = 0 then cmpL (xs.drop (k + 1)) (ys.drop (k + 1)) else cmpB (rdOf ByteArray.empty xs k) (rdOf ByteArray.empty ys k) := by
  rw [List.drop_eq_getElem_cons h, List.drop_eq_getElem_cons hk]
  have e1 : rdOf ByteArray.empty xs (k : Int) = xs[k] := by unfold rdOf; rw [Int.toNat_natCast, List.getD_eq_getElem?_getD, List.getElem?_eq_getElem h]; rfl
  have e2 : rdOf ByteArray.empty ys (k : Int) = ys[k] := by unfold rdOf; rw [Int.toNat_natCast, List.getD_eq_getElem?_getD, List.getElem?_eq_getElem hk]; rfl
  rw [e1, e2]
  rfl
set_option maxHeartbeats 4000000 in
theorem compareL_calls (A B : Option Addr) (c d : Nat) (xs ys : List ByteArray) (w : World) (hx : Kd.string.C w A xs.length xs) (hy : Kd.string.C w B ys.length ys) (lx : xs.length ≤ 8796093022208) (ly : ys.length ≤ 8796093022208) :
    Calls Tryd.prog 45 #[.slice A xs.length c, .slice B ys.length d] w fun e w' => e = .returned (.int .i64 (cmpL xs ys)) ∧ w = w' := by
  have HX := Lib.hid hx
  have HY := Lib.hid hy
  clear hx hy
  go_enter Tryd.func45, Tryd.ntmps45
  go_wp2
  go_loop [5, 6, 7, 8, 11] (fun _ _ _ _ i => ∃ k : Nat, i = .int .i64 k ∧ k ≤ xs.length ∧ k ≤ ys.length ∧ Hid (cmpL (xs.drop k) (ys.drop k) = cmpL xs ys)) (fun _ _ _ _ i => (xs.length - intOf i).toNat)
  case atStart => exact ⟨0, rfl, by omega, by omega, Lib.hid rfl⟩
  case round =>
    obtain ⟨k, rfl, hk, hk2, he⟩ := hrel
    by_cases h1 : k < xs.length
    · obtain ⟨ad1, hA, c1⟩ := Kd.at_string HX.out (k : Int) (by omega) (by omega)
      subst hA
      rw [Int.toNat_natCast] at c1
      by_cases h2 : k < ys.length
      · obtain ⟨ad2, hB, c2⟩ := Kd.at_string HY.out (k : Int) (by omega) (by omega)
        subst hB
        rw [Int.toNat_natCast] at c2
        have hin := Lib.hid (cmpL_in xs ys k h1 h2)
        generalize rdOf ByteArray.empty xs (k : Int) = x at *
        generalize rdOf ByteArray.empty ys (k : Int) = y at *
        have HC := Lib.hid (cmp_calls x y)
        by_cases hz : cmpB x y = 0
        · rw [hz] at HC hin
          have HN := Lib.hid (show cmpL (xs.drop (k + 1)) (ys.drop (k + 1)) = cmpL xs ys by rw [← he.out, hin.out]; simp)
          clear hin hz he
          go_wp2_with (go_at_call 59; refine (HC.out _).mono ?_; rintro e w' ⟨rfl, rfl⟩)
          go_round
          case rel => exact ⟨k + 1, by go_num, by omega, by omega, HN⟩
          case measure => simp [intOf]; omega
        · have hz2 : (cmpB x y != 0) = true := by simpa using hz
          have HN := Lib.hid (show cmpB x y = cmpL xs ys by rw [← he.out, hin.out, if_neg hz])
          clear hin hz he
          generalize cmpB x y = z at *
          go_wp2_with (go_at_call 59; refine (HC.out _).mono ?_; rintro e w' ⟨rfl, rfl⟩)
          go_ret
          rw [← HN.out]
          exact ⟨rfl, rfl⟩
      · have HN := Lib.hid (show (1 : Int) = cmpL xs ys by rw [← he.out, cmpL_out xs ys k h1 (by omega)])
        clear he
        go_wp2
        go_ret
        rw [← HN.out]
        exact ⟨rfl, rfl⟩
    · have HN := Lib.hid (show cmpL xs ys = if xs.length < ys.length then -1 else 0 by rw [← he.out, cmpL_end xs ys k (by omega) (by omega) (by omega)])
      clear he
      by_cases h3 : xs.length < ys.length
      · rw [if_pos h3] at HN
        go_wp2
        go_ret
        rw [HN.out]
        exact ⟨rfl, rfl⟩
      · rw [if_neg h3] at HN
        go_wp2
        go_ret
        rw [HN.out]
        exact ⟨rfl, rfl⟩
theorem strs_C (w : World) (xs : List ByteArray) (h : xs.length ≤ 9223372036854775807) : Kd.string.C (w.alloc (.cells (xs.map Value.string).toArray 9)) (some ⟨w.heap.size, 0, none⟩) xs.length xs := by
  have hown := own_lit_of (enc := Value.string) w w.heap.size 9 xs (Nat.le_refl _) h
  have hR : Kd.string.R 9 (w.alloc (.cells (encs Value.string xs).toArray 9)) w.heap.size (fun _ => True) (.slice (some ⟨w.heap.size, 0, none⟩) xs.length xs.length) xs := Kd.R_of_own hown (fun _ _ => trivial)
  exact (Kd.R_reads' hR).2.2
theorem split_any (s : ByteArray) (w : World) (hs : s.size < 4294967281) :
    Calls Tryd.prog 46 #[.string s, .string ⟨#[47]⟩] w fun e w' => ∃ A, e = .returned (.slice A (pcs s).length (pcs s).length) ∧ Kd.string.C w' A (pcs s).length (pcs s) ∧ Below w.heap.size w w' := by
  have hl : (pcs s).length ≤ 9223372036854775807 := by rw [pcs_len]; have := List.count_le_length (a := (47 : UInt8)) (l := s.data.toList); rw [size_data] at this; omega
  refine (split_calls s w hs).mono fun e w' ⟨he, hw⟩ => ⟨_, he, ?_, ?_⟩
  · rw [hw]; exact strs_C w (pcs s) hl
  · rw [hw]; exact balloc (Below.refl _ _) _
def compB (a b : ByteArray) : Int := cmpL (pcs a) (pcs b)
set_option maxRecDepth 100000 in
set_option maxHeartbeats 4000000 in
theorem compare_calls (a b : ByteArray) (w : World) (ha : a.size ≤ 1024) (hb : b.size ≤ 1024) :
    Calls Tryd.prog 24 #[.string a, .string b] w fun e w' => e = .returned (.int .i64 (compB a b)) ∧ Below w.heap.size w w' := by
  have la : (pcs a).length ≤ 1025 := by rw [pcs_len]; have := List.count_le_length (a := (47 : UInt8)) (l := a.data.toList); rw [size_data] at this; omega
  have lb : (pcs b).length ≤ 1025 := by rw [pcs_len]; have := List.count_le_length (a := (47 : UInt8)) (l := b.data.toList); rw [size_data] at this; omega
  have tok : True := trivial
  have C1 := Lib.hid (fun W => split_any a W (by omega))
  have C2 := Lib.hid (fun W => split_any b W (by omega))
  go_enter Tryd.func24, Tryd.ntmps24
  go_wp2_with (first
    | (go_at_call 45; refine (compareL_calls _ _ _ _ _ _ _ HX.out HY.out (by omega) (by omega)).mono ?_; rintro e w3 ⟨rfl, rfl⟩)
    | (go_at_call 46; have _t := tok; with_reducible refine (C1.out _).mono ?_; rintro e w1 ⟨A1, rfl, h1, hb1⟩; have H1 := Lib.hid h1; have B1 := Lib.hid hb1; clear h1 hb1 tok)
    | (go_at_call 46; with_reducible refine (C2.out _).mono ?_; rintro e w2 ⟨A2, rfl, h2, hb2⟩; have HY := Lib.hid h2; have HX := Lib.hid (Kd.C_below H1.out hb2); have B2 := Lib.hid (bgo B1.out hb2); clear h2 hb2))
  go_ret
  exact ⟨rfl, B2.out⟩
end Go.Proofs.YtageofdcloneoaaDoor.Rout
set_option linter.unusedVariables false
set_option linter.unusedSimpArgs false
namespace Go.Proofs.YtageofdcloneoaaDoor.Rout
open Go.RowKit
theorem less_irr : ∀ x : List UInt8, Op.bytesLess x x = false
  | [] => rfl
  | a :: x => by
    show (decide (a < a) || (a == a && Op.bytesLess x x)) = false
    rw [less_irr x]; simp
theorem less_trans : ∀ x y z : List UInt8, Op.bytesLess x y = true → Op.bytesLess y z = true → Op.bytesLess x z = true
  | [], [], _, h, _ => by cases h
  | _ :: _, [], _, h, _ => by cases h
  | _, _ :: _, [], _, h => by cases h
  | [], _ :: _, _ :: _, _, _ => rfl
  | a :: x, b :: y, c :: z, h1, h2 => by
    have h1 : (decide (a < b) || (a == b && Op.bytesLess x y)) = true := h1
    have h2 : (decide (b < c) || (b == c && Op.bytesLess y z)) = true := h2
    show (decide (a < c) || (a == c && Op.bytesLess x z)) = true
    simp only [Bool.or_eq_true, decide_eq_true_eq, Bool.and_eq_true, beq_iff_eq] at h1 h2 ⊢
    rcases h1 with k1 | ⟨rfl, k1⟩
    · rcases h2 with k2 | ⟨rfl, k2⟩
      · exact .inl (UInt8.lt_trans k1 k2)
      · exact .inl k1
    · rcases h2 with k2 | ⟨rfl, k2⟩
      · exact .inl k2
      · exact .inr ⟨rfl, less_trans x y z k1 k2⟩
theorem less_tri : ∀ x y : List UInt8, Op.bytesLess x y = true ∨ x = y ∨ Op.bytesLess y x = true
  | [], [] => .inr (.inl rfl)
  | [], _ :: _ => .inl rfl
  | _ :: _, [] => .inr (.inr rfl)
  | a :: x, b :: y => by
    show (decide (a < b) || (a == b && Op.bytesLess x y)) = true ∨ _ ∨ (decide (b < a) || (b == a && Op.bytesLess y x)) = true
    simp only [Bool.or_eq_true, decide_eq_true_eq, Bool.and_eq_true, beq_iff_eq]
    rcases Nat.lt_trichotomy a.toNat b.toNat with h | h | h
    · exact .inl (.inl (UInt8.lt_iff_toNat_lt.2 h))
    · obtain rfl := UInt8.toNat_inj.1 h
      rcases less_tri x y with h | h | h
      · exact .inl (.inr ⟨rfl, h⟩)
      · exact .inr (.inl (by rw [h]))
      · exact .inr (.inr (.inr ⟨rfl, h⟩))
    · exact .inr (.inr (.inl (UInt8.lt_iff_toNat_lt.2 h)))
theorem less_asym (x y : List UInt8) (h : Op.bytesLess x y = true) : Op.bytesLess y x = false := by
  cases h2 : Op.bytesLess y x
  · rfl
  · have := less_trans x y x h h2
    rw [less_irr] at this
    cases this
/-- The three answers. -/
theorem cmpB_cases (a b : ByteArray) : (cmpB a b = -1 ∧ Op.bytesLess a.toList b.toList = true) ∨ (cmpB a b = 0 ∧ a.toList = b.toList) ∨ (cmpB a b = 1 ∧ Op.bytesLess b.toList a.toList = true) := by
  unfold cmpB
  rcases less_tri a.toList b.toList with h | h | h
  · exact .inl ⟨by rw [if_pos h], h⟩
  · exact .inr (.inl ⟨by rw [h, less_irr]; simp, h⟩)
  · refine .inr (.inr ⟨?_, h⟩)
    rw [less_asym _ _ h, if_neg (by simp), if_neg]
    intro e
    have e := eq_of_beq e
    rw [e, less_irr] at h
    cases h
theorem cmpB_self (a : ByteArray) : cmpB a a = 0 := by
  rcases cmpB_cases a a with ⟨_, h⟩ | ⟨h, _⟩ | ⟨_, h⟩
  · rw [less_irr] at h; cases h
  · exact h
  · rw [less_irr] at h; cases h
theorem cmpB_neg {a b : ByteArray} (h : Op.bytesLess a.toList b.toList = true) : cmpB a b = -1 := by unfold cmpB; rw [if_pos h]
theorem cmpB_pos {a b : ByteArray} (h : Op.bytesLess b.toList a.toList = true) : cmpB a b = 1 := by
  rcases cmpB_cases a b with ⟨_, h2⟩ | ⟨_, h2⟩ | ⟨h2, _⟩
  · rw [less_asym _ _ h2] at h; cases h
  · rw [h2, less_irr] at h; cases h
  · exact h2
theorem cmpB_congr {a b : ByteArray} (h : a.toList = b.toList) (c : ByteArray) : cmpB a c = cmpB b c ∧ cmpB c a = cmpB c b := by
  unfold cmpB
  rw [h]
  exact ⟨rfl, rfl⟩
theorem cmpL_self : ∀ a, cmpL a a = 0
  | [] => rfl
  | x :: a => by
    show (if cmpB x x = 0 then cmpL a a else cmpB x x) = 0
    rw [cmpB_self, if_pos rfl, cmpL_self a]
theorem cmpL_trans : ∀ a b c, cmpL a b < 0 → cmpL b c < 0 → cmpL a c < 0
  | [], [], _, h, _ => by simp [cmpL] at h
  | _ :: _, [], _, h, _ => by simp [cmpL] at h
  | _, _ :: _, [], _, h => by simp [cmpL] at h
  | [], _ :: _, _ :: _, _, _ => by simp [cmpL]
  | x :: a, y :: b, z :: c, h1, h2 => by
    have h1 : (if cmpB x y = 0 then cmpL a b else cmpB x y) < 0 := h1
    have h2 : (if cmpB y z = 0 then cmpL b c else cmpB y z) < 0 := h2
    show (if cmpB x z = 0 then cmpL a c else cmpB x z) < 0
    rcases cmpB_cases x y with ⟨e1, q1⟩ | ⟨e1, q1⟩ | ⟨e1, q1⟩
    · rcases cmpB_cases y z with ⟨e2, q2⟩ | ⟨e2, q2⟩ | ⟨e2, q2⟩
      · rw [cmpB_neg (less_trans _ _ _ q1 q2)]; simp
      · rw [← (cmpB_congr q2 x).2, e1]; simp
      · rw [e2, if_neg (by decide)] at h2; omega
    · rw [(cmpB_congr q1 z).1]
      rw [e1, if_pos rfl] at h1
      rcases cmpB_cases y z with ⟨e2, q2⟩ | ⟨e2, q2⟩ | ⟨e2, q2⟩
      · rw [e2]; simp
      · rw [e2, if_pos rfl] at h2 ⊢; exact cmpL_trans a b c h1 h2
      · rw [e2, if_neg (by decide)] at h2; omega
    · rw [e1, if_neg (by decide)] at h1; omega
theorem cmpL_ntrans : ∀ a b c, 0 ≤ cmpL a b → 0 ≤ cmpL b c → 0 ≤ cmpL a c
  | [], [], [], _, _ => by simp [cmpL]
  | [], [], _ :: _, _, h => by simp [cmpL] at h
  | [], _ :: _, _, h, _ => by simp [cmpL] at h
  | _ :: _, _, [], _, _ => by simp [cmpL]
  | _ :: _, [], _ :: _, _, h => by simp [cmpL] at h
  | x :: a, y :: b, z :: c, h1, h2 => by
    have h1 : 0 ≤ (if cmpB x y = 0 then cmpL a b else cmpB x y) := h1
    have h2 : 0 ≤ (if cmpB y z = 0 then cmpL b c else cmpB y z) := h2
    show 0 ≤ (if cmpB x z = 0 then cmpL a c else cmpB x z)
    rcases cmpB_cases x y with ⟨e1, q1⟩ | ⟨e1, q1⟩ | ⟨e1, q1⟩
    · rw [e1, if_neg (by decide)] at h1; omega
    · rw [(cmpB_congr q1 z).1]
      rw [e1, if_pos rfl] at h1
      rcases cmpB_cases y z with ⟨e2, q2⟩ | ⟨e2, q2⟩ | ⟨e2, q2⟩
      · rw [e2, if_neg (by decide)] at h2; omega
      · rw [e2, if_pos rfl] at h2 ⊢; exact cmpL_ntrans a b c h1 h2
      · rw [e2]; simp
    · rcases cmpB_cases y z with ⟨e2, q2⟩ | ⟨e2, q2⟩ | ⟨e2, q2⟩
      · rw [e2, if_neg (by decide)] at h2; omega
      · rw [← (cmpB_congr q2 x).2, e1]; simp
      · rw [cmpB_pos (less_trans _ _ _ q2 q1)]; simp
theorem compB_self (a : ByteArray) : compB a a = 0 := cmpL_self _
theorem compB_trans {a b c : ByteArray} (h : compB a b < 0) (k : compB b c < 0) : compB a c < 0 := cmpL_trans _ _ _ h k
theorem compB_ntrans {a b c : ByteArray} (h : 0 ≤ compB a b) (k : 0 ≤ compB b c) : 0 ≤ compB a c := cmpL_ntrans _ _ _ h k
/-- Two rows in strict order of the same things are one. -/
theorem sorted_one {α : Type} {R : α → α → Prop} (irr : ∀ x, ¬ R x x) (tr : ∀ x y z, R x y → R y z → R x z) : ∀ {l m : List α}, l.Perm m → l.Pairwise R → m.Pairwise R → l = m
  | [], m, h, _, _ => by rw [List.nil_perm.1 h]
  | x :: l, [], h, _, _ => by have := h.length_eq; simp at this
  | x :: l, y :: m, h, hl, hm => by
    obtain ⟨hx, hl'⟩ := List.pairwise_cons.1 hl
    obtain ⟨hy, hm'⟩ := List.pairwise_cons.1 hm
    have hxy : x = y := by
      have h1 : x ∈ y :: m := h.subset List.mem_cons_self
      have h2 : y ∈ x :: l := h.symm.subset List.mem_cons_self
      rcases List.mem_cons.1 h1 with e | h1
      · exact e
      · rcases List.mem_cons.1 h2 with e | h2
        · exact e.symm
        · exact absurd (tr _ _ _ (hx _ h2) (hy _ h1)) (irr _)
    subst hxy
    rw [sorted_one irr tr (List.Perm.cons_inv h) hl' hm']
end Go.Proofs.YtageofdcloneoaaDoor.Rout
set_option linter.unusedVariables false
namespace Go.Proofs.YtageofdcloneoaaDoor.Node
open Go.RowKit Go.Proofs.YtageofdcloneoaaDoorW.PrintWords Go.Proofs.YtageofdcloneoaaDoorW.PrintLast Go.Proofs.YtageofdcloneoaaDoorW.PrintMore
/-- f0: the kind; f1: the path; f2: the bytes; f3: the mode; f4: the time. -/
structure Nd where
  f0 : Int
  f1 : ByteArray
  f2 : (List Int)
  f3 : Int
  f4 : Int
def zN : Nd := ⟨(0 : Int), (⟨#[]⟩ : ByteArray), ([] : List Int), (0 : Int), (0 : Int)⟩
def kN : Kd Nd := Kd.iso (Kd.pair (Kd.int .i64) (Kd.pair Kd.string (Kd.pair (Kd.slice 5 (Kd.int .u8)) (Kd.pair (Kd.int .i64) (Kd.int .i64))))) (fun x : Nd => (x.f0, x.f1, x.f2, x.f3, x.f4))
theorem kN_open {w : World} {x : Nd} {cs : List Value} (h : kN.K w x cs) : ∃ A2 c2, cs = [.int .i64 x.f0, .string x.f1, .slice A2 x.f2.length c2, .int .i64 x.f3, .int .i64 x.f4] ∧ x.f2.length ≤ c2 ∧ (Kd.int .u8).C w A2 x.f2.length x.f2 := by
  obtain ⟨_, _, rfl, rfl, ⟨_, _, rfl, rfl, ⟨_, _, rfl, ⟨A2, c2, rfl, l2, g2⟩, ⟨_, _, rfl, rfl, rfl⟩⟩⟩⟩ := h
  exact ⟨A2, c2, rfl, l2, g2⟩
theorem kN_openM {w : World} {base : Nat} {ok : Nat → Prop} {x : Nd} {cs : List Value} (h : kN.M w base ok x cs) : ∃ v2, cs = [.int .i64 x.f0, .string x.f1, v2, .int .i64 x.f3, .int .i64 x.f4] ∧ (Kd.int .u8).R 5 w base ok v2 x.f2 := by
  obtain ⟨_, _, rfl, rfl, ⟨_, _, rfl, rfl, ⟨_, _, rfl, ⟨v2, rfl, g2⟩, ⟨_, _, rfl, rfl, rfl⟩⟩⟩⟩ := h
  exact ⟨v2, rfl, g2⟩
theorem kN_mk (w : World) (x : Nd) {A2 : Option Addr} {c2 : Nat} (l2 : x.f2.length ≤ c2) (g2 : (Kd.int .u8).C w A2 x.f2.length x.f2) : kN.K w x [.int .i64 x.f0, .string x.f1, .slice A2 x.f2.length c2, .int .i64 x.f3, .int .i64 x.f4] := ⟨[.int .i64 x.f0], [.string x.f1, .slice A2 x.f2.length c2, .int .i64 x.f3, .int .i64 x.f4], rfl, rfl, ⟨[.string x.f1], [.slice A2 x.f2.length c2, .int .i64 x.f3, .int .i64 x.f4], rfl, rfl, ⟨[.slice A2 x.f2.length c2], [.int .i64 x.f3, .int .i64 x.f4], rfl, ⟨A2, c2, rfl, l2, g2⟩, ⟨[.int .i64 x.f3], [.int .i64 x.f4], rfl, rfl, rfl⟩⟩⟩⟩
theorem kN_mkM (w : World) (base : Nat) (ok : Nat → Prop) (x : Nd) {v2 : Value} (g2 : (Kd.int .u8).R 5 w base ok v2 x.f2) : kN.M w base ok x [.int .i64 x.f0, .string x.f1, v2, .int .i64 x.f3, .int .i64 x.f4] := ⟨[.int .i64 x.f0], [.string x.f1, v2, .int .i64 x.f3, .int .i64 x.f4], rfl, rfl, ⟨[.string x.f1], [v2, .int .i64 x.f3, .int .i64 x.f4], rfl, rfl, ⟨[v2], [.int .i64 x.f3, .int .i64 x.f4], rfl, ⟨v2, rfl, g2⟩, ⟨[.int .i64 x.f3], [.int .i64 x.f4], rfl, rfl, rfl⟩⟩⟩⟩
theorem kN_openF {W : World} {ok : Nat → Prop} {x : Nd} {cs : List Value} (h : Kd.FK kN W ok x cs) : ∃ A2 c2, cs = [.int .i64 x.f0, .string x.f1, .slice A2 x.f2.length c2, .int .i64 x.f3, .int .i64 x.f4] ∧ x.f2.length ≤ c2 ∧ Kd.F (Kd.int .u8) W ok A2 x.f2.length x.f2 := by
  obtain ⟨A2, c2, rfl, l2, _⟩ := kN_open (Kd.FK_now h)
  exact ⟨A2, c2, rfl, l2, (fun W' hW => by obtain ⟨A2_, c2_, he, l2_, g2_⟩ := kN_open (h W' hW); injection (Option.some.inj (show some (Value.slice A2 x.f2.length c2) = some (Value.slice A2_ x.f2.length c2_) from congrArg (fun l => l[2]?) he)) with ha_ _ _; rw [ha_]; exact g2_)⟩
theorem kN_mkF (W : World) (ok : Nat → Prop) (x : Nd) {A2 : Option Addr} {c2 : Nat} (l2 : x.f2.length ≤ c2) (g2 : Kd.F (Kd.int .u8) W ok A2 x.f2.length x.f2) : Kd.FK kN W ok x [.int .i64 x.f0, .string x.f1, .slice A2 x.f2.length c2, .int .i64 x.f3, .int .i64 x.f4] := fun W2 hW => kN_mk W2 x l2 (g2 W2 hW)
def rdN (xs : List Nd) (i : Int) : Nd := xs.getD i.toNat zN
theorem atN {w : World} {A : Option Addr} {n : Nat} {xs : List Nd} (h : Kd.C kN w A n xs) (i : Int) (h0 : 0 ≤ i) (h1 : i < n) : ∃ ad A2 c2, A = some ad ∧ w.cell? (ad.add (i.toNat * 5)) = some (.int .i64 (rdN xs i).f0) ∧ w.cell? ⟨(ad.add (i.toNat * 5)).block, (ad.add (i.toNat * 5)).off + 1, none⟩ = some (.string (rdN xs i).f1) ∧ w.cell? ⟨(ad.add (i.toNat * 5)).block, (ad.add (i.toNat * 5)).off + 2, none⟩ = some (.slice A2 (rdN xs i).f2.length c2) ∧ w.cell? ⟨(ad.add (i.toNat * 5)).block, (ad.add (i.toNat * 5)).off + 3, none⟩ = some (.int .i64 (rdN xs i).f3) ∧ w.cell? ⟨(ad.add (i.toNat * 5)).block, (ad.add (i.toNat * 5)).off + 4, none⟩ = some (.int .i64 (rdN xs i).f4) ∧ (rdN xs i).f2.length ≤ c2 ∧ (Kd.int .u8).C w A2 (rdN xs i).f2.length (rdN xs i).f2 := by
  obtain ⟨ad, c, e, _, hK, hc0⟩ := Kd.C_get h zN i h0 h1
  have hc : ∀ j u, c[j]? = some u → w.cell? (ad.add (i.toNat * 5 + j)) = some u := hc0
  obtain ⟨A2, c2, rfl, l2, g2⟩ := kN_open hK
  exact ⟨ad, A2, c2, e, hc 0 _ rfl, by rw [← add_field _ _ 1 (by omega)]; exact hc 1 _ rfl, by rw [← add_field _ _ 2 (by omega)]; exact hc 2 _ rfl, by rw [← add_field _ _ 3 (by omega)]; exact hc 3 _ rfl, by rw [← add_field _ _ 4 (by omega)]; exact hc 4 _ rfl, l2, g2⟩

end Go.Proofs.YtageofdcloneoaaDoor.Node
