/- route.Parent, strings.Split at "/", route.Compare walked. -/
import Derived.Test.YtfnncfgdlinmcaaDoorRoutV
import Derived.Lib.SplitLaws
import Derived.WalkLawsBesides
import Derived.Test.YtfnncfgdlinmcaaDoorWMore
set_option linter.unusedVariables false
set_option linter.unusedSimpArgs false
namespace Go.Proofs.YtfnncfgdlinmcaaDoor.Rout
open Go.RowKit Go.BigFrame Go.Proofs.YtfnncfgdlinmcaaDoor.Reg Go.Proofs.YtfnncfgdlinmcaaDoorW.PrintWords
/-! ### the pieces, by the shelf's word -/
theorem cut_len : ∀ l : List UInt8, (cut l).length = l.count 47 + 1
  | [] => rfl
  | c :: r => by
    have h := cut_len r
    rw [show cut (c :: r) = if c = 47 then [] :: cut r else match cut r with | [] => [[c]] | p :: ps => (c :: p) :: ps from rfl, List.count_cons]
    by_cases hc : c = 47
    · rw [if_pos hc, hc]; simp; omega
    · rw [if_neg hc]
      have : (c == 47) = false := beq_eq_false_iff_ne.mpr hc
      rw [this]
      cases hr : cut r with
      | nil => exact absurd hr (cut_ne r)
      | cons p ps => rw [hr] at h; simpa using h
theorem pcs_len (s : ByteArray) : (pcs s).length = s.data.toList.count 47 + 1 := by unfold pcs; rw [List.length_map, cut_len]
theorem indexB_one (s : ByteArray) : Lib.indexB s ⟨#[47]⟩ = Lib.indexByte s.data.toList 47 := by
  show Lib.index s.data.toList [47] = _
  exact Lib.index_one _ _
theorem splitB_pcs : ∀ (k : Nat) (s : ByteArray), (pcs s).length ≤ k + 1 → Lib.splitB ⟨#[47]⟩ 0 k s = pcs s
  | 0, s, h => by
    have hge := Lib.indexByte_ge s.data.toList 47
    by_cases hm : Lib.indexByte s.data.toList 47 = -1
    · rw [pcs_miss s hm]; rfl
    · obtain ⟨m, hm2⟩ : ∃ m : Nat, Lib.indexByte s.data.toList 47 = (m : Int) := ⟨(Lib.indexByte s.data.toList 47).toNat, by omega⟩
      rw [(pcs_hit s m hm2).2] at h
      have := List.length_pos_iff.2 (pcs_ne (s.extract (m + 1) s.size))
      simp at h
      exact absurd h (pcs_ne _)
  | k + 1, s, h => by
    have hge := Lib.indexByte_ge s.data.toList 47
    by_cases hm : Lib.indexByte s.data.toList 47 = -1
    · rw [pcs_miss s hm, Lib.splitB_miss _ _ _ _ (by rw [indexB_one]; exact hm)]
    · obtain ⟨m, hm2⟩ : ∃ m : Nat, Lib.indexByte s.data.toList 47 = (m : Int) := ⟨(Lib.indexByte s.data.toList 47).toNat, by omega⟩
      rw [(pcs_hit s m hm2).2] at h ⊢
      rw [Lib.splitB_hit _ _ _ _ m (by rw [indexB_one]; exact hm2)]
      have e := splitB_pcs k (s.extract (m + 1) s.size) (by simpa using h)
      rw [show (m + (⟨#[47]⟩ : ByteArray).size) = m + 1 from rfl, e]
      rfl
/-! ### Parent -/
def parB (s : ByteArray) : ByteArray × Bool := if 0 ≤ Lib.lastIndexByte s 47 ∧ validB s = true then (s.extract 0 (Lib.lastIndexByte s 47).toNat, true) else (⟨#[]⟩, false)
theorem last_cases (s : ByteArray) : Lib.lastIndexByte s 47 = -1 ∨ ∃ i : Nat, i < s.size ∧ Lib.lastIndexByte s 47 = i := by
  rcases Lib.lastIdx_spec s 47 s.size with h | h
  · exact .inl h.1
  · obtain ⟨i, h1, h2, _⟩ := h
    exact .inr ⟨i, h1, h2⟩
set_option maxHeartbeats 2000000 in
theorem parent_calls (s : ByteArray) (w : World) (hs : s.size ≤ 140737488355328) :
    Calls Tryd.prog 17 #[.string s] w fun e w' => e = .returned (.tuple #[.string (parB s).1, .bool (parB s).2]) ∧ Below w.heap.size w w' := by
  have HL := Lib.hid (Tryd.strings_LastIndexByte s 47 (by omega))
  have HV := Lib.hid (fun W => valid_calls s W hs)
  have HP := Lib.hid (show parB s = if 0 ≤ Lib.lastIndexByte s 47 ∧ validB s = true then (s.extract 0 (Lib.lastIndexByte s 47).toNat, true) else (⟨#[]⟩, false) from rfl)
  rcases last_cases s with hl | ⟨i, hi, hl⟩
  · rw [hl] at HL HP
    have HE := Lib.hid (show parB s = (⟨#[]⟩, false) by rw [HP.out]; simp)
    clear hl HP
    go_enter Tryd.func17, Tryd.ntmps17
    go_wp2_with (go_at_call 35; refine (HL.out _).mono ?_; rintro e w' ⟨rfl, rfl⟩)
    go_ret2
    rw [HE.out]
    exact ⟨rfl, Below.refl _ _⟩
  · rw [hl] at HL HP
    cases hv : validB s
    · rw [hv] at HV HP
      have HE := Lib.hid (show parB s = (⟨#[]⟩, false) by rw [HP.out]; simp)
      clear hl HP hv
      go_enter Tryd.func17, Tryd.ntmps17
      go_wp2_with (first
        | (go_at_call 35; refine (HL.out _).mono ?_; rintro e w' ⟨rfl, rfl⟩)
        | (go_at_call 16; refine (HV.out _).mono ?_; rintro e w1 ⟨rfl, hb⟩))
      go_ret2
      rw [HE.out]
      exact ⟨rfl, hb⟩
    · rw [hv] at HV HP
      have HE := Lib.hid (show parB s = (s.extract 0 i, true) by rw [HP.out]; simp)
      clear hl HP hv
      go_enter Tryd.func17, Tryd.ntmps17
      go_wp2_with (first
        | (go_at_call 35; refine (HL.out _).mono ?_; rintro e w' ⟨rfl, rfl⟩)
        | (go_at_call 16; refine (HV.out _).mono ?_; rintro e w1 ⟨rfl, hb⟩))
      go_ret2
      rw [HE.out]
      exact ⟨rfl, hb⟩
/-! ### Split -/
theorem split_calls (s : ByteArray) (w : World) (hs : s.size < 4294967281) :
    Calls Tryd.prog 30 #[.string s, .string ⟨#[47]⟩] w fun e w' => e = .returned (.slice (some ⟨w.heap.size, 0, none⟩) (pcs s).length (pcs s).length) ∧ w' = w.alloc (.cells ((pcs s).map Value.string).toArray 9) := by
  have hcnt : Lib.countB s ⟨#[47]⟩ = s.data.toList.count 47 := Lib.count_one 47 s.data.toList
  have hle : s.data.toList.count 47 ≤ s.size := by rw [← size_data]; exact List.count_le_length
  have c := Tryd.strings_genSplit_core s ⟨#[47]⟩ 0 (-1) (pcs s).length w hs (by decide) (by decide)
    (fun x c hx => (Tryd.strings_Index_one x 47 _).mono fun e w' ⟨h1, h2⟩ => ⟨by rw [indexB_one]; exact h1, h2⟩)
    ((Tryd.strings_Count_one s 47 w).mono fun e w' ⟨h1, h2⟩ => ⟨by rw [hcnt]; exact h1, h2⟩)
    (by decide) (by decide) (by rw [if_pos (by decide), hcnt, pcs_len]; omega)
  rw [splitB_pcs _ s (by omega)] at c
  have e2 : Lib.cellsOf (pcs s) (pcs s).length = ((pcs s).map Value.string).toArray := Lib.cellsOf_full _
  rw [e2] at c
  have C := Lib.hid c
  clear c e2 hcnt hle
  go_enter Tryd.func30, Tryd.ntmps30
  go_wp2_with (go_at_call 46; refine C.out.mono ?_; rintro e w' ⟨rfl, hw⟩; rw [hw])
  go_ret
  exact ⟨rfl, rfl⟩
/-! ### Compare -/
def cmpB (a b : ByteArray) : Int := if Op.bytesLess a.toList b.toList = true then -1 else if (a.toList == b.toList) = true then 0 else 1
set_option maxHeartbeats 2000000 in
theorem cmp_calls (a b : ByteArray) (w : World) : Calls Tryd.prog 77 #[.string a, .string b] w fun e w' => e = .returned (.int .i64 (cmpB a b)) ∧ w = w' := by
  have HE := Lib.hid (show cmpB a b = if Op.bytesLess a.toList b.toList = true then -1 else if (a.toList == b.toList) = true then 0 else 1 from rfl)
  cases h1 : Op.bytesLess a.toList b.toList
  · cases h2 : (a.toList == b.toList)
    · rw [h1, h2] at HE
      have HX := Lib.hid (show cmpB a b = 1 by rw [HE.out]; simp)
      clear HE
      go_enter Tryd.func77, Tryd.ntmps77
      go_wp2
      go_ret
      rw [HX.out]
      exact ⟨rfl, rfl⟩
    · rw [h1, h2] at HE
      have HX := Lib.hid (show cmpB a b = 0 by rw [HE.out]; simp)
      clear HE
      go_enter Tryd.func77, Tryd.ntmps77
      go_wp2
      go_ret
      rw [HX.out]
      exact ⟨rfl, rfl⟩
  · rw [h1] at HE
    have HX := Lib.hid (show cmpB a b = -1 by rw [HE.out]; simp)
    clear HE
    go_enter Tryd.func77, Tryd.ntmps77
    go_wp2
    go_ret
    rw [HX.out]
    exact ⟨rfl, rfl⟩
def cmpL : List ByteArray → List ByteArray → Int
  | [], [] => 0
  | [], _ :: _ => -1
  | _ :: _, [] => 1
  | a :: r, b :: q => if cmpB a b = 0 then cmpL r q else cmpB a b
theorem cmpL_end (xs ys : List ByteArray) (k : Nat) (h : xs.length ≤ k) (hk : k ≤ ys.length) (hx : k ≤ xs.length) : cmpL (xs.drop k) (ys.drop k) = if xs.length < ys.length then -1 else 0 := by
  rw [List.drop_of_length_le h]
  cases hd : ys.drop k with
  | nil =>
    have := List.drop_eq_nil_iff.1 hd
    rw [if_neg (by omega)]; rfl
  | cons y r =>
    have : k < ys.length := by
      rcases Nat.lt_or_ge k ys.length with h | h
      · exact h
      · rw [List.drop_of_length_le h] at hd; cases hd
    rw [if_pos (by omega)]; rfl
theorem cmpL_out (xs ys : List ByteArray) (k : Nat) (h : k < xs.length) (hk : ys.length ≤ k) : cmpL (xs.drop k) (ys.drop k) = 1 := by
  rw [List.drop_eq_getElem_cons h, List.drop_of_length_le hk]
  rfl
theorem cmpL_in (xs ys : List ByteArray) (k : Nat) (h : k < xs.length) (hk : k < ys.length) : cmpL (xs.drop k) (ys.drop k) = if cmpB (rdOf ByteArray.empty xs k) (rdOf ByteArray.empty ys k) = 0 then cmpL (xs.drop (k + 1)) (ys.drop (k + 1)) else cmpB (rdOf ByteArray.empty xs k) (rdOf ByteArray.empty ys k) := by
  rw [List.drop_eq_getElem_cons h, List.drop_eq_getElem_cons hk]
  have e1 : rdOf ByteArray.empty xs (k : Int) = xs[k] := by unfold rdOf; rw [Int.toNat_natCast, List.getD_eq_getElem?_getD, List.getElem?_eq_getElem h]; rfl
  have e2 : rdOf ByteArray.empty ys (k : Int) = ys[k] := by unfold rdOf; rw [Int.toNat_natCast, List.getD_eq_getElem?_getD, List.getElem?_eq_getElem hk]; rfl
  rw [e1, e2]
  rfl
set_option maxHeartbeats 4000000 in
theorem compareL_calls (A B : Option Addr) (c d : Nat) (xs ys : List ByteArray) (w : World) (hx : Kd.string.C w A xs.length xs) (hy : Kd.string.C w B ys.length ys) (lx : xs.length ≤ 8796093022208) (ly : ys.length ≤ 8796093022208) :
    Calls Tryd.prog 61 #[.slice A xs.length c, .slice B ys.length d] w fun e w' => e = .returned (.int .i64 (cmpL xs ys)) ∧ w = w' := by
  have HX := Lib.hid hx
  have HY := Lib.hid hy
  clear hx hy
  go_enter Tryd.func61, Tryd.ntmps61
  go_wp2
  go_loop [5, 6, 7, 8, 11] (fun _ _ _ _ i => ∃ k : Nat, i = .int .i64 k ∧ k ≤ xs.length ∧ k ≤ ys.length ∧ Hid (cmpL (xs.drop k) (ys.drop k) = cmpL xs ys)) (fun _ _ _ _ i => (xs.length - intOf i).toNat)
  case atStart => exact ⟨0, rfl, by omega, by omega, Lib.hid rfl⟩
  case round =>
    obtain ⟨k, rfl, hk, hk2, he⟩ := hrel
    by_cases h1 : k < xs.length
    · obtain ⟨ad1, hA, c1⟩ := Kd.at_string HX.out (k : Int) (by omega) (by omega)
      subst hA
      rw [Int.toNat_natCast] at c1
      by_cases h2 : k < ys.length
      · obtain ⟨ad2, hB, c2⟩ := Kd.at_string HY.out (k : Int) (by omega) (by omega)
        subst hB
        rw [Int.toNat_natCast] at c2
        have hin := Lib.hid (cmpL_in xs ys k h1 h2)
        generalize rdOf ByteArray.empty xs (k : Int) = x at *
        generalize rdOf ByteArray.empty ys (k : Int) = y at *
        have HC := Lib.hid (cmp_calls x y)
        by_cases hz : cmpB x y = 0
        · rw [hz] at HC hin
          have HN := Lib.hid (show cmpL (xs.drop (k + 1)) (ys.drop (k + 1)) = cmpL xs ys by rw [← he.out, hin.out]; simp)
          clear hin hz he
          go_wp2_with (go_at_call 77; refine (HC.out _).mono ?_; rintro e w' ⟨rfl, rfl⟩)
          go_round
          case rel => exact ⟨k + 1, by go_num, by omega, by omega, HN⟩
          case measure => simp [intOf]; omega
        · have hz2 : (cmpB x y != 0) = true := by simpa using hz
          have HN := Lib.hid (show cmpB x y = cmpL xs ys by rw [← he.out, hin.out, if_neg hz])
          clear hin hz he
          generalize cmpB x y = z at *
          go_wp2_with (go_at_call 77; refine (HC.out _).mono ?_; rintro e w' ⟨rfl, rfl⟩)
          go_ret
          rw [← HN.out]
          exact ⟨rfl, rfl⟩
      · have HN := Lib.hid (show (1 : Int) = cmpL xs ys by rw [← he.out, cmpL_out xs ys k h1 (by omega)])
        clear he
        go_wp2
        go_ret
        rw [← HN.out]
        exact ⟨rfl, rfl⟩
    · have HN := Lib.hid (show cmpL xs ys = if xs.length < ys.length then -1 else 0 by rw [← he.out, cmpL_end xs ys k (by omega) (by omega) (by omega)])
      clear he
      by_cases h3 : xs.length < ys.length
      · rw [if_pos h3] at HN
        go_wp2
        go_ret
        rw [HN.out]
        exact ⟨rfl, rfl⟩
      · rw [if_neg h3] at HN
        go_wp2
        go_ret
        rw [HN.out]
        exact ⟨rfl, rfl⟩
theorem strs_C (w : World) (xs : List ByteArray) (h : xs.length ≤ 9223372036854775807) : Kd.string.C (w.alloc (.cells (xs.map Value.string).toArray 9)) (some ⟨w.heap.size, 0, none⟩) xs.length xs := by
  have hown := own_lit_of (enc := Value.string) w w.heap.size 9 xs (Nat.le_refl _) h
  have hR : Kd.string.R 9 (w.alloc (.cells (encs Value.string xs).toArray 9)) w.heap.size (fun _ => True) (.slice (some ⟨w.heap.size, 0, none⟩) xs.length xs.length) xs := Kd.R_of_own hown (fun _ _ => trivial)
  exact (Kd.R_reads' hR).2.2
theorem split_any (s : ByteArray) (w : World) (hs : s.size < 4294967281) :
    Calls Tryd.prog 30 #[.string s, .string ⟨#[47]⟩] w fun e w' => ∃ A, e = .returned (.slice A (pcs s).length (pcs s).length) ∧ Kd.string.C w' A (pcs s).length (pcs s) ∧ Below w.heap.size w w' := by
  have hl : (pcs s).length ≤ 9223372036854775807 := by rw [pcs_len]; have := List.count_le_length (a := (47 : UInt8)) (l := s.data.toList); rw [size_data] at this; omega
  refine (split_calls s w hs).mono fun e w' ⟨he, hw⟩ => ⟨_, he, ?_, ?_⟩
  · rw [hw]; exact strs_C w (pcs s) hl
  · rw [hw]; exact balloc (Below.refl _ _) _
def compB (a b : ByteArray) : Int := cmpL (pcs a) (pcs b)
set_option maxRecDepth 100000 in
set_option maxHeartbeats 4000000 in
theorem compare_calls (a b : ByteArray) (w : World) (ha : a.size ≤ 1024) (hb : b.size ≤ 1024) :
    Calls Tryd.prog 45 #[.string a, .string b] w fun e w' => e = .returned (.int .i64 (compB a b)) ∧ Below w.heap.size w w' := by
  have la : (pcs a).length ≤ 1025 := by rw [pcs_len]; have := List.count_le_length (a := (47 : UInt8)) (l := a.data.toList); rw [size_data] at this; omega
  have lb : (pcs b).length ≤ 1025 := by rw [pcs_len]; have := List.count_le_length (a := (47 : UInt8)) (l := b.data.toList); rw [size_data] at this; omega
  have tok : True := trivial
  have C1 := Lib.hid (fun W => split_any a W (by omega))
  have C2 := Lib.hid (fun W => split_any b W (by omega))
  go_enter Tryd.func45, Tryd.ntmps45
  go_wp2_with (first
    | (go_at_call 61; refine (compareL_calls _ _ _ _ _ _ _ HX.out HY.out (by omega) (by omega)).mono ?_; rintro e w3 ⟨rfl, rfl⟩)
    | (go_at_call 30; have _t := tok; with_reducible refine (C1.out _).mono ?_; rintro e w1 ⟨A1, rfl, h1, hb1⟩; have H1 := Lib.hid h1; have B1 := Lib.hid hb1; clear h1 hb1 tok)
    | (go_at_call 30; with_reducible refine (C2.out _).mono ?_; rintro e w2 ⟨A2, rfl, h2, hb2⟩; have HY := Lib.hid h2; have HX := Lib.hid (Kd.C_below H1.out hb2); have B2 := Lib.hid (bgo B1.out hb2); clear h2 hb2))
  go_ret
  exact ⟨rfl, B2.out⟩
end Go.Proofs.YtfnncfgdlinmcaaDoor.Rout
