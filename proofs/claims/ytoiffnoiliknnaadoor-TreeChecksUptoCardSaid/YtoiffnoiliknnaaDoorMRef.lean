/- RefP, GrowO, RefC, RefN, GrowP, GrowQ, RefK, RefH, RefJ put together. -/
import Derived.Test.YtoiffnoiliknnaaDoorMTree
import Derived.Test.YtoiffnoiliknnaaDoorPParentx1
import Derived.Sort.Statements
import Derived.Test.YtoiffnoiliknnaaDoorPfindx1
import Derived.Test.YtoiffnoiliknnaaDoorPMayx1
import Derived.Test.YtoiffnoiliknnaaDoorMProj
import Derived.Test.YtoiffnoiliknnaaDoorMTim
set_option linter.unusedVariables false
set_option linter.unusedSimpArgs false
namespace Go.Proofs.YtoiffnoiliknnaaDoor.Rout
open Go.RowKit Go.Proofs.YtoiffnoiliknnaaDoorW.PrintWords Go.Proofs.YtoiffnoiliknnaaDoor.PParent
theorem w64 {x : Int} (h0 : -9223372036854775808 ≤ x) (h1 : x ≤ 9223372036854775807) : wrap64 x = x := by
  unfold wrap64; omega
theorem bt_get (s : ByteArray) (i : Nat) (h : i < s.size) : ∃ c : UInt8, s.data.toList[i]? = some c ∧ bt s (i : Int) = (c.toNat : Int) := by
  refine ⟨s[i]'h, get_data s i h, ?_⟩
  unfold bt
  rw [dif_pos (by rw [Int.toNat_natCast]; exact h)]
  simp
theorem cut_none (s : ByteArray) (fr : Nat) (h0 : ∀ j, fr ≤ j → j < s.size → s.data.toList[j]? ≠ some 47) : cut (s.data.toList.drop fr) = [s.data.toList.drop fr] := by
  refine cut_miss _ (fun k => ?_)
  rw [List.getElem?_drop]
  by_cases hk : fr + k < s.size
  · exact h0 _ (by omega) hk
  · rw [List.getElem?_eq_none (by rw [size_data]; omega)]; simp
theorem ext_toB (s : ByteArray) (a b : Nat) (hab : a ≤ b) : s.extract a b = toB ((s.data.toList.drop a).take (b - a)) := by
  refine ba_ext ?_
  rw [data_toB, Lib.extract_data]
theorem pieces_is (s : ByteArray) (hs : s.size ≤ 1024) : ∀ (n k : Nat) (acc : List ByteArray) (fr i : Nat), s.size - i = n → fr ≤ i → i ≤ s.size → (∀ j, fr ≤ j → j < i → s.data.toList[j]? ≠ some 47) → acc.length ≤ i → n + 2 ≤ k →
    hamperref17_Pieces.l0 k s acc (fr : Int) (i : Int) = some (acc ++ (cut (s.data.toList.drop fr)).map toB)
  | 0, k + 2, acc, fr, i, hn, hf, hi, hc, ha, hk => by
    have hi2 : i = s.size := by omega
    unfold hamperref17_Pieces.l0
    rw [if_pos (by omega), if_pos (by omega), if_pos (by omega), if_pos (by omega), if_pos (by omega), w64 (by omega) (by omega)]
    unfold hamperref17_Pieces.l0
    rw [if_neg (by omega), cut_none s fr (fun j h1 h2 => hc j h1 (by omega))]
    rw [Int.toNat_natCast, Int.toNat_natCast, ext_toB s fr i hf, List.take_of_length_le (by rw [List.length_drop, size_data]; omega)]
    rfl
  | n + 1, k + 1, acc, fr, i, hn, hf, hi, hc, ha, hk => by
    have hlt : i < s.size := by omega
    obtain ⟨c, h1, h2⟩ := bt_get s i hlt
    unfold hamperref17_Pieces.l0
    rw [if_pos (by omega), if_neg (by omega), if_pos (by omega), if_pos (by omega), h2, w64 (by omega) (by omega)]
    by_cases hz : c = 47
    · subst hz
      rw [if_pos (by rfl), if_pos (by omega), if_pos (by omega), if_pos (by omega)]
      have ih := pieces_is s hs n k (acc ++ [s.extract (fr : Int).toNat (i : Int).toNat]) (i + 1) (i + 1) (by omega) (Nat.le_refl _) (by omega) (fun j h3 h4 => by omega) (by rw [List.length_append, List.length_singleton]; omega) (by omega)
      rw [show (((i + 1 : Nat)) : Int) = (i : Int) + 1 by omega] at ih
      rw [ih]
      have hcut := cut_hit (s.data.toList.drop fr) (i - fr) (by rw [List.getElem?_drop, show fr + (i - fr) = i by omega]; exact h1) (fun k hk => by rw [List.getElem?_drop]; exact hc _ (by omega) (by omega))
      rw [hcut, List.drop_drop, show fr + (i - fr + 1) = i + 1 by omega, List.map_cons, Int.toNat_natCast, Int.toNat_natCast, ext_toB s fr i hf, List.append_assoc]
      rfl
    · rw [if_neg (by
        intro e
        apply hz
        have : c.toNat = 47 := by omega
        exact UInt8.toNat_inj.1 this)]
      have ih := pieces_is s hs n k acc fr (i + 1) (by omega) (by omega) (by omega) (fun j h3 h4 => by
        by_cases hj : j = i
        · subst hj; rw [h1]; intro e; exact hz (Option.some.inj e)
        · exact hc j h3 (by omega)) (by omega) (by omega)
      rw [show (((i + 1 : Nat)) : Int) = (i : Int) + 1 by omega] at ih
      exact ih
theorem refPieces (s : ByteArray) (hs : s.size ≤ 1024) (k : Nat) (hk : 1026 ≤ k) : hamperref17_Pieces.f k s = some (pcs s) := by
  unfold hamperref17_Pieces.f
  have h := pieces_is s hs s.size k [] 0 0 (by omega) (Nat.le_refl _) (by omega) (fun j _ h => by omega) (by simp) (by omega)
  simpa [pcs] using h
theorem name_is (s : ByteArray) : ∀ (n k i : Nat), s.size - i = n → i ≤ s.size → s.size ≤ 1024 → n + 1 ≤ k →
    hamperref17_name.l0 k s (i : Int) = some ((s.data.toList.drop i).all (fun c => c != 47 && c != 0) && (decide (1 ≤ s.size) && decide (s.size ≤ 255) && (s.data.toList != [46]) && (s.data.toList != [46, 46])))
  | 0, k + 1, i, hn, hi, hs, hk => by
    unfold hamperref17_name.l0
    rw [if_neg (by omega), List.drop_of_length_le (by rw [size_data]; omega), ByteArray.toList_eq]
    by_cases h1 : 1 ≤ s.size
    · rw [if_pos (by omega)]
      by_cases h2 : s.size ≤ 255
      · rw [if_pos (by omega), decide_eq_true h1, decide_eq_true h2]
        by_cases h3 : s.data.toList = [46]
        · rw [if_pos h3, h3]; rfl
        · rw [if_neg h3]
          have : (s.data.toList != [46]) = true := by simpa using h3
          rw [this]
          simp
      · rw [if_neg (by omega), decide_eq_false h2]; simp
    · rw [if_neg (by omega), decide_eq_false h1]; simp
  | n + 1, k + 1, i, hn, hi, hs, hk => by
    have hlt : i < s.size := by omega
    obtain ⟨c, h1, h2⟩ := bt_get s i hlt
    unfold hamperref17_name.l0
    rw [if_pos (by omega), if_pos (by omega), h2, w64 (by omega) (by omega)]
    have hd : s.data.toList.drop i = c :: s.data.toList.drop (i + 1) := by
      have hl : i < s.data.toList.length := by rw [size_data]; exact hlt
      rw [List.getElem?_eq_getElem hl] at h1
      rw [List.drop_eq_getElem_cons hl, Option.some.inj h1]
    rw [hd, List.all_cons]
    by_cases h3 : c = 47
    · subst h3; rw [if_pos (by rfl)]; rfl
    · rw [if_neg (by
        intro e
        apply h3
        have : c.toNat = 47 := by omega
        exact UInt8.toNat_inj.1 this)]
      by_cases h4 : c = 0
      · subst h4; rw [if_pos (by rfl)]; simp
      · rw [if_neg (by
          intro e
          apply h4
          have : c.toNat = 0 := by omega
          exact UInt8.toNat_inj.1 this)]
        have ih := name_is s n k (i + 1) (by omega) (by omega) hs (by omega)
        rw [show (((i + 1 : Nat)) : Int) = (i : Int) + 1 by omega] at ih
        rw [ih]
        have e1 : (c != 47) = true := by simpa using h3
        have e2 : (c != 0) = true := by simpa using h4
        rw [e1, e2]
        rfl
theorem refName (s : ByteArray) (hs : s.size ≤ 1024) (k : Nat) (hk : 1025 ≤ k) : hamperref17_name.f k s = some (nameB s) := by
  unfold hamperref17_name.f
  have h := name_is s s.size k 0 (by omega) (by omega) hs (by omega)
  rw [show ((0 : Nat) : Int) = 0 from rfl, List.drop_zero] at h
  rw [h]
  unfold nameB
  rw [Bool.and_comm]
theorem piece_size (s : ByteArray) (p : ByteArray) (h : p ∈ pcs s) : p.size ≤ s.size := by
  have key : ∀ l : List UInt8, ∀ q ∈ cut l, q.length ≤ l.length := by
    intro l
    induction l with
    | nil => intro q hq; simp [cut] at hq; subst hq; simp
    | cons c r ih =>
      intro q hq
      unfold cut at hq
      split at hq
      · rcases List.mem_cons.1 hq with rfl | hq
        · simp
        · have := ih q hq; simp; omega
      · cases hr : cut r with
        | nil => rw [hr] at hq; simp at hq; subst hq; simp
        | cons p ps =>
          rw [hr] at hq ih
          rcases List.mem_cons.1 hq with rfl | hq
          · have := ih p List.mem_cons_self; simp; exact this
          · have := ih q (List.mem_cons_of_mem _ hq); simp; omega
  unfold pcs at h
  obtain ⟨q, hq, rfl⟩ := List.mem_map.1 h
  have := key _ q hq
  rw [size_toB]
  rw [size_data] at this
  exact this
theorem valid_is (ps : List ByteArray) (hsz : ∀ p ∈ ps, p.size ≤ 1024) (hl : ps.length ≤ 1025) : ∀ (n k i : Nat), ps.length - i = n → i ≤ ps.length → n + 1026 ≤ k →
    hamperref17_Valid.l0 k ps (i : Int) = some ((ps.drop i).all nameB && decide (ps.length ≤ 64))
  | 0, k + 1, i, hn, hi, hk => by
    unfold hamperref17_Valid.l0
    rw [if_neg (by omega), List.drop_of_length_le (by omega)]
    simp
    omega
  | n + 1, k + 1, i, hn, hi, hk => by
    have hlt : i < ps.length := by omega
    unfold hamperref17_Valid.l0
    have hr : rdOf ByteArray.empty ps (i : Int) = ps[i] := by unfold rdOf; rw [Int.toNat_natCast, List.getD_eq_getElem?_getD, List.getElem?_eq_getElem hlt]; rfl
    rw [if_pos (by omega), if_pos (by omega), hr, refName _ (hsz _ (List.getElem_mem hlt)) k (by omega), w64 (by omega) (by omega), List.drop_eq_getElem_cons hlt, List.all_cons]
    show (if nameB ps[i] = true then hamperref17_Valid.l0 k ps ((i : Int) + 1) else some false) = _
    cases nameB ps[i]
    · rfl
    · have ih := valid_is ps hsz hl n k (i + 1) (by omega) (by omega) (by omega)
      rw [show (((i + 1 : Nat)) : Int) = (i : Int) + 1 by omega] at ih
      rw [if_pos rfl, ih]
      rfl
theorem pcs_count (s : ByteArray) : (pcs s).length ≤ s.size + 1 := by
  have key : ∀ l : List UInt8, (cut l).length ≤ l.length + 1 := by
    intro l
    induction l with
    | nil => simp [cut]
    | cons c r ih =>
      unfold cut
      split
      · simp; omega
      · cases hr : cut r with
        | nil => simp
        | cons p ps => rw [hr] at ih; simp at ih ⊢; omega
  unfold pcs
  rw [List.length_map]
  have := key s.data.toList
  rwa [size_data] at this
theorem refValid (s : ByteArray) (k : Nat) (hk : 2052 ≤ k) : hamperref17_Valid.f k s = some (validB s) := by
  unfold hamperref17_Valid.f
  by_cases h : s.size ≤ 1024
  · rw [if_neg (by omega), refPieces s h k (by omega)]
    have hc := pcs_count s
    have h2 := valid_is (pcs s) (fun p hp => Nat.le_trans (piece_size s p hp) h) (by omega) (pcs s).length k 0 (by omega) (by omega) (by omega)
    rw [show ((0 : Nat) : Int) = 0 from rfl, List.drop_zero] at h2
    show hamperref17_Valid.l0 k (pcs s) 0 = _
    rw [h2]
    unfold validB
    rw [decide_eq_true h, Bool.and_true]
  · rw [if_pos (by omega)]
    unfold validB
    rw [decide_eq_false h, Bool.and_false]
theorem refNames (s : ByteArray) (k : Nat) (hk : 2052 ≤ k) : hamperref17_Names.f k s = some (if validB s = true then pcs s else []) := by
  unfold hamperref17_Names.f
  rw [refValid s k hk]
  show (if validB s = true then _ else _) = _
  cases hv : validB s
  · rfl
  · have hs : s.size ≤ 1024 := by unfold validB at hv; simp at hv; exact hv.2
    rw [if_pos rfl, if_pos rfl, refPieces s hs k (by omega)]
    rfl
theorem cut_app (b : List UInt8) : ∀ a : List UInt8, cut (a ++ 47 :: b) = cut a ++ cut b
  | [] => by simp [cut]
  | c :: a => by
    have ih := cut_app b a
    rw [List.cons_append, show cut (c :: (a ++ 47 :: b)) = if c = 47 then [] :: cut (a ++ 47 :: b) else match cut (a ++ 47 :: b) with | [] => [[c]] | p :: ps => (c :: p) :: ps from rfl, show cut (c :: a) = if c = 47 then [] :: cut a else match cut a with | [] => [[c]] | p :: ps => (c :: p) :: ps from rfl, ih]
    by_cases h : c = 47
    · rw [if_pos h, if_pos h]; rfl
    · rw [if_neg h, if_neg h]
      cases hc : cut a with
      | nil => exact absurd hc (cut_ne a)
      | cons p ps => rfl
theorem byte_at (s : ByteArray) (j : Nat) (h : j < s.size) : ∃ c : UInt8, s.data.toList[j]? = some c ∧ ((s.data[j]!).toNat : Int) = (c.toNat : Int) := by
  have h' : j < s.data.size := h
  refine ⟨s.data[j], ?_, ?_⟩
  · rw [Array.getElem?_toList, Array.getElem?_eq_getElem h']
  · rw [getElem!_pos s.data j h']
theorem not_at (s : ByteArray) (j : Nat) (h : j < s.size) (hne : ((s.data[j]!).toNat : Int) ≠ 47) : s.data.toList[j]? ≠ some 47 := by
  obtain ⟨c, h1, h2⟩ := byte_at s j h
  rw [h1]
  intro e
  have e := Option.some.inj e
  subst e
  exact hne h2
set_option maxRecDepth 4000 in
theorem refParent (s : ByteArray) (k : Nat) (hk : 2052 ≤ k) : hamperref17_Parent.f k s = some (parB s) := by
  unfold hamperref17_Parent.f
  rw [refNames s k hk, Option.bind_some]
  cases hv : validB s
  · rw [show (if false = true then pcs s else []) = ([] : List ByteArray) from rfl, if_pos (by decide)]
    unfold parB
    rw [hv]
    simp
  · have hs : s.size ≤ 1024 := by unfold validB at hv; simp at hv; exact hv.2
    rw [if_pos rfl]
    rcases Lib.lastIdx_spec s 47 s.size with ⟨h, h2⟩ | ⟨i, h1, h2, h3, h4⟩
    · have hp : pcs s = [s] := by
        unfold pcs
        have := cut_none s 0 (fun j _ hj => not_at s j hj (h2 j hj))
        rw [List.drop_zero] at this
        rw [this]
        simp [toB_data]
      rw [hp, if_pos (by simp)]
      unfold parB
      rw [show Lib.lastIndexByte s 47 = -1 from h]
      simp
    · obtain ⟨c, g1, g2⟩ := byte_at s i h1
      have hc : c = 47 := UInt8.toNat_inj.1 (by rw [g2] at h3; have : ((47 : UInt8).toNat : Int) = 47 := rfl; omega)
      subst hc
      have hl : i < s.data.toList.length := by rw [size_data]; exact h1
      have hD : s.data.toList = s.data.toList.take i ++ 47 :: s.data.toList.drop (i + 1) := by
        conv => lhs; rw [← List.take_append_drop i s.data.toList]
        congr 1
        rw [List.drop_eq_getElem_cons hl]
        congr 1
        rw [List.getElem?_eq_getElem hl] at g1
        exact Option.some.inj g1
      have hlast := cut_none s (i + 1) (fun j hj1 hj2 => not_at s j hj2 (h4 j (by omega) hj2))
      have hP : pcs s = (cut (s.data.toList.take i)).map toB ++ [toB (s.data.toList.drop (i + 1))] := by
        unfold pcs
        conv => lhs; rw [hD]
        rw [cut_app, hlast, List.map_append]
        rfl
      have hne := List.length_pos_iff.2 (cut_ne (s.data.toList.take i))
      obtain ⟨m, hm⟩ : ∃ m, (cut (s.data.toList.take i)).length = m + 1 := ⟨(cut (s.data.toList.take i)).length - 1, by omega⟩
      have hlen : (pcs s).length = m + 2 := by rw [hP, List.length_append, List.length_map, hm]; rfl
      have hcnt := pcs_count s
      rw [hlen] at hcnt
      have hr : rdOf ByteArray.empty (pcs s) ((m : Int) + 1) = toB (s.data.toList.drop (i + 1)) := by
        unfold rdOf
        rw [show ((m : Int) + 1).toNat = m + 1 by omega, hP, List.getD_eq_getElem?_getD, List.getElem?_append_right (by rw [List.length_map, hm]; omega), List.length_map, hm, Nat.sub_self]
        rfl
      have hsz : (toB (s.data.toList.drop (i + 1))).size = s.size - (i + 1) := by rw [size_toB, List.length_drop, size_data]
      rw [hlen]
      have e1 : wrap64 (((m + 2 : Nat) : Int) - 1) = (m : Int) + 1 := by rw [w64 (by omega) (by omega)]; omega
      rw [e1, hr, hsz]
      have e2 : wrap64 ((s.size : Int) - ((s.size - (i + 1) : Nat) : Int)) = (i : Int) + 1 := by rw [w64 (by omega) (by omega)]; omega
      rw [e2]
      have e3 : wrap64 ((i : Int) + 1 - 1) = (i : Int) := by rw [w64 (by omega) (by omega)]; omega
      rw [e3, if_neg (by omega), if_pos (by omega), if_pos (by omega), if_pos (by omega), if_pos (by omega)]
      unfold parB
      rw [show Lib.lastIndexByte s 47 = (i : Int) from h2, if_pos ⟨by omega, hv⟩]
end Go.Proofs.YtoiffnoiliknnaaDoor.Rout
set_option linter.unusedVariables false
set_option linter.unusedSimpArgs false
namespace Go.Proofs.YtoiffnoiliknnaaDoor.Rout
open Go.RowKit
theorem less_irr : ∀ x : List UInt8, Op.bytesLess x x = false
  | [] => rfl
  | a :: x => by
    show (decide (a < a) || (a == a && Op.bytesLess x x)) = false
    rw [less_irr x]; simp
theorem less_trans : ∀ x y z : List UInt8, Op.bytesLess x y = true → Op.bytesLess y z = true → Op.bytesLess x z = true
  | [], [], _, h, _ => by cases h
  | _ :: _, [], _, h, _ => by cases h
  | _, _ :: _, [], _, h => by cases h
  | [], _ :: _, _ :: _, _, _ => rfl
  | a :: x, b :: y, c :: z, h1, h2 => by
    have h1 : (decide (a < b) || (a == b && Op.bytesLess x y)) = true := h1
    have h2 : (decide (b < c) || (b == c && Op.bytesLess y z)) = true := h2
    show (decide (a < c) || (a == c && Op.bytesLess x z)) = true
    simp only [Bool.or_eq_true, decide_eq_true_eq, Bool.and_eq_true, beq_iff_eq] at h1 h2 ⊢
    rcases h1 with k1 | ⟨rfl, k1⟩
    · rcases h2 with k2 | ⟨rfl, k2⟩
      · exact .inl (UInt8.lt_trans k1 k2)
      · exact .inl k1
    · rcases h2 with k2 | ⟨rfl, k2⟩
      · exact .inl k2
      · exact .inr ⟨rfl, less_trans x y z k1 k2⟩
theorem less_tri : ∀ x y : List UInt8, Op.bytesLess x y = true ∨ x = y ∨ Op.bytesLess y x = true
  | [], [] => .inr (.inl rfl)
  | [], _ :: _ => .inl rfl
  | _ :: _, [] => .inr (.inr rfl)
  | a :: x, b :: y => by
    show (decide (a < b) || (a == b && Op.bytesLess x y)) = true ∨ _ ∨ (decide (b < a) || (b == a && Op.bytesLess y x)) = true
    simp only [Bool.or_eq_true, decide_eq_true_eq, Bool.and_eq_true, beq_iff_eq]
    rcases Nat.lt_trichotomy a.toNat b.toNat with h | h | h
    · exact .inl (.inl (UInt8.lt_iff_toNat_lt.2 h))
    · obtain rfl := UInt8.toNat_inj.1 h
      rcases less_tri x y with h | h | h
      · exact .inl (.inr ⟨rfl, h⟩)
      · exact .inr (.inl (by rw [h]))
      · exact .inr (.inr (.inr ⟨rfl, h⟩))
    · exact .inr (.inr (.inl (UInt8.lt_iff_toNat_lt.2 h)))
theorem less_asym (x y : List UInt8) (h : Op.bytesLess x y = true) : Op.bytesLess y x = false := by
  cases h2 : Op.bytesLess y x
  · rfl
  · have := less_trans x y x h h2
    rw [less_irr] at this
    cases this
/-- The three answers. -/
theorem cmpB_cases (a b : ByteArray) : (cmpB a b = -1 ∧ Op.bytesLess a.toList b.toList = true) ∨ (cmpB a b = 0 ∧ a.toList = b.toList) ∨ (cmpB a b = 1 ∧ Op.bytesLess b.toList a.toList = true) := by
  unfold cmpB
  rcases less_tri a.toList b.toList with h | h | h
  · exact .inl ⟨by rw [if_pos h], h⟩
  · exact .inr (.inl ⟨by rw [h, less_irr]; simp, h⟩)
  · refine .inr (.inr ⟨?_, h⟩)
    rw [less_asym _ _ h, if_neg (by simp), if_neg]
    intro e
    have e := eq_of_beq e
    rw [e, less_irr] at h
    cases h
theorem cmpB_self (a : ByteArray) : cmpB a a = 0 := by
  rcases cmpB_cases a a with ⟨_, h⟩ | ⟨h, _⟩ | ⟨_, h⟩
  · rw [less_irr] at h; cases h
  · exact h
  · rw [less_irr] at h; cases h
theorem cmpB_neg {a b : ByteArray} (h : Op.bytesLess a.toList b.toList = true) : cmpB a b = -1 := by unfold cmpB; rw [if_pos h]
theorem cmpB_pos {a b : ByteArray} (h : Op.bytesLess b.toList a.toList = true) : cmpB a b = 1 := by
  rcases cmpB_cases a b with ⟨_, h2⟩ | ⟨_, h2⟩ | ⟨h2, _⟩
  · rw [less_asym _ _ h2] at h; cases h
  · rw [h2, less_irr] at h; cases h
  · exact h2
theorem cmpB_congr {a b : ByteArray} (h : a.toList = b.toList) (c : ByteArray) : cmpB a c = cmpB b c ∧ cmpB c a = cmpB c b := by
  unfold cmpB
  rw [h]
  exact ⟨rfl, rfl⟩
theorem cmpL_self : ∀ a, cmpL a a = 0
  | [] => rfl
  | x :: a => by
    show (if cmpB x x = 0 then cmpL a a else cmpB x x) = 0
    rw [cmpB_self, if_pos rfl, cmpL_self a]
theorem cmpL_trans : ∀ a b c, cmpL a b < 0 → cmpL b c < 0 → cmpL a c < 0
  | [], [], _, h, _ => by simp [cmpL] at h
  | _ :: _, [], _, h, _ => by simp [cmpL] at h
  | _, _ :: _, [], _, h => by simp [cmpL] at h
  | [], _ :: _, _ :: _, _, _ => by simp [cmpL]
  | x :: a, y :: b, z :: c, h1, h2 => by
    have h1 : (if cmpB x y = 0 then cmpL a b else cmpB x y) < 0 := h1
    have h2 : (if cmpB y z = 0 then cmpL b c else cmpB y z) < 0 := h2
    show (if cmpB x z = 0 then cmpL a c else cmpB x z) < 0
    rcases cmpB_cases x y with ⟨e1, q1⟩ | ⟨e1, q1⟩ | ⟨e1, q1⟩
    · rcases cmpB_cases y z with ⟨e2, q2⟩ | ⟨e2, q2⟩ | ⟨e2, q2⟩
      · rw [cmpB_neg (less_trans _ _ _ q1 q2)]; simp
      · rw [← (cmpB_congr q2 x).2, e1]; simp
      · rw [e2, if_neg (by decide)] at h2; omega
    · rw [(cmpB_congr q1 z).1]
      rw [e1, if_pos rfl] at h1
      rcases cmpB_cases y z with ⟨e2, q2⟩ | ⟨e2, q2⟩ | ⟨e2, q2⟩
      · rw [e2]; simp
      · rw [e2, if_pos rfl] at h2 ⊢; exact cmpL_trans a b c h1 h2
      · rw [e2, if_neg (by decide)] at h2; omega
    · rw [e1, if_neg (by decide)] at h1; omega
theorem cmpL_ntrans : ∀ a b c, 0 ≤ cmpL a b → 0 ≤ cmpL b c → 0 ≤ cmpL a c
  | [], [], [], _, _ => by simp [cmpL]
  | [], [], _ :: _, _, h => by simp [cmpL] at h
  | [], _ :: _, _, h, _ => by simp [cmpL] at h
  | _ :: _, _, [], _, _ => by simp [cmpL]
  | _ :: _, [], _ :: _, _, h => by simp [cmpL] at h
  | x :: a, y :: b, z :: c, h1, h2 => by
    have h1 : 0 ≤ (if cmpB x y = 0 then cmpL a b else cmpB x y) := h1
    have h2 : 0 ≤ (if cmpB y z = 0 then cmpL b c else cmpB y z) := h2
    show 0 ≤ (if cmpB x z = 0 then cmpL a c else cmpB x z)
    rcases cmpB_cases x y with ⟨e1, q1⟩ | ⟨e1, q1⟩ | ⟨e1, q1⟩
    · rw [e1, if_neg (by decide)] at h1; omega
    · rw [(cmpB_congr q1 z).1]
      rw [e1, if_pos rfl] at h1
      rcases cmpB_cases y z with ⟨e2, q2⟩ | ⟨e2, q2⟩ | ⟨e2, q2⟩
      · rw [e2, if_neg (by decide)] at h2; omega
      · rw [e2, if_pos rfl] at h2 ⊢; exact cmpL_ntrans a b c h1 h2
      · rw [e2]; simp
    · rcases cmpB_cases y z with ⟨e2, q2⟩ | ⟨e2, q2⟩ | ⟨e2, q2⟩
      · rw [e2, if_neg (by decide)] at h2; omega
      · rw [← (cmpB_congr q2 x).2, e1]; simp
      · rw [cmpB_pos (less_trans _ _ _ q2 q1)]; simp
theorem compB_self (a : ByteArray) : compB a a = 0 := cmpL_self _
theorem compB_trans {a b c : ByteArray} (h : compB a b < 0) (k : compB b c < 0) : compB a c < 0 := cmpL_trans _ _ _ h k
theorem compB_ntrans {a b c : ByteArray} (h : 0 ≤ compB a b) (k : 0 ≤ compB b c) : 0 ≤ compB a c := cmpL_ntrans _ _ _ h k
/-- Two rows in strict order of the same things are one. -/
theorem sorted_one {α : Type} {R : α → α → Prop} (irr : ∀ x, ¬ R x x) (tr : ∀ x y z, R x y → R y z → R x z) : ∀ {l m : List α}, l.Perm m → l.Pairwise R → m.Pairwise R → l = m
  | [], m, h, _, _ => by rw [List.nil_perm.1 h]
  | x :: l, [], h, _, _ => by have := h.length_eq; simp at this
  | x :: l, y :: m, h, hl, hm => by
    obtain ⟨hx, hl'⟩ := List.pairwise_cons.1 hl
    obtain ⟨hy, hm'⟩ := List.pairwise_cons.1 hm
    have hxy : x = y := by
      have h1 : x ∈ y :: m := h.subset List.mem_cons_self
      have h2 : y ∈ x :: l := h.symm.subset List.mem_cons_self
      rcases List.mem_cons.1 h1 with e | h1
      · exact e
      · rcases List.mem_cons.1 h2 with e | h2
        · exact e.symm
        · exact absurd (tr _ _ _ (hx _ h2) (hy _ h1)) (irr _)
    subst hxy
    rw [sorted_one irr tr (List.Perm.cons_inv h) hl' hm']
end Go.Proofs.YtoiffnoiliknnaaDoor.Rout
set_option linter.unusedVariables false
set_option linter.unusedSimpArgs false
namespace Go.Proofs.YtoiffnoiliknnaaDoor.Rout
open Go.RowKit Go.BigFrame Go.Proofs.YtoiffnoiliknnaaDoor.Reg Go.Proofs.YtoiffnoiliknnaaDoorW.PrintWords Go.Proofs.YtoiffnoiliknnaaDoor.PParent
theorem refValid_calls (s : ByteArray) (w : World) : Calls Tryd.prog 32 #[.string s] w fun e w' => e = .returned (.bool (validB s)) ∧ Below w.heap.size w w' :=
  hamperref17_Valid.calls 2052 s _ w (refValid s 2052 (Nat.le_refl _))
theorem refParent_calls (s : ByteArray) (w : World) : Calls Tryd.prog 35 #[.string s] w fun e w' => e = .returned (.tuple #[.string (parB s).1, .bool (parB s).2]) ∧ Below w.heap.size w w' :=
  hamperref17_Parent.calls 2052 s _ _ w (refParent s 2052 (Nat.le_refl _))
theorem refPieces_calls (s : ByteArray) (hs : s.size ≤ 1024) (w : World) : Calls Tryd.prog 45 #[.string s] w fun e w' => ∃ A c, e = .returned (.slice A (pcs s).length c) ∧ Kd.string.C w' A (pcs s).length (pcs s) ∧ Below w.heap.size w w' := by
  refine (hamperref17_Pieces.calls 2052 s _ w (refPieces s hs 2052 (by omega))).mono ?_
  rintro e w' ⟨v, rfl, hR, hb⟩
  obtain ⟨A, c, rfl, _, hC⟩ := Kd.R_reads hR
  exact ⟨A, c, rfl, hC, hb⟩
set_option maxRecDepth 100000 in
set_option maxHeartbeats 4000000 in
theorem refCompare_calls (a b : ByteArray) (w : World) (ha : a.size ≤ 1024) (hb : b.size ≤ 1024) :
    Calls Tryd.prog 34 #[.string a, .string b] w fun e w' => e = .returned (.int .i64 (compB a b)) ∧ Below w.heap.size w w' := by
  have tok : True := trivial
  have la := pcs_count a
  have lb := pcs_count b
  have C1 := Lib.hid (fun W => refPieces_calls a ha W)
  have C2 := Lib.hid (fun W => refPieces_calls b hb W)
  have HE := Lib.hid (show compB a b = cmpL (pcs a) (pcs b) from rfl)
  generalize hX : pcs a = X at *
  generalize hY : pcs b = Y at *
  clear hX hY
  go_enter Tryd.func34, Tryd.ntmps34
  go_wp2_with (first
    | (go_at_call 45; have _t := tok; with_reducible refine (C1.out _).mono ?_; rintro e w1 ⟨A1, c1, rfl, h1, hb1⟩; have H1 := Lib.hid h1; have B1 := Lib.hid hb1; clear h1 hb1 tok)
    | (go_at_call 45; with_reducible refine (C2.out _).mono ?_; rintro e w2 ⟨A2, c2, rfl, h2, hb2⟩; have HY := Lib.hid h2; have HX := Lib.hid (Kd.C_below H1.out hb2); have B2 := Lib.hid (bgo B1.out hb2); clear h2 hb2))
  go_loopw [7] (fun i wr => ∃ k : Nat, i = .int .i64 k ∧ k ≤ X.length ∧ k ≤ Y.length ∧ Hid (cmpL (X.drop k) (Y.drop k) = compB a b) ∧ Below w2.heap.size w2 wr) (fun i _ => (X.length - intOf i).toNat)
  case atStart => exact ⟨0, rfl, by omega, by omega, Lib.hid HE.out.symm, Below.refl _ _⟩
  case round =>
    obtain ⟨k, rfl, hk, hk2, he, hbr⟩ := hrel
    by_cases h1 : k < X.length
    · by_cases h2 : k < Y.length
      · obtain ⟨ad1, hA, q1⟩ := Kd.at_string (Kd.C_below HX.out hbr) (k : Int) (by omega) (by omega)
        subst hA
        obtain ⟨ad2, hB, q2⟩ := Kd.at_string (Kd.C_below HY.out hbr) (k : Int) (by omega) (by omega)
        subst hB
        rw [Int.toNat_natCast] at q1 q2
        have hin := Lib.hid (cmpL_in X Y k h1 h2)
        generalize rdOf ByteArray.empty X (k : Int) = x at *
        generalize rdOf ByteArray.empty Y (k : Int) = y at *
        have k0 : (0 : Int) ≤ (k : Int) := by omega
        have k1 : (k : Int) < X.length := by omega
        have k2 : (k : Int) < Y.length := by omega
        rcases cmpB_cases x y with ⟨e1, e2⟩ | ⟨e1, e2⟩ | ⟨e1, e2⟩
        · have HN := Lib.hid (show (-1 : Int) = compB a b by rw [← he.out, hin.out, e1]; rfl)
          clear he hin e1
          go_wp2
          refine wp_world ?_
          intro W1 hW1
          obtain rfl := hW1
          refine wp_region_above (by kernel_rfl) (by kernel_rfl) ?_
          intro ne
          have n1 := fun n : Abv W1 => n.cell q1
          have n2 := fun n : Abv W1 => n.cell q2
          repeat (go_big_quiet_step (fail))
          refine quiet_above ?_
          intro w6 hb6
          clear n1 n2
          go_wp2
          go_ret
          rw [← HN.out]
          exact ⟨rfl, bgo B2.out (bgo hbr hb6)⟩
        · have hl : Op.bytesLess x.toList y.toList = false := by rw [e2]; exact less_irr _
          have heq : (x.toList == y.toList) = true := by rw [e2]; simp
          have HN := Lib.hid (show cmpL (X.drop (k + 1)) (Y.drop (k + 1)) = compB a b by rw [← he.out, hin.out, e1, if_pos rfl])
          clear he hin e1 e2
          go_wp2
          refine wp_world ?_
          intro W1 hWW1
          obtain rfl := hWW1
          refine wp_region_above (by kernel_rfl) (by kernel_rfl) ?_
          intro neW1
          have n1 := fun n : Abv W1 => n.cell q1
          have n2 := fun n : Abv W1 => n.cell q2
          repeat (go_big_quiet_step (fail))
          refine quiet_above ?_
          intro w6 hb6
          clear n1 n2
          have q1' := bkeep hb6 q1
          have q2' := bkeep hb6 q2
          clear q1 q2
          have q1 := q1'
          have q2 := q2'
          clear q1' q2'
          go_wp2
          refine wp_world ?_
          intro W2 hWW2
          obtain rfl := hWW2
          refine wp_region_above (by kernel_rfl) (by kernel_rfl) ?_
          intro neW2
          have n1 := fun n : Abv W2 => n.cell q1
          have n2 := fun n : Abv W2 => n.cell q2
          repeat (go_big_quiet_step (fail))
          refine quiet_above ?_
          intro w7 hb7
          clear n1 n2
          have HB7 := Lib.hid (bgo hbr (bgo hb6 hb7))
          clear hbr hb6 hb7 q1 q2
          go_wp2
          go_roundw
          case rel => exact ⟨k + 1, by go_num, by omega, by omega, HN, HB7.out⟩
          case measure => simp [intOf]; omega
        · have hl : Op.bytesLess x.toList y.toList = false := less_asym _ _ e2
          have heq : (x.toList == y.toList) = false := by
            apply beq_eq_false_iff_ne.2
            intro e
            rw [e, less_irr] at e2
            cases e2
          have HN := Lib.hid (show (1 : Int) = compB a b by rw [← he.out, hin.out, e1]; rfl)
          clear he hin e1 e2
          go_wp2
          refine wp_world ?_
          intro W1 hWW1
          obtain rfl := hWW1
          refine wp_region_above (by kernel_rfl) (by kernel_rfl) ?_
          intro neW1
          have n1 := fun n : Abv W1 => n.cell q1
          have n2 := fun n : Abv W1 => n.cell q2
          repeat (go_big_quiet_step (fail))
          refine quiet_above ?_
          intro w6 hb6
          clear n1 n2
          have q1' := bkeep hb6 q1
          have q2' := bkeep hb6 q2
          clear q1 q2
          have q1 := q1'
          have q2 := q2'
          clear q1' q2'
          go_wp2
          refine wp_world ?_
          intro W2 hWW2
          obtain rfl := hWW2
          refine wp_region_above (by kernel_rfl) (by kernel_rfl) ?_
          intro neW2
          have n1 := fun n : Abv W2 => n.cell q1
          have n2 := fun n : Abv W2 => n.cell q2
          repeat (go_big_quiet_step (fail))
          refine quiet_above ?_
          intro w7 hb7
          clear n1 n2
          go_wp2
          go_ret
          rw [← HN.out]
          exact ⟨rfl, bgo B2.out (bgo hbr (bgo hb6 hb7))⟩
      · have HN := Lib.hid (show (1 : Int) = compB a b by rw [← he.out, cmpL_out X Y k h1 (by omega)])
        have hlen : Y.length < X.length := by omega
        clear he
        go_wp2
        go_ret
        rw [← HN.out]
        exact ⟨rfl, bgo B2.out hbr⟩
    · have HN := Lib.hid (show compB a b = if X.length < Y.length then -1 else 0 by rw [← he.out, cmpL_end X Y k (by omega) (by omega) (by omega)])
      clear he
      by_cases h3 : X.length < Y.length
      · rw [if_pos h3] at HN
        go_wp2
        go_ret
        rw [HN.out]
        exact ⟨rfl, bgo B2.out hbr⟩
      · rw [if_neg h3] at HN
        have hle : Y.length ≤ X.length := by omega
        have hge : X.length ≤ Y.length := by omega
        go_wp2
        go_ret
        rw [HN.out]
        exact ⟨rfl, bgo B2.out hbr⟩
end Go.Proofs.YtoiffnoiliknnaaDoor.Rout
set_option linter.unusedVariables false
set_option linter.unusedSimpArgs false
namespace Go.Proofs.YtoiffnoiliknnaaDoor.Tree
open Go.RowKit Go.Proofs.YtoiffnoiliknnaaDoor.Reg Go.Proofs.YtoiffnoiliknnaaDoor.Rout Go.Proofs.YtoiffnoiliknnaaDoor.Node Go.Proofs.YtoiffnoiliknnaaDoorW.PrintWords
def toF (x : Nd) : Pfind.S35 := ⟨x.f0, x.f1, x.f2, x.f3, x.f4⟩
theorem toF_C {w : World} {A : Option Addr} {l : List Nd} (h : kN.C w A l.length l) : Pfind.k35.C w A (l.map toF).length (l.map toF) := by
  obtain ⟨h1, h2, h3⟩ := h
  refine ⟨rfl, by rw [List.length_map]; exact h2, fun hp => ?_⟩
  obtain ⟨ad, hA, hc⟩ := h3 (by rw [List.length_map] at hp; exact hp)
  refine ⟨ad, hA, fun j p hj => ?_⟩
  rw [List.getElem?_map] at hj
  obtain ⟨x, hx, rfl⟩ := Option.map_eq_some_iff.1 hj
  obtain ⟨c, q1, q2, q3⟩ := hc j x hx
  exact ⟨c, q1, q2, q3⟩
/-- Where a path stands first, or -1. -/
def findN : List Nd → ByteArray → Int → Int
  | [], _, _ => -1
  | x :: r, p, i => if x.f1.toList = p.toList then i else findN r p (i + 1)
theorem find_is (l : List Nd) (p : ByteArray) (hl : l.length ≤ 140737488351232) : ∀ (n k i : Nat), l.length - i = n → i ≤ l.length → n + 1 ≤ k → Pfind.hamperref18_find.l0 k (l.map toF) p (i : Int) = some (findN (l.drop i) p (i : Int))
  | 0, k + 1, i, hn, hi, hk => by
    unfold Pfind.hamperref18_find.l0
    rw [if_neg (by rw [List.length_map]; omega), List.drop_of_length_le (by omega)]
    rfl
  | n + 1, k + 1, i, hn, hi, hk => by
    have hlt : i < l.length := by omega
    unfold Pfind.hamperref18_find.l0
    have hr : (Pfind.rd_T35 (l.map toF) (i : Int)).f1 = (l[i]).f1 := by
      unfold Pfind.rd_T35
      rw [Int.toNat_natCast, List.getD_eq_getElem?_getD, List.getElem?_map, List.getElem?_eq_getElem hlt]
      rfl
    rw [if_pos (by rw [List.length_map]; omega), if_pos (by omega), hr, List.drop_eq_getElem_cons hlt, w64 (by omega) (by omega)]
    have ih := find_is l p hl n k (i + 1) (by omega) (by omega) (by omega)
    rw [show (((i + 1 : Nat)) : Int) = (i : Int) + 1 by omega] at ih
    rw [ih]
    by_cases hc : (l[i]).f1.toList = p.toList
    · rw [if_pos hc]
      unfold findN
      rw [if_pos hc]
    · rw [if_neg hc]
      conv => rhs; unfold findN
      rw [if_neg hc]
theorem find_calls (A : Option Addr) (c : Nat) (l : List Nd) (p : ByteArray) (w : World) (hC : kN.C w A l.length l) (hc : l.length ≤ c) (hl : l.length ≤ 140737488351232) :
    Calls Tryd.prog 36 #[.slice A l.length c, .string p] w fun e w' => e = .returned (.int .i64 (findN l p 0)) ∧ Below w.heap.size w w' := by
  have h := Pfind.hamperref18_find.calls (l.length + 1) A c (l.map toF) p (findN l p 0) w (toF_C hC) (by rw [List.length_map]; exact hc) (by
    unfold Pfind.hamperref18_find.f
    have := find_is l p hl l.length (l.length + 1) 0 (by omega) (by omega) (by omega)
    rw [List.drop_zero] at this
    exact this)
  rw [List.length_map] at h
  refine h.mono ?_
  rintro e w' ⟨he, hd⟩
  exact ⟨he, by obtain ⟨n, rfl⟩ := hd; exact bdrewN (Below.refl _ _) n⟩
theorem may_zero (x : Nd) (hl : x.f2.length ≤ 140737488351232) : ∀ (n k i : Nat), x.f2.length - i = n → i ≤ x.f2.length → n + 1 ≤ k → PMay.hamperref18_May.l0 k (i : Int) x.f0 x.f1 x.f2 x.f3 x.f4 = some (decide (1 ≤ x.f2.length ∧ x.f2.length ≤ 1024) && (x.f2.drop i).all (fun b => b != 0)) ∨ ((x.f2.drop i).all (fun b => b != 0) = false ∧ PMay.hamperref18_May.l0 k (i : Int) x.f0 x.f1 x.f2 x.f3 x.f4 = some false)
  | 0, k + 1, i, hn, hi, hk => by
    left
    unfold PMay.hamperref18_May.l0
    rw [if_neg (by omega), List.drop_of_length_le (by omega)]
    by_cases h1 : 1 ≤ x.f2.length
    · rw [if_pos (by omega)]
      by_cases h2 : x.f2.length ≤ 1024
      · rw [decide_eq_true (show (x.f2.length : Int) ≤ 1024 by omega), decide_eq_true ⟨h1, h2⟩]; rfl
      · rw [decide_eq_false (show ¬ (x.f2.length : Int) ≤ 1024 by omega), decide_eq_false (fun h => h2 h.2)]; rfl
    · rw [if_neg (by omega), decide_eq_false (fun h => h1 h.1)]; rfl
  | n + 1, k + 1, i, hn, hi, hk => by
    have hlt : i < x.f2.length := by omega
    unfold PMay.hamperref18_May.l0
    have hr : rd x.f2 (i : Int) = x.f2[i] := by unfold rd; rw [Int.toNat_natCast, List.getD_eq_getElem?_getD, List.getElem?_eq_getElem hlt]; rfl
    rw [if_pos (by omega), if_pos (by omega), hr, List.drop_eq_getElem_cons hlt, List.all_cons, w64 (by omega) (by omega)]
    by_cases hz : x.f2[i] = 0
    · right
      rw [if_pos hz, hz]
      exact ⟨rfl, rfl⟩
    · have hz2 : (x.f2[i] != 0) = true := by simpa using hz
      rw [if_neg hz, hz2, Bool.true_and]
      have ih := may_zero x hl n k (i + 1) (by omega) (by omega) (by omega)
      rw [show (((i + 1 : Nat)) : Int) = (i : Int) + 1 by omega] at ih
      exact ih
theorem may_j (x : Nd) (hl : x.f2.length ≤ 140737488351232) (k : Nat) (hk : x.f2.length + 2 ≤ k) : PMay.hamperref18_May.j0 k false x.f0 x.f1 x.f2 x.f3 x.f4 = some (kindB x) := by
  obtain ⟨k, rfl⟩ : ∃ q, k = q + 1 := ⟨k - 1, by omega⟩
  rw [PMay.hamperref18_May.j0, if_neg (by simp)]
  unfold kindB
  by_cases h1 : x.f0 = 1
  · rw [if_pos h1, if_pos h1]; rfl
  rw [if_neg h1, if_neg h1]
  by_cases h2 : x.f0 = 2
  · rw [if_pos h2, if_pos h2]
  rw [if_neg h2, if_neg h2]
  by_cases h3 : x.f0 = 3
  · rw [if_pos h3, if_pos h3]
    rcases may_zero x hl x.f2.length k 0 (by omega) (by omega) (by omega) with h | ⟨h, h'⟩
    · rw [show ((0 : Nat) : Int) = 0 from rfl, List.drop_zero] at h
      exact h
    · rw [show ((0 : Nat) : Int) = 0 from rfl] at h'
      rw [List.drop_zero] at h
      rw [h', h, Bool.and_false]
  · rw [if_neg h3, if_neg h3]
theorem may_t (x : Nd) (k : Nat) (hk : 1 ≤ k) : PMay.hamperref18_May.j0 k true x.f0 x.f1 x.f2 x.f3 x.f4 = some false := by
  obtain ⟨k, rfl⟩ : ∃ q, k = q + 1 := ⟨k - 1, by omega⟩
  rw [PMay.hamperref18_May.j0, if_pos rfl]
theorem refMay (x : Nd) (hl : x.f2.length ≤ 140737488351232) : PMay.hamperref18_May.f (x.f2.length + 2) x.f0 x.f1 x.f2 x.f3 x.f4 = some (mayB x) := by
  unfold PMay.hamperref18_May.f
  have ht := may_t x (x.f2.length + 2) (by omega)
  by_cases h : 0 ≤ x.f3 ∧ x.f3 ≤ 4095 ∧ -1099511627776 ≤ x.f4 ∧ x.f4 ≤ 1099511627776
  · obtain ⟨h1, h2, h3, h4⟩ := h
    rw [if_neg (by omega), if_neg (by omega), if_neg (by omega), decide_eq_false (by omega), may_j x hl _ (Nat.le_refl _)]
    unfold mayB
    rw [decide_eq_true ⟨h1, h2, h3, h4⟩, Bool.true_and]
  · rw [ht]
    have hm : mayB x = false := by unfold mayB; rw [decide_eq_false h, Bool.false_and]
    rw [hm]
    by_cases h1 : x.f3 < 0
    · rw [if_pos h1]
    rw [if_neg h1]
    by_cases h2 : x.f3 > 4095
    · rw [if_pos h2]
    rw [if_neg h2]
    by_cases h3 : x.f4 < -1099511627776
    · rw [if_pos h3]
    rw [if_neg h3, decide_eq_true (by omega), ht]
theorem refMay_calls (x : Nd) (A : Option Addr) (c : Nat) (w : World) (hC : (Kd.int .u8).C w A x.f2.length x.f2) (hc : x.f2.length ≤ c) (hl : x.f2.length ≤ 140737488351232) :
    Calls Tryd.prog 33 #[.agg #[.int .i64 x.f0, .string x.f1, .slice A x.f2.length c, .int .i64 x.f3, .int .i64 x.f4]] w fun e w' => e = .returned (.bool (mayB x)) ∧ Below w.heap.size w w' :=
  PMay.hamperref18_May.calls (x.f2.length + 2) x.f0 x.f1 A c x.f2 x.f3 x.f4 _ w hC hc (refMay x hl)
end Go.Proofs.YtoiffnoiliknnaaDoor.Tree
set_option linter.unusedVariables false
set_option linter.unusedSimpArgs false
namespace Go.Proofs.YtoiffnoiliknnaaDoor.Tree
open Go.RowKit Go.Maps Go.Proofs.YtoiffnoiliknnaaDoor.Rout Go.Proofs.YtoiffnoiliknnaaDoor.Node
/-- What the map of paths reads as. -/
def foldT (ps : List ByteArray) : DataW Unit := ps.foldl (fun D p => D.put (.string p.data.toList) (.lit (.bool true))) (.map [])
theorem foldT_snoc (ps : List ByteArray) (p : ByteArray) : foldT (ps ++ [p]) = (foldT ps).put (.string p.data.toList) (.lit (.bool true)) := by unfold foldT; rw [List.foldl_append]; rfl
theorem isMap_foldT (l : List ByteArray) : IsMap (foldT l) := by
  induction l using snoc_ind with
  | h0 => exact isMap_empty
  | h1 l x ih => rw [foldT_snoc]; exact ih.put _ _
/-- Is a path among them? -/
def has (l : List ByteArray) (p : ByteArray) : Bool := l.any (fun q => decide (q = p))
theorem has_snoc (l : List ByteArray) (x p : ByteArray) : has (l ++ [x]) p = (has l p || decide (x = p)) := by unfold has; rw [List.any_append]; simp
theorem has_iff (l : List ByteArray) (p : ByteArray) : has l p = true ↔ p ∈ l := by unfold has; simp
theorem foldT_at (l : List ByteArray) (p : ByteArray) : (foldT l).atKey (.string p.data.toList) (.lit (.bool false)) = .lit (.bool (has l p)) := by
  induction l using snoc_ind with
  | h0 => rfl
  | h1 l x ih =>
    rw [foldT_snoc]
    by_cases h : x = p
    · subst h
      rw [atKey_put_same (isMap_foldT l) (by trivial), has_snoc]
      simp
    · rw [atKey_put_other (fun e => h (ba_ext (by injection e with e; exact e.symm))), ih, has_snoc, decide_eq_false h, Bool.or_false]
theorem ownsT_look {w : World} {b n : Nat} {l : List ByteArray} (h : owns w b n (foldT l)) (p : ByteArray) (hp : p.size ≤ 140737488351232) : (Instr.lookup 52 (.map (some b)) (.string p) false).run Tryd.prog w = .ok (.bool (has l p)) w := by
  obtain ⟨v, ps, hrun, hv⟩ := h.lookup key9 Tryd.underlying52 (zero4 w) (plainElem_bool Tryd.underlying4 false) (Go.WideMaps.keyOf_string_mk (s := p) Tryd.underlying9 (by unfold maxLen; omega))
  rw [foldT_at] at hv
  have : v = .bool (has l p) := by
    simp only [plainElem, Tryd.underlying4] at hv
    cases v <;> simp at hv
    rw [hv.1]
  rw [hrun, this]
/-- The folders above p that lack. -/
def ups (ps : List ByteArray) (p : ByteArray) : Nat → List ByteArray
  | 0 => []
  | f + 1 => if (parB p).2 = true ∧ has ps (parB p).1 = false then (parB p).1 :: ups (ps ++ [(parB p).1]) (parB p).1 f else []
theorem parB_less (s : ByteArray) (h : (parB s).2 = true) : (parB s).1.size < s.size := by
  unfold parB at h ⊢
  by_cases hc : 0 ≤ Lib.lastIndexByte s 47 ∧ validB s = true
  · rw [if_pos hc]
    rcases last_cases s with hl | ⟨i, hi, hl⟩
    · rw [hl] at hc; omega
    · rw [hl]
      show (s.extract 0 ((i : Int)).toNat).size < s.size
      rw [ByteArray.size_extract, Int.toNat_natCast]
      omega
  · rw [if_neg hc] at h; cases h
def news (ps : List ByteArray) : List Nd → List ByteArray
  | [] => []
  | x :: r => ups ps x.f1 (x.f1.size + 1) ++ news (ps ++ ups ps x.f1 (x.f1.size + 1)) r
def folder (p : ByteArray) : Nd := ⟨1, p, [], 493, 0⟩
def paths (l : List Nd) : List ByteArray := l.map Nd.f1
def grown (l : List Nd) : List Nd := l ++ (news (paths l) l).map folder
/-- Why nothing grows: a path that is none, a node that may not be, a path that comes twice. -/
def bad (ps : List ByteArray) : List Nd → Int
  | [] => 0
  | x :: r => if validB x.f1 = false then 20 else if mayB x = false ∨ has ps x.f1 = true then 21 else bad (ps ++ [x.f1]) r
theorem bad_step (l : List Nd) (k : Nat) (h : k < l.length) : bad (paths (l.take k)) (l.drop k) = if validB (rdN l k).f1 = false then 20 else if mayB (rdN l k) = false ∨ has (paths (l.take k)) (rdN l k).f1 = true then 21 else bad (paths (l.take (k + 1))) (l.drop (k + 1)) := by
  have e1 : rdN l (k : Int) = l[k] := by unfold rdN; rw [Int.toNat_natCast, List.getD_eq_getElem?_getD, List.getElem?_eq_getElem h]; rfl
  have e2 : paths (l.take (k + 1)) = paths (l.take k) ++ [(rdN l k).f1] := by rw [take_rdN l k h]; unfold paths; rw [List.map_append]; rfl
  rw [e2, e1, List.drop_eq_getElem_cons h]
  rfl
theorem news_step (l : List Nd) (k : Nat) (ps : List ByteArray) (h : k < l.length) : news ps (l.drop k) = ups ps (rdN l k).f1 ((rdN l k).f1.size + 1) ++ news (ps ++ ups ps (rdN l k).f1 ((rdN l k).f1.size + 1)) (l.drop (k + 1)) := by
  have e1 : rdN l (k : Int) = l[k] := by unfold rdN; rw [Int.toNat_natCast, List.getD_eq_getElem?_getD, List.getElem?_eq_getElem h]; rfl
  rw [e1, List.drop_eq_getElem_cons h]
  rfl
/-- In order. -/
def Sorted (l : List Nd) : Prop := l.Pairwise (fun x y => 0 ≤ compB y.f1 x.f1)
theorem bad_all (l : List Nd) : ∀ ps, bad ps l = 0 → ∀ x ∈ l, validB x.f1 = true ∧ mayB x = true := by
  induction l with
  | nil => intro _ _ x hx; cases hx
  | cons y r ih =>
    intro ps h x hx
    unfold bad at h
    cases h1 : validB y.f1
    · rw [if_pos h1] at h; omega
    · rw [if_neg (by rw [h1]; simp)] at h
      by_cases h2 : mayB y = false ∨ has ps y.f1 = true
      · rw [if_pos h2] at h; omega
      · rw [if_neg h2] at h
        rcases List.mem_cons.1 hx with rfl | hx
        · exact ⟨h1, by cases hm : mayB x; exact absurd (.inl hm) h2; rfl⟩
        · exact ih _ h x hx
theorem ups_size (f : Nat) : ∀ (ps : List ByteArray) (p : ByteArray), p.size ≤ 1024 → ∀ q ∈ ups ps p f, q.size ≤ 1024 := by
  induction f with
  | zero => intro _ _ _ q hq; cases hq
  | succ f ih =>
    intro ps p hp q hq
    unfold ups at hq
    split at hq
    · have h1 := Nat.le_trans (parB_size p) hp
      rcases List.mem_cons.1 hq with rfl | hq
      · exact h1
      · exact ih _ _ h1 q hq
    · cases hq
theorem news_size (r : List Nd) : ∀ ps, (∀ x ∈ r, x.f1.size ≤ 1024) → ∀ q ∈ news ps r, q.size ≤ 1024 := by
  induction r with
  | nil => intro _ _ q hq; cases hq
  | cons x r ih =>
    intro ps h q hq
    unfold news at hq
    rcases List.mem_append.1 hq with hq | hq
    · exact ups_size _ _ _ (h x List.mem_cons_self) q hq
    · exact ih _ (fun y hy => h y (List.mem_cons_of_mem _ hy)) q hq
theorem ok_folder (p : ByteArray) (h : p.size ≤ 1024) : Ok (folder p) := ⟨fun b hb => absurd hb (by simp [folder]), by show p.size ≤ _; omega, by show 0 ≤ _; omega⟩
theorem grown_ok (l : List Nd) (hok : ∀ x ∈ l, Ok x) (hb : bad [] l = 0) : (∀ x ∈ grown l, Ok x) ∧ ∀ x ∈ grown l, x.f1.size ≤ 1024 := by
  have hv : ∀ x ∈ l, x.f1.size ≤ 1024 := fun x hx => valid_size _ (bad_all l [] hb x hx).1
  constructor
  · intro x hx
    rcases List.mem_append.1 hx with hx | hx
    · exact hok x hx
    · obtain ⟨q, hq, rfl⟩ := List.mem_map.1 hx
      exact ok_folder q (news_size l _ hv q hq)
  · intro x hx
    rcases List.mem_append.1 hx with hx | hx
    · exact hv x hx
    · obtain ⟨q, hq, rfl⟩ := List.mem_map.1 hx
      exact news_size l _ hv q hq
/-- What tree.Grow hands back: e0, and the row m. -/
def GrowSpec (l : List Nd) (e0 : Int) (m : List Nd) : Prop :=
  (bad [] l ≠ 0 ∧ e0 = bad [] l ∧ m = []) ∨ (bad [] l = 0 ∧ ∃ s : List Nd, (grown l).Perm s ∧ Sorted s ∧ e0 = (chk s).2 ∧ m = if (chk s).2 = 0 then s else [])
/-- How far an inner loop has still to go. -/
def toGo : Value → Value → Nat
  | .string p, .bool true => p.size + 1
  | _, _ => 0
end Go.Proofs.YtoiffnoiliknnaaDoor.Tree
set_option linter.unusedVariables false
set_option linter.unusedSimpArgs false
namespace Go.Proofs.YtoiffnoiliknnaaDoor.Tree
open Go.RowKit Go.Proofs.YtoiffnoiliknnaaDoor.Rout Go.Proofs.YtoiffnoiliknnaaDoor.Node
abbrev Before (x y : Nd) : Prop := compB x.f1 y.f1 < 0
theorem before_irr (x : Nd) : ¬ Before x x := by unfold Before; rw [compB_self]; decide
theorem before_trans (x y z : Nd) (h : Before x y) (k : Before y z) : Before x z := compB_trans h k
theorem pw_any {α : Type} {R : α → α → Prop} : ∀ {l : List α}, l.Pairwise R → ∀ x ∈ l, ∀ y ∈ l, x ≠ y → R x y ∨ R y x
  | [], _, x, hx, _, _, _ => absurd hx (by simp)
  | z :: l, h, x, hx, y, hy, hne => by
    obtain ⟨h1, h2⟩ := List.pairwise_cons.1 h
    rcases List.mem_cons.1 hx with rfl | kx
    · rcases List.mem_cons.1 hy with rfl | ky
      · exact absurd rfl hne
      · exact .inl (h1 _ ky)
    · rcases List.mem_cons.1 hy with rfl | ky
      · exact .inr (h1 _ kx)
      · exact pw_any h2 x kx y ky hne
theorem pw_nodup {l : List Nd} (h : l.Pairwise Before) : l.Nodup := h.imp (fun {a b} hab e => by subst e; exact before_irr _ hab)
/-- The one order of distinct paths. -/
theorem sorted_is (t s : List Nd) (ht : t.Pairwise Before) (hp : t.Perm s) (hs : Sorted s) : s = t := by
  refine (sorted_one before_irr before_trans hp ht ?_).symm
  have hnd : s.Nodup := hp.nodup_iff.1 (pw_nodup ht)
  have h1 : s.Pairwise (fun x y => 0 ≤ compB y.f1 x.f1 ∧ x ≠ y) := List.Pairwise.and hs hnd
  refine h1.imp_of_mem (fun {a b} ha hb hab => ?_)
  rcases pw_any ht a (hp.symm.subset ha) b (hp.symm.subset hb) hab.2 with h | h
  · exact h
  · have h : compB b.f1 a.f1 < 0 := h
    omega
theorem chain_pw (R : Nd → Nd → Prop) (tr : ∀ x y z, R x y → R y z → R x z) (l : List Nd) (h : ∀ k, 0 < k → k < l.length → R (rdN l ((k : Int) - 1)) (rdN l k)) : l.Pairwise R := by
  rw [List.pairwise_iff_getElem]
  have e : ∀ k (hk : k < l.length), rdN l (k : Int) = l[k] := fun k hk => by unfold rdN; rw [Int.toNat_natCast, List.getD_eq_getElem?_getD, List.getElem?_eq_getElem hk]; rfl
  intro i j hi hj hij
  obtain ⟨d, rfl⟩ : ∃ d, j = i + 1 + d := ⟨j - (i + 1), by omega⟩
  clear hij
  induction d with
  | zero =>
    have := h (i + 1) (by omega) hj
    rw [show (((i + 1 : Nat) : Int) - 1) = (i : Int) by omega, e i hi, e (i + 1) hj] at this
    exact this
  | succ d ih =>
    have h1 := ih (by omega)
    have h2 := h (i + 1 + d + 1) (by omega) hj
    rw [show (((i + 1 + d + 1 : Nat) : Int) - 1) = ((i + 1 + d : Nat) : Int) by omega, e (i + 1 + d) (by omega), e (i + 1 + d + 1) hj] at h2
    exact tr _ _ _ h1 h2
theorem err_zero (l : List Nd) (k : Nat) (h : errAt l k = 0) : validB (rdN l k).f1 = true ∧ mayB (rdN l k) = true ∧ k < 65536 ∧ (0 < k → compB (rdN l ((k : Int) - 1)).f1 (rdN l k).f1 < 0) ∧ ((parB (rdN l k).f1).2 = true → isDir (l.take k) (parB (rdN l k).f1).1 = true) := by
  obtain ⟨h1, h2⟩ := errAt_may l k h
  unfold errAt at h
  rw [if_neg (by rw [h2]; simp)] at h
  by_cases h3 : mayB (rdN l k) = false ∨ 65536 ≤ k
  · rw [if_pos h3] at h; omega
  rw [if_neg h3] at h
  by_cases h4 : 0 < k ∧ 0 ≤ compB (rdN l ((k : Int) - 1)).f1 (rdN l k).f1
  · rw [if_pos h4] at h; omega
  rw [if_neg h4] at h
  by_cases h5 : (parB (rdN l k).f1).2 = true ∧ isDir (l.take k) (parB (rdN l k).f1).1 = false
  · rw [if_pos h5] at h; omega
  refine ⟨h2, h1, by omega, fun hk => ?_, fun hp => ?_⟩
  · rcases Int.lt_or_le (compB (rdN l ((k : Int) - 1)).f1 (rdN l k).f1) 0 with h6 | h6
    · exact h6
    · exact absurd ⟨hk, h6⟩ h4
  · cases hd : isDir (l.take k) (parB (rdN l k).f1).1
    · exact absurd ⟨hp, hd⟩ h5
    · rfl
theorem isDir_mem (l : List Nd) (p : ByteArray) (h : isDir l p = true) : p ∈ paths l := by
  induction l using snoc_ind with
  | h0 => cases h
  | h1 l x ih =>
    rw [isDir_snoc] at h
    unfold paths at *
    rw [List.map_append]
    by_cases hx : x.f1 = p
    · rw [← hx]; simp
    · rw [if_neg hx] at h
      exact List.mem_append_left _ (ih h)
theorem mem_rdN (l : List Nd) (x : Nd) (h : x ∈ l) : ∃ k, k < l.length ∧ rdN l (k : Int) = x := by
  obtain ⟨k, hk, rfl⟩ := List.getElem_of_mem h
  exact ⟨k, hk, by unfold rdN; rw [Int.toNat_natCast, List.getD_eq_getElem?_getD, List.getElem?_eq_getElem hk]; rfl⟩
/-- What a tree is. -/
theorem tree_is (l : List Nd) (h : (chk l).2 = 0) : l.Pairwise Before ∧ l.length ≤ 65536 ∧ (∀ x ∈ l, validB x.f1 = true ∧ mayB x = true ∧ ((parB x.f1).2 = true → (parB x.f1).1 ∈ paths l)) := by
  have hk := (chk_ok l).1 h
  refine ⟨chain_pw Before before_trans l (fun k h0 h1 => (err_zero l k (hk k h1)).2.2.2.1 h0), ?_, fun x hx => ?_⟩
  · rcases Nat.eq_zero_or_pos l.length with h0 | h0
    · omega
    · have := (err_zero l (l.length - 1) (hk _ (by omega))).2.2.1
      omega
  · obtain ⟨k, h1, rfl⟩ := mem_rdN l x hx
    obtain ⟨q1, q2, _, _, q3⟩ := err_zero l k (hk k h1)
    refine ⟨q1, q2, fun hp => ?_⟩
    have := isDir_mem _ _ (q3 hp)
    unfold paths at this ⊢
    obtain ⟨y, hy, e⟩ := List.mem_map.1 this
    exact List.mem_map.2 ⟨y, List.mem_of_mem_take hy, e⟩
theorem bad_none (t : List Nd) : ∀ ps : List ByteArray, (∀ x ∈ t, validB x.f1 = true ∧ mayB x = true) → (∀ x ∈ t, x.f1 ∉ ps) → (paths t).Nodup → bad ps t = 0 := by
  induction t with
  | nil => intro _ _ _ _; rfl
  | cons x r ih =>
    intro ps h1 h2 h3
    have hx := h1 x List.mem_cons_self
    unfold bad
    have hh : has ps x.f1 = false := by
      cases hb : has ps x.f1
      · rfl
      · exact absurd ((has_iff _ _).1 hb) (h2 x List.mem_cons_self)
    rw [if_neg (by rw [hx.1]; simp), if_neg (by rw [hx.2, hh]; simp)]
    obtain ⟨h4, h5⟩ := List.nodup_cons.1 (show (x.f1 :: paths r).Nodup from h3)
    refine ih _ (fun y hy => h1 y (List.mem_cons_of_mem _ hy)) (fun y hy hm => ?_) h5
    rcases List.mem_append.1 hm with hm | hm
    · exact h2 y (List.mem_cons_of_mem _ hy) hm
    · obtain hm := List.mem_singleton.1 hm
      exact h4 (hm ▸ List.mem_map.2 ⟨y, hy, rfl⟩)
theorem ups_none (ps : List ByteArray) (p : ByteArray) (f : Nat) (h : (parB p).2 = true → (parB p).1 ∈ ps) : ups ps p f = [] := by
  cases f with
  | zero => rfl
  | succ f =>
    unfold ups
    rw [if_neg]
    rintro ⟨h1, h2⟩
    have := (has_iff _ _).2 (h h1)
    rw [this] at h2
    cases h2
theorem news_none (t : List Nd) (ps : List ByteArray) (h : ∀ x ∈ t, (parB x.f1).2 = true → (parB x.f1).1 ∈ ps) : news ps t = [] := by
  induction t with
  | nil => rfl
  | cons x r ih =>
    unfold news
    rw [ups_none ps x.f1 _ (h x List.mem_cons_self), List.append_nil, List.nil_append]
    exact ih (fun y hy => h y (List.mem_cons_of_mem _ hy))
theorem grow_self (l t : List Nd) (hp : l.Perm t) (h : (chk l).2 = 0) : bad [] t = 0 ∧ grown t = t ∧ ∀ e0 m, GrowSpec t e0 m → e0 = 0 ∧ m = l := by
  obtain ⟨h1, h2, h3⟩ := tree_is l h
  have hpp : (paths l).Perm (paths t) := hp.map _
  have hnd : (paths l).Nodup := by
    unfold paths
    unfold List.Nodup
    rw [List.pairwise_map]
    exact h1.imp (fun {a b} hab e => by unfold Before at hab; rw [e, compB_self] at hab; omega)
  have hb : bad [] t = 0 := bad_none t [] (fun x hx => ⟨(h3 x (hp.symm.subset hx)).1, (h3 x (hp.symm.subset hx)).2.1⟩) (fun x _ hm => absurd hm (by simp)) (hpp.nodup_iff.1 hnd)
  have hg : grown t = t := by
    unfold grown
    rw [news_none t (paths t) (fun x hx hq => hpp.subset ((h3 x (hp.symm.subset hx)).2.2 hq))]
    simp
  refine ⟨hb, hg, fun e0 m hs => ?_⟩
  rcases hs with ⟨hs, _⟩ | ⟨_, s, hs1, hs2, rfl, rfl⟩
  · exact absurd hb hs
  · rw [hg] at hs1
    obtain rfl := sorted_is l s h1 (hp.trans hs1) hs2
    exact ⟨h, by rw [if_pos h]⟩
/-- The law's trial: a file in a folder that lacks. -/
def probe2 : List Nd := [⟨2, ⟨#[97, 47, 98]⟩, [], 0, 0⟩]
def probe3 : List Nd := [⟨1, ⟨#[97]⟩, [], 493, 0⟩, ⟨2, ⟨#[97, 47, 98]⟩, [], 0, 0⟩]
theorem probe_grows : bad [] probe2 = 0 ∧ (grown probe2).length = 2 ∧ ∀ e0 m, GrowSpec probe2 e0 m → e0 = 0 ∧ m.length = 2 := by
  have hb : bad [] probe2 = 0 := by kernel_rfl
  have hg : grown probe2 = [⟨2, ⟨#[97, 47, 98]⟩, [], 0, 0⟩, ⟨1, ⟨#[97]⟩, [], 493, 0⟩] := by kernel_rfl
  refine ⟨hb, by rw [hg]; rfl, fun e0 m hs => ?_⟩
  rcases hs with ⟨hs, _⟩ | ⟨_, s, hs1, hs2, rfl, rfl⟩
  · exact absurd hb hs
  · rw [hg] at hs1
    have hpw : probe3.Pairwise Before := by
      refine List.pairwise_cons.2 ⟨fun y hy => ?_, List.pairwise_cons.2 ⟨fun y hy => absurd hy (by simp), List.Pairwise.nil⟩⟩
      obtain rfl := List.mem_singleton.1 hy
      have : compB ⟨#[97]⟩ ⟨#[97, 47, 98]⟩ = -1 := by kernel_rfl
      show compB ⟨#[97]⟩ ⟨#[97, 47, 98]⟩ < 0
      rw [this]; decide
    obtain rfl := sorted_is probe3 s hpw ((List.Perm.swap _ _ _).trans hs1) hs2
    have hc : (chk probe3).2 = 0 := by kernel_rfl
    exact ⟨hc, by rw [if_pos hc]; rfl⟩
/-! ### turned -/
def turned (l : List Nd) (r : Nat) : List Nd := l.reverse.drop r ++ l.reverse.take r
theorem turned_perm (l : List Nd) (r : Nat) : l.Perm (turned l r) := by
  unfold turned
  have h1 : (l.reverse.take r ++ l.reverse.drop r).Perm (l.reverse.drop r ++ l.reverse.take r) := List.perm_append_comm
  rw [List.take_append_drop] at h1
  exact (List.reverse_perm l).symm.trans h1
theorem turned_len (l : List Nd) (r : Nat) : (turned l r).length = l.length := (turned_perm l r).length_eq.symm
theorem turned_at (l : List Nd) (r i : Nat) (hr : r < l.length) (hi : i < l.length) : (turned l r)[i]? = some (rdN l (((l.length - 1 - (r + i) % l.length : Nat)) : Int)) := by
  have hm : (r + i) % l.length < l.length := Nat.mod_lt _ (by omega)
  have e : rdN l (((l.length - 1 - (r + i) % l.length : Nat)) : Int) = l[l.length - 1 - (r + i) % l.length]'(by omega) := by
    unfold rdN; rw [Int.toNat_natCast, List.getD_eq_getElem?_getD, List.getElem?_eq_getElem (by omega)]; rfl
  rw [e]
  unfold turned
  by_cases h : i < l.length - r
  · rw [List.getElem?_append_left (by simp; exact h), List.getElem?_drop, List.getElem?_reverse (by omega), List.getElem?_eq_getElem (by omega)]
    congr 2
    rw [Nat.mod_eq_of_lt (by omega)]
  · rw [List.getElem?_append_right (by simp; omega), List.getElem?_take, if_pos (by simp; omega), List.length_drop, List.length_reverse, List.getElem?_reverse (by omega), List.getElem?_eq_getElem (by omega)]
    congr 2
    rw [Nat.mod_eq_sub_mod (by omega), Nat.mod_eq_of_lt (by omega)]
    omega
end Go.Proofs.YtoiffnoiliknnaaDoor.Tree
set_option linter.unusedVariables false
set_option linter.unusedSimpArgs false
namespace Go.Proofs.YtoiffnoiliknnaaDoor.Tree
open Go.RowKit Go.Proofs.YtoiffnoiliknnaaDoor.Rout Go.Proofs.YtoiffnoiliknnaaDoor.Node
theorem tl_inj {a b : ByteArray} : a.toList = b.toList ↔ a = b := by
  rw [ByteArray.toList_eq, ByteArray.toList_eq]
  exact ⟨ba_ext, fun h => by rw [h]⟩
/-- Found, or not. -/
theorem findN_spec (p : ByteArray) : ∀ (l : List Nd) (i : Int), (findN l p i = -1 ∧ ∀ x ∈ l, x.f1 ≠ p) ∨ ∃ j : Nat, j < l.length ∧ findN l p i = i + j ∧ ∃ x, l[j]? = some x ∧ x.f1 = p
  | [], i => .inl ⟨rfl, fun x hx => absurd hx (by simp)⟩
  | x :: r, i => by
    unfold findN
    by_cases h : x.f1.toList = p.toList
    · rw [if_pos h]
      exact .inr ⟨0, by simp, by simp, x, rfl, tl_inj.1 h⟩
    · rw [if_neg h]
      rcases findN_spec p r (i + 1) with ⟨h1, h2⟩ | ⟨j, h1, h2, y, h3, h4⟩
      · refine .inl ⟨h1, fun y hy => ?_⟩
        rcases List.mem_cons.1 hy with rfl | hy
        · exact fun e => h (by rw [e])
        · exact h2 y hy
      · refine .inr ⟨j + 1, by simp; exact h1, ?_, y, by simpa using h3, h4⟩
        rw [h2]; omega
theorem isDir_out (l : List Nd) (p : ByteArray) (h : ∀ x ∈ l, x.f1 ≠ p) : isDir l p = false := by
  cases hb : isDir l p
  · rfl
  · have := isDir_mem l p hb
    unfold paths at this
    obtain ⟨y, hy, e⟩ := List.mem_map.1 this
    exact absurd e (h y hy)
theorem isDir_one (l : List Nd) (hn : (paths l).Nodup) (x : Nd) (hx : x ∈ l) : isDir l x.f1 = (x.f0 == 1) := by
  induction l using snoc_ind with
  | h0 => cases hx
  | h1 l y ih =>
    have hn2 : (paths l ++ [y.f1]).Nodup := by unfold paths at hn ⊢; rw [List.map_append] at hn; exact hn
    obtain ⟨h1, _, h3⟩ := List.nodup_append.1 hn2
    rw [isDir_snoc]
    rcases List.mem_append.1 hx with hx | hx
    · have hne : y.f1 ≠ x.f1 := fun e => h3 x.f1 (List.mem_map.2 ⟨x, hx, rfl⟩) y.f1 (by simp) e.symm
      rw [if_neg hne]
      exact ih h1 hx
    · obtain rfl := List.mem_singleton.1 hx
      rw [if_pos rfl]
/-- What the document asks of node k. -/
def errR (l : List Nd) (k : Nat) : Int :=
  if validB (rdN l k).f1 = false then 20
  else if mayB (rdN l k) = false ∨ 65536 ≤ k then 21
  else if 0 < k ∧ 0 ≤ compB (rdN l (k - 1)).f1 (rdN l k).f1 then 21
  else if (parB (rdN l k).f1).2 = true ∧ (findN (l.take k) (parB (rdN l k).f1).1 0 < 0 ∨ (rdN l (findN (l.take k) (parB (rdN l k).f1).1 0)).f0 ≠ 1) then 21 else 0
theorem errR_is (l : List Nd) (k : Nat) (hk : k < l.length) (h : ∀ j, j < k → errAt l j = 0) : errR l k = errAt l k := by
  have hpw : (l.take k).Pairwise Before := by
    refine chain_pw Before before_trans _ (fun j h0 h1 => ?_)
    rw [List.length_take] at h1
    have e : ∀ q : Nat, q < k → rdN (l.take k) (q : Int) = rdN l (q : Int) := fun q hq => by
      unfold rdN
      rw [Int.toNat_natCast, List.getD_eq_getElem?_getD, List.getD_eq_getElem?_getD, List.getElem?_take, if_pos hq]
    have h2 := (err_zero l j (h j (by omega))).2.2.2.1 h0
    rw [e j (by omega), show ((j : Int) - 1) = ((j - 1 : Nat) : Int) by omega, e (j - 1) (by omega)]
    rw [show ((j : Int) - 1) = ((j - 1 : Nat) : Int) by omega] at h2
    exact h2
  have hnd : (paths (l.take k)).Nodup := by
    unfold paths
    unfold List.Nodup
    rw [List.pairwise_map]
    exact hpw.imp (fun {a b} hab e => by unfold Before at hab; rw [e, compB_self] at hab; omega)
  have hc : (findN (l.take k) (parB (rdN l k).f1).1 0 < 0 ∨ (rdN l (findN (l.take k) (parB (rdN l k).f1).1 0)).f0 ≠ 1) ↔ isDir (l.take k) (parB (rdN l k).f1).1 = false := by
    rcases findN_spec (parB (rdN l k).f1).1 (l.take k) 0 with ⟨h1, h2⟩ | ⟨j, h1, h2, x, h3, h4⟩
    · rw [isDir_out _ _ h2, h1]; simp
    · have hx : x ∈ l.take k := List.mem_of_getElem? h3
      have hd := isDir_one _ hnd x hx
      rw [h4] at hd
      rw [List.length_take] at h1
      have hr : rdN l (0 + (j : Int)) = x := by
        rw [Int.zero_add]
        unfold rdN
        rw [List.getElem?_take, if_pos (by omega)] at h3
        rw [Int.toNat_natCast, List.getD_eq_getElem?_getD, h3]
        rfl
      rw [h2, hr, hd]
      constructor
      · rintro (h5 | h5)
        · omega
        · exact beq_eq_false_iff_ne.2 h5
      · intro h5
        exact .inr (beq_eq_false_iff_ne.1 h5)
  unfold errR errAt
  simp only [hc]
end Go.Proofs.YtoiffnoiliknnaaDoor.Tree
set_option linter.unusedVariables false
set_option linter.unusedSimpArgs false
namespace Go.Proofs.YtoiffnoiliknnaaDoor.Tree
open Go.RowKit Go.BigFrame Go.Proofs.YtoiffnoiliknnaaDoor.Reg Go.Proofs.YtoiffnoiliknnaaDoor.Rout Go.Proofs.YtoiffnoiliknnaaDoor.Node Go.Proofs.YtoiffnoiliknnaaDoorW.PrintWords
theorem errR_cases (l : List Nd) (k : Nat) : (errR l k = 20 ∧ validB (rdN l k).f1 = false) ∨ (validB (rdN l k).f1 = true ∧ ((errR l k = 21 ∧ (mayB (rdN l k) = false ∨ 65536 ≤ k)) ∨ (mayB (rdN l k) = true ∧ k < 65536 ∧ ((errR l k = 21 ∧ 0 < k ∧ 0 ≤ compB (rdN l (k - 1)).f1 (rdN l k).f1) ∨ ((k = 0 ∨ compB (rdN l (k - 1)).f1 (rdN l k).f1 < 0) ∧ (((parB (rdN l k).f1).2 = false ∧ errR l k = 0) ∨ ((parB (rdN l k).f1).2 = true ∧ ((findN (l.take k) (parB (rdN l k).f1).1 0 < 0 ∧ errR l k = 21) ∨ (0 ≤ findN (l.take k) (parB (rdN l k).f1).1 0 ∧ (((rdN l (findN (l.take k) (parB (rdN l k).f1).1 0)).f0 ≠ 1 ∧ errR l k = 21) ∨ ((rdN l (findN (l.take k) (parB (rdN l k).f1).1 0)).f0 = 1 ∧ errR l k = 0))))))))))) := by
  unfold errR
  by_cases h1 : validB (rdN l k).f1 = false
  · left; rw [if_pos h1]; exact ⟨rfl, h1⟩
  rw [if_neg h1]
  right
  refine ⟨by simpa using h1, ?_⟩
  by_cases h2 : mayB (rdN l k) = false ∨ 65536 ≤ k
  · left; rw [if_pos h2]; exact ⟨rfl, h2⟩
  rw [if_neg h2]
  right
  refine ⟨by cases h : mayB (rdN l k); exact absurd (.inl h) h2; rfl, by omega, ?_⟩
  by_cases h3 : 0 < k ∧ 0 ≤ compB (rdN l (k - 1)).f1 (rdN l k).f1
  · left; rw [if_pos h3]; exact ⟨rfl, h3⟩
  rw [if_neg h3]
  right
  refine ⟨by omega, ?_⟩
  by_cases h4 : (parB (rdN l k).f1).2 = true
  · right
    refine ⟨h4, ?_⟩
    by_cases h5 : findN (l.take k) (parB (rdN l k).f1).1 0 < 0
    · left; rw [if_pos ⟨h4, .inl h5⟩]; exact ⟨h5, rfl⟩
    · right
      refine ⟨by omega, ?_⟩
      by_cases h6 : (rdN l (findN (l.take k) (parB (rdN l k).f1).1 0)).f0 = 1
      · right; rw [if_neg (by rintro ⟨_, h | h⟩; exact h5 h; exact h h6)]; exact ⟨h6, rfl⟩
      · left; rw [if_pos ⟨h4, .inr h6⟩]; exact ⟨h6, rfl⟩
  · left; rw [if_neg (fun h => h4 h.1)]; exact ⟨by simpa using h4, rfl⟩
theorem findN_lt (p : ByteArray) (l : List Nd) : findN l p 0 < l.length := by
  rcases findN_spec p l 0 with ⟨h, _⟩ | ⟨j, h1, h2, _⟩ <;> omega
theorem findN_ge (p : ByteArray) (l : List Nd) : -1 ≤ findN l p 0 := by
  rcases findN_spec p l 0 with ⟨h, _⟩ | ⟨j, h1, h2, _⟩ <;> omega
set_option maxRecDepth 100000 in
set_option maxHeartbeats 16000000 in
theorem refCheck_calls (A : Option Addr) (c : Nat) (l : List Nd) (w : World) (hC : kN.C w A l.length l) (hok : ∀ x ∈ l, Ok x) (hc : l.length ≤ c) (hl : l.length ≤ 140737488351232) :
    Calls Tryd.prog 16 #[.slice A l.length c] w fun e w' => e = .returned (.tuple #[.int .i64 (chk l).1, .int .i64 (chk l).2]) ∧ Below w.heap.size w w' := by
  have HC := Lib.hid hC
  have HOK := Lib.hid hok
  clear hC hok
  go_enter Tryd.func16, Tryd.ntmps16
  go_wp2
  go_loopw [4] (fun i wr => ∃ k : Nat, i = .int .i64 k ∧ k ≤ l.length ∧ Below w.heap.size w wr ∧ Hid (chkN l (l.length - k) = chk l) ∧ Hid (∀ j, j < k → errAt l j = 0)) (fun i _ => (l.length - intOf i).toNat)
  case atStart => exact ⟨0, rfl, by omega, Below.refl _ _, Lib.hid rfl, Lib.hid (fun j h => by omega)⟩
  case round =>
    obtain ⟨k, rfl, hk, hb, hch, hall⟩ := hrel
    by_cases hlt : k < l.length
    · obtain ⟨ad, A2, c2, hA, c0, c1, c2', c3, c4, hl2, hd⟩ := atN (Kd.C_below HC.out hb) (k : Int) (by omega) (by omega)
      subst hA
      have hst := Lib.hid (chkN_step l k hlt)
      have hE := Lib.hid (errR_is l k hlt hall.out)
      have hcs := Lib.hid (errR_cases l k)
      have hokx := Lib.hid (HOK.out _ (rdN_mem l k hlt))
      have hvprev : Hid (0 < k → validB (rdN l (k - 1)).f1 = true) := Lib.hid (fun h => by
        have := (err_zero l (k - 1) (hall.out _ (by omega))).1
        rw [show ((k - 1 : Nat) : Int) = (k : Int) - 1 by omega] at this
        exact this)
      have hnext : Hid (errR l k = 0 → chkN l (l.length - (k + 1)) = chk l ∧ ∀ j, j < k + 1 → errAt l j = 0) := Lib.hid (fun h => by
        rw [hE.out] at h
        refine ⟨by rw [← hch.out, hst.out, if_pos h], fun j hj => ?_⟩
        rcases Nat.lt_or_ge j k with h' | h'
        · exact hall.out j h'
        · obtain rfl : j = k := by omega
          exact h)
      have hbad : Hid (∀ n, n ≠ 0 → errR l k = n → chk l = ((k : Int), n)) := Lib.hid (fun n h0 hn => by
        rw [hE.out] at hn
        rw [← hch.out, hst.out, if_neg (by rw [hn]; exact h0), hn])
      clear hst hE hch hall
      rw [Int.toNat_natCast] at c0 c1 c2' c3 c4
      have k0 : (0 : Int) ≤ (k : Int) := by omega
      have k1 : (k : Int) < l.length := by omega
      have HV := Lib.hid (fun W => refValid_calls (rdN l (k : Int)).f1 W)
      have HP := Lib.hid (fun W => refParent_calls (rdN l (k : Int)).f1 W)
      have HD := Lib.hid hd
      have HL2 := Lib.hid hl2
      clear hd hl2
      generalize hx : rdN l (k : Int) = x at *
      clear hx
      rcases hcs.out with ⟨h1, h2⟩ | ⟨h2, hcs2⟩
      · have HR := Lib.hid (hbad.out 20 (by omega) h1)
        clear h1 hbad hnext hcs
        rw [h2] at HV
        clear h2
        go_wp2_with (go_at_call 32; refine (HV.out _).mono ?_; rintro e w1 ⟨rfl, hb1⟩)
        go_ret2
        rw [HR.out]
        exact ⟨rfl, bgo hb hb1⟩
      have hsz := valid_size _ h2
      clear hcs
      rw [h2] at HV
      clear h2
      have HS2 := Lib.hid hcs2
      clear hcs2
      go_upto_region 6 with (go_at_call 32; refine (HV.out _).mono ?_; rintro e w1 ⟨rfl, hb1⟩)
      have c0' := bkeep hb1 c0
      have c1' := bkeep hb1 c1
      have c2'' := bkeep hb1 c2'
      have c3' := bkeep hb1 c3
      have c4' := bkeep hb1 c4
      clear c0 c1 c2' c3 c4
      have HB := Lib.hid (bgo hb hb1)
      have HD1 := Lib.hid (Kd.C_below HD.out hb1)
      clear hb hb1 HD
      refine wp_world ?_
      intro W1 hW1
      obtain rfl := hW1
      have HM := Lib.hid (fun n : Abv W1 => refMay_calls x A2 c2 n.w (Kd.C_below HD1.out n.bel) HL2.out hokx.out.ds)
      have KW := Lib.hid (show IntKind.i64.wrap ((k : Int) - 1) = (k : Int) - 1 by rw [IntKind.wrap_i64]; omega)
      rcases HS2.out with ⟨h1, h3⟩ | ⟨h3, h4, hcs3⟩
      · have HR := Lib.hid (hbad.out 21 (by omega) h1)
        clear h1 hbad hnext HS2 HP HV KW
        cases hm : mayB x
        · rw [hm] at HM
          clear h3 hm
          refine wp_region_above (by kernel_rfl) (by kernel_rfl) ?_
          intro ne
          have n0 := fun n : Abv W1 => n.cell c0'
          have n1 := fun n : Abv W1 => n.cell c1'
          have n2 := fun n : Abv W1 => n.cell c2''
          have n3 := fun n : Abv W1 => n.cell c3'
          have n4 := fun n : Abv W1 => n.cell c4'
          repeat (go_big_quiet_step (first
            | (go_at_call 33; exact Abv.call _ (HM.out _))))
          refine quiet_above ?_
          intro w6 hb6
          clear n0 n1 n2 n3 n4
          go_wp2
          go_ret2
          rw [HR.out]
          exact ⟨rfl, bgo HB.out hb6⟩
        · have hbig : 65536 ≤ k := by
            rcases h3 with h | h
            · rw [hm] at h; cases h
            · exact h
          rw [hm] at HM
          clear h3 hm
          have hd1 : decide ((65536 : Int) ≤ (k : Int)) = true := decide_eq_true (by omega)
          refine wp_region_above (by kernel_rfl) (by kernel_rfl) ?_
          intro ne
          have n0 := fun n : Abv W1 => n.cell c0'
          have n1 := fun n : Abv W1 => n.cell c1'
          have n2 := fun n : Abv W1 => n.cell c2''
          have n3 := fun n : Abv W1 => n.cell c3'
          have n4 := fun n : Abv W1 => n.cell c4'
          repeat (go_big_quiet_step (first
            | (go_at_call 33; exact Abv.call _ (HM.out _))))
          refine quiet_above ?_
          intro w6 hb6
          clear n0 n1 n2 n3 n4 hd1
          go_wp2
          go_ret2
          rw [HR.out]
          exact ⟨rfl, bgo HB.out hb6⟩
      rw [h3] at HM
      clear h3 HS2
      have hd1 : decide ((65536 : Int) ≤ (k : Int)) = false := decide_eq_false (by omega)
      have HS3 := Lib.hid hcs3
      clear hcs3
      rcases HS3.out with ⟨h1, h5, h6⟩ | ⟨h5, hcs4⟩
      · have HR := Lib.hid (hbad.out 21 (by omega) h1)
        clear h1 hbad hnext HS3 HP HV
        obtain ⟨adp, A3, c3p, hA, _, q1, _, _, _, _, _⟩ := atN (Kd.C_below HC.out HB.out) ((k : Int) - 1) (by omega) (by omega)
        obtain rfl := Option.some.inj hA
        have hszp := valid_size _ (hvprev.out h5)
        have HK := Lib.hid (fun n : Abv W1 => refCompare_calls (rdN l ((k : Int) - 1)).f1 x.f1 n.w hszp hsz)
        have h6' : decide (0 ≤ compB (rdN l ((k : Int) - 1)).f1 x.f1) = true := decide_eq_true h6
        have j0 : (1 : Int) ≤ (k : Int) := by omega
        rw [show ((k : Int) - 1).toNat = k - 1 by omega] at q1
        clear h6 hvprev hszp KW
        generalize rdN l ((k : Int) - 1) = y at *
        generalize compB y.f1 x.f1 = cb at *
        refine wp_region_above (by kernel_rfl) (by kernel_rfl) ?_
        intro ne
        have n0 := fun n : Abv W1 => n.cell c0'
        have n1 := fun n : Abv W1 => n.cell c1'
        have n2 := fun n : Abv W1 => n.cell c2''
        have n3 := fun n : Abv W1 => n.cell c3'
        have n4 := fun n : Abv W1 => n.cell c4'
        have m1 := fun n : Abv W1 => n.cell q1
        repeat (go_big_quiet_step (first
          | (go_at_call 33; exact Abv.call _ (HM.out _))
          | (go_at_call 34; exact Abv.call _ (HK.out _))))
        refine quiet_above ?_
        intro w6 hb6
        clear n0 n1 n2 n3 n4 m1
        go_wp2
        go_ret2
        rw [HR.out]
        exact ⟨rfl, bgo HB.out hb6⟩
      have HS4 := Lib.hid hcs4
      clear hcs4 HS3
      by_cases hk0 : 0 < k
      · have h5' : compB (rdN l ((k : Int) - 1)).f1 x.f1 < 0 := by
          rcases h5 with h | h
          · omega
          · exact h
        clear h5
        obtain ⟨adp, A3, c3p, hA, _, q1, _, _, _, _, _⟩ := atN (Kd.C_below HC.out HB.out) ((k : Int) - 1) (by omega) (by omega)
        obtain rfl := Option.some.inj hA
        have hszp := valid_size _ (hvprev.out hk0)
        have HK := Lib.hid (fun n : Abv W1 => refCompare_calls (rdN l ((k : Int) - 1)).f1 x.f1 n.w hszp hsz)
        have h6' : decide (0 ≤ compB (rdN l ((k : Int) - 1)).f1 x.f1) = false := decide_eq_false (by omega)
        have j0 : (1 : Int) ≤ (k : Int) := by omega
        rw [show ((k : Int) - 1).toNat = k - 1 by omega] at q1
        clear h5' hvprev hszp KW
        generalize rdN l ((k : Int) - 1) = y at *
        generalize compB y.f1 x.f1 = cb at *
        refine wp_region_above (by kernel_rfl) (by kernel_rfl) ?_
        intro ne
        have n0 := fun n : Abv W1 => n.cell c0'
        have n1 := fun n : Abv W1 => n.cell c1'
        have n2 := fun n : Abv W1 => n.cell c2''
        have n3 := fun n : Abv W1 => n.cell c3'
        have n4 := fun n : Abv W1 => n.cell c4'
        have m1 := fun n : Abv W1 => n.cell q1
        repeat (go_big_quiet_step (first
          | (go_at_call 33; exact Abv.call _ (HM.out _))
          | (go_at_call 34; exact Abv.call _ (HK.out _))))
        refine quiet_above ?_
        intro w6 hb6
        clear n0 n1 n2 n3 n4 m1 q1 HK h6' j0
        have c1b := bkeep hb6 c1'
        have HB6 := Lib.hid (bgo HB.out hb6)
        clear c0' c1' c2'' c3' c4' hb6 hd1
        rcases HS4.out with ⟨h7, h8⟩ | ⟨h7, hcs5⟩
        · have HN := Lib.hid (hnext.out h8)
          rw [h7] at HP
          clear h7 h8 HS4
          go_wp2_with (go_at_call 35; refine (HP.out _).mono ?_; rintro e w7 ⟨rfl, hb7⟩)
          go_roundw
          case rel => exact ⟨k + 1, by go_num, by omega, bgo HB6.out hb7, Lib.hid HN.out.1, Lib.hid HN.out.2⟩
          case measure => simp [intOf]; omega
        rw [h7] at HP
        clear h7 HS4
        have HS5 := Lib.hid hcs5
        clear hcs5
        have HF := Lib.hid (fun (W : World) (hW : Below w.heap.size w W) => (show Calls Tryd.prog 36 #[.slice (some ad) k c, .string (parB x.f1).1] W _ from by
          have h := find_calls (some ad) c (l.take k) (parB x.f1).1 W (Kd.C_take (Kd.C_below HC.out hW) (by omega)) (by rw [List.length_take]; omega) (by rw [List.length_take]; omega)
          rw [List.length_take, Nat.min_eq_left (by omega)] at h
          exact h))
        have hflt := findN_lt (parB x.f1).1 (l.take k)
        rw [List.length_take, Nat.min_eq_left (by omega)] at hflt
        generalize findN (l.take k) (parB x.f1).1 0 = t at *
        generalize (parB x.f1).1 = pp at *
        go_upto_region 11 with (first
          | (go_at_call 35; refine (HP.out _).mono ?_; rintro e w7 ⟨rfl, hb7⟩; have HB7 := Lib.hid (bgo HB6.out hb7); clear hb7)
          | (go_at_call 36; with_reducible refine (HF.out _ HB7.out).mono ?_; rintro e w8 ⟨rfl, hb8⟩; have HB8 := Lib.hid (bgo HB7.out hb8); clear hb8))
        rcases HS5.out with ⟨h8, h9⟩ | ⟨h8, h9⟩
        · have HR := Lib.hid (hbad.out 21 (by omega) h9)
          clear h9 hbad hnext HS5
          go_wp2
          go_ret2
          rw [HR.out]
          exact ⟨rfl, HB8.out⟩
        · obtain ⟨ad4, A4, c4, hA4, g0, _, _, _, _, _, _⟩ := atN (Kd.C_below HC.out HB8.out) t h8 (by omega)
          obtain rfl := Option.some.inj hA4
          have ht1 : t < (l.length : Int) := by omega
          rcases h9 with ⟨h9, h10⟩ | ⟨h9, h10⟩
          · have HR := Lib.hid (hbad.out 21 (by omega) h10)
            have h9' : ((rdN l t).f0 != 1) = true := by simpa using h9
            clear h9 h10 hbad hnext HS5
            go_wp2
            go_ret2
            rw [HR.out]
            exact ⟨rfl, HB8.out⟩
          · have HN := Lib.hid (hnext.out h10)
            rw [h9] at g0
            clear h9 h10 hbad hnext HS5
            go_wp2
            go_roundw
            case rel => exact ⟨k + 1, by go_num, by omega, HB8.out, Lib.hid HN.out.1, Lib.hid HN.out.2⟩
            case measure => simp [intOf]; omega
      · have hk0' : decide (0 < k) = false := decide_eq_false hk0
        clear h5 hvprev KW hk0
        refine wp_region_above (by kernel_rfl) (by kernel_rfl) ?_
        intro ne
        have n0 := fun n : Abv W1 => n.cell c0'
        have n1 := fun n : Abv W1 => n.cell c1'
        have n2 := fun n : Abv W1 => n.cell c2''
        have n3 := fun n : Abv W1 => n.cell c3'
        have n4 := fun n : Abv W1 => n.cell c4'
        repeat (go_big_quiet_step (first
          | (go_at_call 33; exact Abv.call _ (HM.out _))))
        refine quiet_above ?_
        intro w6 hb6
        clear n0 n1 n2 n3 n4 hk0'
        have c1b := bkeep hb6 c1'
        have HB6 := Lib.hid (bgo HB.out hb6)
        clear c0' c1' c2'' c3' c4' hb6 hd1
        rcases HS4.out with ⟨h7, h8⟩ | ⟨h7, hcs5⟩
        · have HN := Lib.hid (hnext.out h8)
          rw [h7] at HP
          clear h7 h8 HS4
          go_wp2_with (go_at_call 35; refine (HP.out _).mono ?_; rintro e w7 ⟨rfl, hb7⟩)
          go_roundw
          case rel => exact ⟨k + 1, by go_num, by omega, bgo HB6.out hb7, Lib.hid HN.out.1, Lib.hid HN.out.2⟩
          case measure => simp [intOf]; omega
        rw [h7] at HP
        clear h7 HS4
        have HS5 := Lib.hid hcs5
        clear hcs5
        have HF := Lib.hid (fun (W : World) (hW : Below w.heap.size w W) => (show Calls Tryd.prog 36 #[.slice (some ad) k c, .string (parB x.f1).1] W _ from by
          have h := find_calls (some ad) c (l.take k) (parB x.f1).1 W (Kd.C_take (Kd.C_below HC.out hW) (by omega)) (by rw [List.length_take]; omega) (by rw [List.length_take]; omega)
          rw [List.length_take, Nat.min_eq_left (by omega)] at h
          exact h))
        have hflt := findN_lt (parB x.f1).1 (l.take k)
        rw [List.length_take, Nat.min_eq_left (by omega)] at hflt
        generalize findN (l.take k) (parB x.f1).1 0 = t at *
        generalize (parB x.f1).1 = pp at *
        go_upto_region 11 with (first
          | (go_at_call 35; refine (HP.out _).mono ?_; rintro e w7 ⟨rfl, hb7⟩; have HB7 := Lib.hid (bgo HB6.out hb7); clear hb7)
          | (go_at_call 36; with_reducible refine (HF.out _ HB7.out).mono ?_; rintro e w8 ⟨rfl, hb8⟩; have HB8 := Lib.hid (bgo HB7.out hb8); clear hb8))
        rcases HS5.out with ⟨h8, h9⟩ | ⟨h8, h9⟩
        · have HR := Lib.hid (hbad.out 21 (by omega) h9)
          clear h9 hbad hnext HS5
          go_wp2
          go_ret2
          rw [HR.out]
          exact ⟨rfl, HB8.out⟩
        · obtain ⟨ad4, A4, c4, hA4, g0, _, _, _, _, _, _⟩ := atN (Kd.C_below HC.out HB8.out) t h8 (by omega)
          obtain rfl := Option.some.inj hA4
          have ht1 : t < (l.length : Int) := by omega
          rcases h9 with ⟨h9, h10⟩ | ⟨h9, h10⟩
          · have HR := Lib.hid (hbad.out 21 (by omega) h10)
            have h9' : ((rdN l t).f0 != 1) = true := by simpa using h9
            clear h9 h10 hbad hnext HS5
            go_wp2
            go_ret2
            rw [HR.out]
            exact ⟨rfl, HB8.out⟩
          · have HN := Lib.hid (hnext.out h10)
            rw [h9] at g0
            clear h9 h10 hbad hnext HS5
            go_wp2
            go_roundw
            case rel => exact ⟨k + 1, by go_num, by omega, HB8.out, Lib.hid HN.out.1, Lib.hid HN.out.2⟩
            case measure => simp [intOf]; omega
    · have hz : k = l.length := by omega
      have HR := Lib.hid (show chk l = (0, 0) by rw [← hch.out, hz, Nat.sub_self]; rfl)
      clear hch hz hall
      go_wp2
      go_ret2
      rw [HR.out]
      exact ⟨rfl, hb⟩
end Go.Proofs.YtoiffnoiliknnaaDoor.Tree
set_option linter.unusedVariables false
set_option linter.unusedSimpArgs false
namespace Go.Proofs.YtoiffnoiliknnaaDoor.Tree
open Go.RowKit Go.BigFrame Go.Maps Go.Proofs.YtoiffnoiliknnaaDoor.Reg Go.Proofs.YtoiffnoiliknnaaDoor.Rout Go.Proofs.YtoiffnoiliknnaaDoor.Node Go.Proofs.YtoiffnoiliknnaaDoor.Tim Go.Proofs.YtoiffnoiliknnaaDoorW.PrintWords Go.Proofs.YtoiffnoiliknnaaDoorW.PrintLast Go.Proofs.YtoiffnoiliknnaaDoorW.PrintMore
theorem refNames_calls (s : ByteArray) (w : World) : Calls Tryd.prog 23 #[.string s] w fun e w' => ∃ A c, e = .returned (.slice A (if validB s = true then pcs s else []).length c) ∧ Below w.heap.size w w' := by
  refine (PParent.hamperref17_Names.calls 2052 s _ w (refNames s 2052 (Nat.le_refl _))).mono ?_
  rintro e w' ⟨v, rfl, hR, hb⟩
  obtain ⟨A, c, rfl, _, hC⟩ := Kd.R_reads hR
  exact ⟨A, c, rfl, hb⟩
theorem pcs_one (s : ByteArray) (hv : validB s = true) : (pcs s).length = 1 ↔ (parB s).2 = false := by
  rw [pcs_len]
  unfold parB
  have h0 : (List.count (47 : UInt8) s.data.toList + 1 = 1) ↔ (47 : UInt8) ∉ s.data.toList := by
    rw [← List.count_eq_zero]; omega
  rw [h0]
  rcases Lib.lastIdx_spec s 47 s.size with ⟨h, h2⟩ | ⟨i, h1, h2, h3, h4⟩
  · rw [show Lib.lastIndexByte s 47 = -1 from h, if_neg (by omega)]
    refine ⟨fun _ => rfl, fun _ hm => ?_⟩
    obtain ⟨j, hj, he⟩ := List.getElem_of_mem hm
    rw [size_data] at hj
    exact not_at s j hj (h2 j hj) (by rw [List.getElem?_eq_getElem (by rw [size_data]; exact hj), he])
  · rw [show Lib.lastIndexByte s 47 = (i : Int) from h2, if_pos ⟨by omega, hv⟩]
    refine ⟨fun hn => absurd ?_ hn, fun hn => absurd hn (by simp)⟩
    obtain ⟨c, g1, g2⟩ := Rout.byte_at s i h1
    have hc : c = 47 := UInt8.toNat_inj.1 (by rw [g2] at h3; have : ((47 : UInt8).toNat : Int) = 47 := rfl; omega)
    subst hc
    exact List.mem_of_getElem? g1
/-- What is read in an elder world is read. -/
theorem fixed_C {w W : World} {A : Option Addr} {n : Nat} {l : List Nd} (h : (Kd.fixed kN w).C W A n l) (hb : Below w.heap.size w W) : kN.C W A n l :=
  ReadsRow.imp_ h (Below.refl _ _) (fun _ _ hp => kN.K_below hb hp)
theorem GRow.to_fixed {w0 W : World} {base g cap : Nat} {l : List Nd} (h : GRow W base g cap l.length (fun j cs => ∀ x, l[j]? = some x → kN.K w0 x cs)) :
    (Kd.fixed kN w0).R 35 W base (fun _ => True) (.slice (some ⟨g, 0, none⟩) l.length cap) l := by
  obtain ⟨cells, how, he⟩ := h
  exact ⟨fun _ _ => trivial, cells, how, how.1, fun j p hj => he j (List.getElem?_eq_some_iff.1 hj).1 p hj⟩
/-- Out of a row of nodes, what is read. -/
theorem GRow.reads {w W : World} {g cap : Nat} {l : List Nd} (h : GRow W w.heap.size g cap l.length (fun j cs => ∀ x, l[j]? = some x → kN.K w x cs)) (hb : Below w.heap.size w W) : l.length ≤ cap ∧ kN.C W (some ⟨g, 0, none⟩) l.length l := by
  obtain ⟨A, c, he, hl, hC⟩ := Kd.R_reads h.to_fixed
  injection he with h1 h2 h3
  subst h1 h3
  exact ⟨hl, fixed_C hC hb⟩
def KeptK (l : List Nd) (fmt : Int) (w : World) (k : Nat) (j : Nat) (cs : List Value) : Prop := ∀ x, l[j]? = some x → kN.K w (if j < k then (keptF x fmt).1 else x) cs
/-- The post: what is told is projF; its rows are new, its bytes are those of an elder world. -/
def ProjPost (l : List Nd) (fmt : Int) (w0 w : World) (e : Ending) (w' : World) : Prop :=
  ∃ v, e = .returned (.tuple #[v, .int .i64 (projF l fmt).2]) ∧ (Kd.fixed kN w0).R 35 w' w.heap.size (fun _ => True) v (projF l fmt).1 ∧ Below w.heap.size w w'
theorem post_none {l : List Nd} {fmt n : Int} {w0 w w' : World} (h : projF l fmt = ([], n)) (hb : Below w.heap.size w w') : ProjPost l fmt w0 w (.returned (.tuple #[.slice none 0 0, .int .i64 n])) w' := by
  unfold ProjPost
  rw [h]
  exact ⟨_, rfl, Kd.R_nil _ _ _ _ _, hb⟩
theorem post_row {l m : List Nd} {fmt : Int} {w0 w w' : World} {v : Value} (h : projF l fmt = (m, 0)) (hR : (Kd.fixed kN w0).R 35 w' w.heap.size (fun _ => True) v m) (hb : Below w.heap.size w w') : ProjPost l fmt w0 w (.returned (.tuple #[v, .int .i64 0])) w' := by
  unfold ProjPost
  rw [h]
  exact ⟨_, rfl, hR, hb⟩
/-- The list with its nodes told again. -/
theorem kept_id (l : List Nd) (fmt : Int) (h2 : fmt ≠ 2) (h3 : fmt ≠ 3) (h4 : fmt ≠ 4) (h5 : fmt ≠ 5) : keepsAll l fmt = true ∧ l.map (fun x => (keptF x fmt).1) = l := by
  have hk : ∀ x, keptF x fmt = (x, true) := fun x => by unfold keptF; rw [if_neg h2, if_neg h3, if_neg (by omega)]
  refine ⟨?_, ?_⟩
  · unfold keepsAll
    rw [List.all_eq_true]
    intro x _
    rw [hk]
  · conv => rhs; rw [← List.map_id l]
    exact List.map_congr_left (fun x _ => by rw [hk]; rfl)
theorem one_proj (l : List Nd) (fmt : Int) (h1 : l.length = 1) : keepsAll l fmt = (keptF (rdN l 0) fmt).2 ∧ l.map (fun x => (keptF x fmt).1) = [(keptF (rdN l 0) fmt).1] := by
  match l, h1 with
  | [x], _ =>
    have : rdN [x] 0 = x := rfl
    rw [this]
    refine ⟨?_, rfl⟩
    unfold keepsAll
    simp
theorem K_mode {w : World} {x : Nd} {cs : List Value} (h : kN.K w x cs) (v : Int) : kN.K w ⟨x.f0, x.f1, x.f2, v, x.f4⟩ (cs.set 3 (.int .i64 v)) := by
  obtain ⟨A2, c2, rfl, l2, g2⟩ := kN_open h
  exact kN_mk w ⟨x.f0, x.f1, x.f2, v, x.f4⟩ l2 g2
theorem K_time {w : World} {x : Nd} {cs : List Value} (h : kN.K w x cs) (v : Int) : kN.K w ⟨x.f0, x.f1, x.f2, x.f3, v⟩ (cs.set 4 (.int .i64 v)) := by
  obtain ⟨A2, c2, rfl, l2, g2⟩ := kN_open h
  exact kN_mk w ⟨x.f0, x.f1, x.f2, x.f3, v⟩ l2 g2
/-- One node alone, its cells. -/
theorem one_row {w W : World} {base : Nat} {v : Value} {l : List Nd} (h1 : l.length = 1) (hR : (Kd.fixed kN w).R 35 W base (fun _ => True) v l) :
    ∃ g cap, v = .slice (some ⟨g, 0, none⟩) 1 cap ∧ base ≤ g ∧ g < W.heap.size ∧ GRow W base g cap 1 (fun _ cs => kN.K w (rdN l 0) cs) := by
  obtain ⟨g, cap, rfl, hg, hlt, _⟩ := Kd.R_form hR (by omega)
  have hG := GRow.of_fixed hR
  rw [h1] at hG
  refine ⟨g, cap, by rw [h1], hg, hlt, hG.imp (fun j cs hj h => h _ ?_)⟩
  obtain rfl : j = 0 := by omega
  match l, h1 with
  | [x], _ => rfl
theorem one_back {w W : World} {base g cap : Nat} {x : Nd} (h : GRow W base g cap 1 (fun _ cs => kN.K w x cs)) : (Kd.fixed kN w).R 35 W base (fun _ => True) (.slice (some ⟨g, 0, none⟩) 1 cap) [x] :=
  GRow.to_fixed (l := [x]) (h.imp (fun j cs hj h y hy => by
    obtain rfl : j = 0 := by simpa using hj
    obtain rfl := Option.some.inj hy
    exact h))
theorem one_set {w W : World} {base g cap : Nat} {x y : Nd} (h : GRow W base g cap 1 (fun _ cs => kN.K w x cs)) (i : Nat) (v : Value) (hi : i < 5) (hk : ∀ cs, kN.K w x cs → kN.K w y (cs.set i v)) :
    GRow (W.setCell ⟨g, i, none⟩ v) base g cap 1 (fun _ cs => kN.K w y cs) ∧ W.grownBy (W.setCell ⟨g, i, none⟩ v) (some g) := by
  have h2 := GRow.set (E' := fun j cs => j = 0 → kN.K w y cs) h 0 i v hi (fun cs h _ => hk cs h) (fun j cs hj _ h0 => absurd h0 hj)
  rw [Nat.zero_mul, Nat.zero_add] at h2
  exact ⟨h2.1.imp (fun j cs hj h => h (by omega)), h2.2⟩
theorem below_set {w W W1 : World} {g : Nat} (h : Below w.heap.size w W) (hg : w.heap.size ≤ g) (hw : W.grownBy W1 (some g)) : Below w.heap.size w W1 :=
  h.grown hw h.size (fun q e => by injection e with e; omega)
theorem row_facts {W : World} {base g cap : Nat} {E : Nat → List Value → Prop} {w : World} {x : Nd} (h : GRow W base g cap 1 (fun _ cs => kN.K w x cs)) : (∃ v3 v4, W.cell? ⟨g, 3, none⟩ = some v3 ∧ W.cell? ⟨g, 4, none⟩ = some v4) ∧ W.frozen? ⟨g, 3, none⟩ = false ∧ W.frozen? ⟨g, 4, none⟩ = false := by
  obtain ⟨cs, hE, hcell, hfr⟩ := h.at_ 0 (by omega)
  obtain ⟨A2, c2, rfl, _, _⟩ := kN_open hE
  exact ⟨⟨_, _, hcell 3 _ rfl, hcell 4 _ rfl⟩, hfr 3, hfr 4⟩
theorem append_own (w0 w W : World) (A : Option Addr) (l : List Nd) (hC : kN.C w0 A l.length l) (h0 : Below w0.heap.size w0 w) (hb : Below w.heap.size w W) :
    (Kd.fixed kN w0).R 35 (W.alloc (.cells #[] 35)) w.heap.size (fun _ => True) (.slice (some ⟨W.heap.size, 0, none⟩) 0 0) [] ∧ ReadsRow (kN.K w0) 5 (W.alloc (.cells #[] 35)) A l.length l := by
  refine ⟨?_, ?_⟩
  · have h := World.ownsRow_lit (base := w.heap.size) (e := 35) (size := 5) W #[] 0 hb.size (by decide) (by simp)
    exact ⟨fun _ _ => trivial, [], h, Reps.none _ _⟩
  · exact ReadsRow.imp_ hC (balloc (bgo h0 hb) _) (fun _ _ h => h)
set_option maxRecDepth 100000 in
set_option maxHeartbeats 16000000 in
theorem refProject_calls (A : Option Addr) (c : Nat) (l : List Nd) (fmt : Int) (w0 w : World) (hC0 : kN.C w0 A l.length l) (h0w : Below w0.heap.size w0 w) (hok : ∀ x ∈ l, Ok x) (hc : l.length ≤ c) (hl : l.length * 64 ≤ 140737488355328) (hl2 : l.length ≤ 140737488351232) :
    Calls Tryd.prog 9 #[.slice A l.length c, .int .i64 fmt] w (ProjPost l fmt w0 w) := by
  have hC := Kd.C_below hC0 h0w
  have HP := Lib.hid (show projF l fmt = if fmt < 1 ∨ 6 < fmt then ([], 16) else if (chk l).2 ≠ 0 then ([], 21) else if 3 ≤ fmt ∧ fmt ≤ 5 ∧ l.length ≠ 1 then ([], 22) else if fmt = 2 ∧ 65535 < l.length then ([], 22) else if keepsAll l fmt = true then (l.map (fun x => (keptF x fmt).1), 0) else ([], 22) from rfl)
  by_cases ho : fmt < 1 ∨ 6 < fmt
  · have hE := Lib.hid (show projF l fmt = ([], 16) by rw [HP.out, if_pos ho])
    clear hC hC0 hok HP
    rcases ho with ho | ho
    all_goals
      go_enter Tryd.func9, Tryd.ntmps9
      go_wp2
      go_ret2
      exact post_none hE.out (Below.refl _ _)
  have HCK := Lib.hid (refCheck_calls A c l w hC hok hc hl2)
  by_cases he : (chk l).2 = 0
  · rw [he] at HCK
    have HP2 := Lib.hid (show projF l fmt = if 3 ≤ fmt ∧ fmt ≤ 5 ∧ l.length ≠ 1 then ([], 22) else if fmt = 2 ∧ 65535 < l.length then ([], 22) else if keepsAll l fmt = true then (l.map (fun x => (keptF x fmt).1), 0) else ([], 22) by rw [HP.out, if_neg ho, if_neg (by simpa using he)])
    have HAO := Lib.hid (fun W => append_own w0 w W A l hC0 h0w)
    have HC := Lib.hid hC
    have HOK := Lib.hid hok
    have hval := Lib.hid (fun x hx => (tree_is l he).2.2 x hx)
    clear hC hC0 hok he HP
    generalize (chk l).1 = at_ at *
    have hf : fmt = 1 ∨ fmt = 6 ∨ fmt = 2 ∨ fmt = 3 ∨ fmt = 4 ∨ fmt = 5 := by omega
    clear ho
    have hone : Hid (l.length = 1 → ∀ W, Below w.heap.size w W → ∃ ad A2 c2, A = some ad ∧ W.cell? ad = some (.int .i64 (rdN l 0).f0) ∧ W.cell? ⟨ad.block, ad.off + 1, none⟩ = some (.string (rdN l 0).f1) ∧ W.cell? ⟨ad.block, ad.off + 4, none⟩ = some (.int .i64 (rdN l 0).f4)) := Lib.hid (fun h W hW => by
      obtain ⟨ad, A2, c2, hA, c0, c1, c2', c3, c4, _, _⟩ := atN (Kd.C_below HC.out hW) 0 (by omega) (by omega)
      have ha : ad.add 0 = ad := by cases ad; simp [Addr.add]
      simp only [Int.toNat_zero, Nat.zero_mul, ha] at c0 c1 c4
      exact ⟨ad, A2, c2, hA, c0, c1, c4⟩)
    rcases hf with rfl | rfl | rfl | rfl | rfl | rfl
    all_goals
      go_enter Tryd.func9, Tryd.ntmps9
      go_upto_region 7 with (first
        | (go_at_call 16; refine HCK.out.mono ?_; rintro e w1 ⟨rfl, hb1⟩; have HAW := Lib.hid (HAO.out _ hb1))
        | (at_builtin; refine Kd.R_append_rows (Kd.fixed kN w0) (Rr := kN.K w0) (w0 := w) w.heap.size rfl (.tmp 27) (.tmp 28) 22 35 (.agg #[.int .i64 0, .string ⟨#[]⟩, .slice none 0 0, .int .i64 0, .int .i64 0]) 64 rfl Tryd.underlying22 infoN rfl (show 0 < 5 by decide) (by omega) _ [] l A l.length c (fun _ => True) (fun _ => False) rfl rfl HAW.out.1 HAW.out.2 (fun _ _ h => h) (fun _ h => h.elim) (fun _ _ => trivial) (balloc hb1 _) (by have := hb1.size; simp; omega) (by simp; omega) ?_; intro v1 w2 hR1 hb2 hg1 hat1; rw [List.nil_append] at hR1; have HR1 := Lib.hid hR1; have HB := Lib.hid hb2; clear hR1 hg1 hat1))
      clear HCK HAO hb1 hb2 HAW
    · have hid := kept_id l 1 (by decide) (by decide) (by decide) (by decide)
      have hE := Lib.hid (show projF l 1 = (l, 0) by rw [HP2.out, if_neg (by omega), if_neg (by omega), if_pos hid.1, hid.2])
      clear HP2 hid hval
      by_cases h1 : l.length = 1
      · obtain ⟨ad, A2, c2, rfl, c0, c1, c4⟩ := hone.out h1 _ HB.out
        generalize rdN l 0 = x at *
        go_wp2
        all_goals
          go_ret2
          exact post_row hE.out HR1.out HB.out
      · have h1' : ((l.length : Int) == 1) = false := by simp; omega
        go_wp2
        go_ret2
        exact post_row hE.out HR1.out HB.out
    · have hid := kept_id l 6 (by decide) (by decide) (by decide) (by decide)
      have hE := Lib.hid (show projF l 6 = (l, 0) by rw [HP2.out, if_neg (by omega), if_neg (by omega), if_pos hid.1, hid.2])
      clear HP2 hid hval
      by_cases h1 : l.length = 1
      · obtain ⟨ad, A2, c2, rfl, c0, c1, c4⟩ := hone.out h1 _ HB.out
        generalize rdN l 0 = x at *
        go_wp2
        all_goals
          go_ret2
          exact post_row hE.out HR1.out HB.out
      · have h1' : ((l.length : Int) == 1) = false := by simp; omega
        go_wp2
        go_ret2
        exact post_row hE.out HR1.out HB.out
    · by_cases hbig : 65535 < l.length
      · have h1' : ((l.length : Int) == 1) = false := by simp; omega
        have hE := Lib.hid (show projF l 2 = ([], 22) by rw [HP2.out, if_neg (by omega), if_pos ⟨by trivial, hbig⟩])
        obtain ⟨g, cap, rfl, hg, hgl, _⟩ := Kd.R_form HR1.out (by omega)
        clear HP2
        go_wp2
        go_ret2
        exact post_none hE.out HB.out
      have HP3 := Lib.hid (show projF l 2 = if keepsAll l 2 = true then (l.map (fun x => (keptF x 2).1), 0) else ([], 22) by rw [HP2.out, if_neg (by omega), if_neg (by omega)])
      clear HP2 hval
      by_cases h0 : l.length = 0
      · obtain rfl : l = [] := List.eq_nil_of_length_eq_zero h0
        have hE := Lib.hid (show projF [] 2 = ([], 0) by rw [HP3.out]; rfl)
        obtain ⟨A1, c1, rfl, _, _⟩ := Kd.R_reads HR1.out
        clear HP3 hone HOK HC
        go_wp2
        refine wp_loop_rounds 1 ?_
        rw [rounds_succ]
        go_wp2
        go_ret2
        exact post_row hE.out HR1.out HB.out
      have hbig' : ¬ 65535 < (l.length : Int) := by omega
      by_cases h1 : l.length = 1
      · obtain ⟨ad, A2, c2, rfl, c0, c1, c4⟩ := hone.out h1 _ HB.out
        have h1' : ((l.length : Int) == 1) = true := by simp; omega
        clear h1 hone HOK HC
        obtain ⟨g, cap, rfl, hg, hgl, _⟩ := Kd.R_form HR1.out (by omega)
        go_upto_region 8 with (fail)
        have HG0 := Lib.hid ((GRow.of_fixed HR1.out).imp (E' := KeptK l 2 w0 0) (fun j cs _ h x hx => by rw [if_neg (by omega)]; exact h x hx))
        clear HR1
        go_wp2
        go_loopw [10] (fun i wr => ∃ k : Nat, i = .int .i64 k ∧ k ≤ l.length ∧ Hid (GRow wr w.heap.size g cap l.length (KeptK l 2 w0 k)) ∧ Below w.heap.size w wr ∧ g < wr.heap.size ∧ Hid (keepsAll (l.take k) 2 = true)) (fun i _ => (l.length - intOf i).toNat)
        case atStart => exact ⟨0, rfl, by omega, HG0, HB.out, hgl, Lib.hid rfl⟩
        case round =>
          obtain ⟨k, rfl, hk, hG, hbr, hgr, hall⟩ := hrel
          by_cases hlt : k < l.length
          · obtain ⟨cs, hE, hcell, hfr⟩ := hG.out.at_ k hlt
            have hxk : l[k]? = some (rdN l (k : Int)) := by
              unfold rdN
              rw [Int.toNat_natCast, List.getD_eq_getElem?_getD, List.getElem?_eq_getElem hlt]
              rfl
            have hE2 := hE _ hxk
            rw [if_neg (by omega)] at hE2
            obtain ⟨A3, c3, rfl, _, _⟩ := kN_open hE2
            have q4 := hcell 4 _ rfl
            have HFR := Lib.hid (hfr (k * 5 + 4))
            have k0 : (0 : Int) ≤ (k : Int) := by omega
            have k1 : (k : Int) < l.length := by omega
            have HXK := Lib.hid hxk
            have HTK := Lib.hid (take_rdN l k hlt)
            have HD := Lib.hid (fun W => refDos_calls (rdN l (k : Int)).f4 W)
            have HO2 := Lib.hid (fun W => refOfDos_calls (dosF (rdN l (k : Int)).f4).1 (dosF (rdN l (k : Int)).f4).2.1 W)
            have HKF := Lib.hid (show keptF (rdN l (k : Int)) 2 = if (dosF (rdN l (k : Int)).f4).2.2 = 0 then (⟨(rdN l (k : Int)).f0, (rdN l (k : Int)).f1, (rdN l (k : Int)).f2, (rdN l (k : Int)).f3, (ofDosF (dosF (rdN l (k : Int)).f4).1 (dosF (rdN l (k : Int)).f4).2.1).1⟩, true) else (rdN l (k : Int), false) from rfl)
            clear hE hE2 hcell hfr hxk c0 c1 c4
            by_cases hd : (dosF (rdN l (k : Int)).f4).2.2 = 0
            · rw [hd] at HD
              have HKY := Lib.hid (show keptF (rdN l (k : Int)) 2 = (⟨(rdN l (k : Int)).f0, (rdN l (k : Int)).f1, (rdN l (k : Int)).f2, (rdN l (k : Int)).f3, (ofDosF (dosF (rdN l (k : Int)).f4).1 (dosF (rdN l (k : Int)).f4).2.1).1⟩, true) by rw [HKF.out, if_pos hd])
              have HALL := Lib.hid (show keepsAll (l.take (k + 1)) 2 = true by
                rw [HTK.out]
                unfold keepsAll
                rw [List.all_append]
                have := hall.out
                unfold keepsAll at this
                rw [this]
                simp [HKY.out])
              clear hd HKF HTK hall
              generalize (ofDosF (dosF (rdN l (k : Int)).f4).1 (dosF (rdN l (k : Int)).f4).2.1) = od at *
              generalize (dosF (rdN l (k : Int)).f4) = dd at *
              generalize hx : rdN l (k : Int) = x at *
              clear hx
              go_wp2_with (first
                | (go_at_call 21; refine (HD.out _).mono ?_; rintro e w3 ⟨rfl, hb3⟩; have HB3 := Lib.hid hb3; clear hb3)
                | (go_at_call 22; refine (HO2.out _).mono ?_; rintro e w4 ⟨rfl, hb4⟩; have HB4 := Lib.hid (bgo HB3.out hb4); have q5 := bkeep HB4.out q4; have q6 := (HB4.out.frozen (p := ⟨g, k * 5 + 4, none⟩) hgr).trans HFR.out; clear hb4))
              have HN := Lib.hid (GRow.set (E' := KeptK l 2 w0 (k + 1)) (hG.out.below HB4.out) k 4 (.int .i64 od.1) (by omega)
                (fun cs h y hy => by
                  obtain rfl := Option.some.inj (HXK.out.symm.trans hy)
                  have h1 := h _ hy
                  rw [if_neg (by omega)] at h1
                  rw [if_pos (by omega), HKY.out]
                  exact K_time h1 od.1)
                (fun j cs hj h y hy => by
                  have h1 := h y hy
                  have h2 : (if j < k + 1 then (keptF y 2).1 else y) = (if j < k then (keptF y 2).1 else y) := by
                    by_cases hjk : j < k
                    · rw [if_pos hjk, if_pos (by omega)]
                    · rw [if_neg hjk, if_neg (by omega)]
                  rw [h2]
                  exact h1))
              have HBN := Lib.hid (below_set (bgo hbr HB4.out) hg HN.out.2)
              have hgs : g < w4.heap.size := by have := HB4.out.size; omega
              clear q4 q5 q6 hbr
              go_roundw
              case rel => exact ⟨k + 1, by go_num, by omega, Lib.hid HN.out.1, HBN.out, by simpa using hgs, HALL⟩
              case measure => simp [intOf]; omega
            · have hz : ((dosF (rdN l (k : Int)).f4).2.2 != 0) = true := by simpa using hd
              have hPE := Lib.hid (show projF l 2 = ([], 22) by
                rw [HP3.out, if_neg]
                intro h
                unfold keepsAll at h
                rw [List.all_eq_true] at h
                have := h _ (List.mem_of_getElem? HXK.out)
                rw [HKF.out, if_neg hd] at this
                cases this)
              clear hd HKF HTK hall HO2 HXK
              generalize (dosF (rdN l (k : Int)).f4) = dd at *
              generalize rdN l (k : Int) = x at *
              go_wp2_with (go_at_call 21; refine (HD.out _).mono ?_; rintro e w3 ⟨rfl, hb3⟩)
              go_ret2
              exact post_none hPE.out (bgo hbr hb3)
          · obtain rfl : k = l.length := by omega
            have hPE := Lib.hid (show projF l 2 = (l.map (fun x => (keptF x 2).1), 0) by
              rw [HP3.out, if_pos]
              have := hall.out
              rwa [List.take_length] at this)
            have hR2 := Lib.hid (show (Kd.fixed kN w0).R 35 wr w.heap.size (fun _ => True) (.slice (some ⟨g, 0, none⟩) l.length cap) (l.map (fun x => (keptF x 2).1)) by
              have h := GRow.to_fixed (w0 := w0) (W := wr) (base := w.heap.size) (g := g) (cap := cap) (l := l.map (fun x => (keptF x 2).1)) (by
                rw [List.length_map]
                refine hG.out.imp (fun j cs hj h y hy => ?_)
                rw [List.getElem?_map] at hy
                obtain ⟨z, hz, rfl⟩ := Option.map_eq_some_iff.1 hy
                have h1 := h z hz
                rw [if_pos hj] at h1
                exact h1)
              rw [List.length_map] at h
              exact h)
            clear hall hG
            go_wp2
            go_ret2
            exact post_row hPE.out hR2.out hbr
      · have h1' : ((l.length : Int) == 1) = false := by simp; omega
        clear h1 hone HOK HC
        obtain ⟨g, cap, rfl, hg, hgl, _⟩ := Kd.R_form HR1.out (by omega)
        go_upto_region 8 with (fail)
        have HG0 := Lib.hid ((GRow.of_fixed HR1.out).imp (E' := KeptK l 2 w0 0) (fun j cs _ h x hx => by rw [if_neg (by omega)]; exact h x hx))
        clear HR1
        go_wp2
        go_loopw [10] (fun i wr => ∃ k : Nat, i = .int .i64 k ∧ k ≤ l.length ∧ Hid (GRow wr w.heap.size g cap l.length (KeptK l 2 w0 k)) ∧ Below w.heap.size w wr ∧ g < wr.heap.size ∧ Hid (keepsAll (l.take k) 2 = true)) (fun i _ => (l.length - intOf i).toNat)
        case atStart => exact ⟨0, rfl, by omega, HG0, HB.out, hgl, Lib.hid rfl⟩
        case round =>
          obtain ⟨k, rfl, hk, hG, hbr, hgr, hall⟩ := hrel
          by_cases hlt : k < l.length
          · obtain ⟨cs, hE, hcell, hfr⟩ := hG.out.at_ k hlt
            have hxk : l[k]? = some (rdN l (k : Int)) := by
              unfold rdN
              rw [Int.toNat_natCast, List.getD_eq_getElem?_getD, List.getElem?_eq_getElem hlt]
              rfl
            have hE2 := hE _ hxk
            rw [if_neg (by omega)] at hE2
            obtain ⟨A3, c3, rfl, _, _⟩ := kN_open hE2
            have q4 := hcell 4 _ rfl
            have HFR := Lib.hid (hfr (k * 5 + 4))
            have k0 : (0 : Int) ≤ (k : Int) := by omega
            have k1 : (k : Int) < l.length := by omega
            have HXK := Lib.hid hxk
            have HTK := Lib.hid (take_rdN l k hlt)
            have HD := Lib.hid (fun W => refDos_calls (rdN l (k : Int)).f4 W)
            have HO2 := Lib.hid (fun W => refOfDos_calls (dosF (rdN l (k : Int)).f4).1 (dosF (rdN l (k : Int)).f4).2.1 W)
            have HKF := Lib.hid (show keptF (rdN l (k : Int)) 2 = if (dosF (rdN l (k : Int)).f4).2.2 = 0 then (⟨(rdN l (k : Int)).f0, (rdN l (k : Int)).f1, (rdN l (k : Int)).f2, (rdN l (k : Int)).f3, (ofDosF (dosF (rdN l (k : Int)).f4).1 (dosF (rdN l (k : Int)).f4).2.1).1⟩, true) else (rdN l (k : Int), false) from rfl)
            clear hE hE2 hcell hfr hxk
            by_cases hd : (dosF (rdN l (k : Int)).f4).2.2 = 0
            · rw [hd] at HD
              have HKY := Lib.hid (show keptF (rdN l (k : Int)) 2 = (⟨(rdN l (k : Int)).f0, (rdN l (k : Int)).f1, (rdN l (k : Int)).f2, (rdN l (k : Int)).f3, (ofDosF (dosF (rdN l (k : Int)).f4).1 (dosF (rdN l (k : Int)).f4).2.1).1⟩, true) by rw [HKF.out, if_pos hd])
              have HALL := Lib.hid (show keepsAll (l.take (k + 1)) 2 = true by
                rw [HTK.out]
                unfold keepsAll
                rw [List.all_append]
                have := hall.out
                unfold keepsAll at this
                rw [this]
                simp [HKY.out])
              clear hd HKF HTK hall
              generalize (ofDosF (dosF (rdN l (k : Int)).f4).1 (dosF (rdN l (k : Int)).f4).2.1) = od at *
              generalize (dosF (rdN l (k : Int)).f4) = dd at *
              generalize hx : rdN l (k : Int) = x at *
              clear hx
              go_wp2_with (first
                | (go_at_call 21; refine (HD.out _).mono ?_; rintro e w3 ⟨rfl, hb3⟩; have HB3 := Lib.hid hb3; clear hb3)
                | (go_at_call 22; refine (HO2.out _).mono ?_; rintro e w4 ⟨rfl, hb4⟩; have HB4 := Lib.hid (bgo HB3.out hb4); have q5 := bkeep HB4.out q4; have q6 := (HB4.out.frozen (p := ⟨g, k * 5 + 4, none⟩) hgr).trans HFR.out; clear hb4))
              have HN := Lib.hid (GRow.set (E' := KeptK l 2 w0 (k + 1)) (hG.out.below HB4.out) k 4 (.int .i64 od.1) (by omega)
                (fun cs h y hy => by
                  obtain rfl := Option.some.inj (HXK.out.symm.trans hy)
                  have h1 := h _ hy
                  rw [if_neg (by omega)] at h1
                  rw [if_pos (by omega), HKY.out]
                  exact K_time h1 od.1)
                (fun j cs hj h y hy => by
                  have h1 := h y hy
                  have h2 : (if j < k + 1 then (keptF y 2).1 else y) = (if j < k then (keptF y 2).1 else y) := by
                    by_cases hjk : j < k
                    · rw [if_pos hjk, if_pos (by omega)]
                    · rw [if_neg hjk, if_neg (by omega)]
                  rw [h2]
                  exact h1))
              have HBN := Lib.hid (below_set (bgo hbr HB4.out) hg HN.out.2)
              have hgs : g < w4.heap.size := by have := HB4.out.size; omega
              clear q4 q5 q6 hbr
              go_roundw
              case rel => exact ⟨k + 1, by go_num, by omega, Lib.hid HN.out.1, HBN.out, by simpa using hgs, HALL⟩
              case measure => simp [intOf]; omega
            · have hz : ((dosF (rdN l (k : Int)).f4).2.2 != 0) = true := by simpa using hd
              have hPE := Lib.hid (show projF l 2 = ([], 22) by
                rw [HP3.out, if_neg]
                intro h
                unfold keepsAll at h
                rw [List.all_eq_true] at h
                have := h _ (List.mem_of_getElem? HXK.out)
                rw [HKF.out, if_neg hd] at this
                cases this)
              clear hd HKF HTK hall HO2 HXK
              generalize (dosF (rdN l (k : Int)).f4) = dd at *
              generalize rdN l (k : Int) = x at *
              go_wp2_with (go_at_call 21; refine (HD.out _).mono ?_; rintro e w3 ⟨rfl, hb3⟩)
              go_ret2
              exact post_none hPE.out (bgo hbr hb3)
          · obtain rfl : k = l.length := by omega
            have hPE := Lib.hid (show projF l 2 = (l.map (fun x => (keptF x 2).1), 0) by
              rw [HP3.out, if_pos]
              have := hall.out
              rwa [List.take_length] at this)
            have hR2 := Lib.hid (show (Kd.fixed kN w0).R 35 wr w.heap.size (fun _ => True) (.slice (some ⟨g, 0, none⟩) l.length cap) (l.map (fun x => (keptF x 2).1)) by
              have h := GRow.to_fixed (w0 := w0) (W := wr) (base := w.heap.size) (g := g) (cap := cap) (l := l.map (fun x => (keptF x 2).1)) (by
                rw [List.length_map]
                refine hG.out.imp (fun j cs hj h y hy => ?_)
                rw [List.getElem?_map] at hy
                obtain ⟨z, hz, rfl⟩ := Option.map_eq_some_iff.1 hy
                have h1 := h z hz
                rw [if_pos hj] at h1
                exact h1)
              rw [List.length_map] at h
              exact h)
            clear hall hG
            go_wp2
            go_ret2
            exact post_row hPE.out hR2.out hbr
    · by_cases h1 : l.length = 1
      · obtain ⟨hk1, hk2⟩ := one_proj l 3 h1
        have HP3 := Lib.hid (show projF l 3 = if (keptF (rdN l 0) 3).2 = true then ([(keptF (rdN l 0) 3).1], 0) else ([], 22) by rw [HP2.out, if_neg (by omega), if_neg (by omega), hk1, hk2])
        have hvx := (hval.out (rdN l 0) (rdN_mem l 0 (by omega))).1
        have hp1 := pcs_one (rdN l 0).f1 hvx
        have HNM := Lib.hid (fun W => refNames_calls (rdN l 0).f1 W)
        rw [hvx, if_pos rfl] at HNM
        have HKF := Lib.hid (show keptF (rdN l 0) 3 = if (rdN l 0).f0 = 2 ∧ (parB (rdN l 0).f1).2 = false ∧ 0 ≤ (rdN l 0).f4 ∧ (rdN l 0).f4 ≤ 4294967295 then (⟨(rdN l 0).f0, (rdN l 0).f1, (rdN l 0).f2, 420, (rdN l 0).f4⟩, true) else (rdN l 0, false) from rfl)
        obtain ⟨ad, A2, c2, rfl, c0, c1, c4⟩ := hone.out h1 _ HB.out
        obtain ⟨g, cap, rfl, hg, hgl, hG⟩ := one_row h1 HR1.out
        have HG := Lib.hid hG
        clear hk1 hk2 hvx HP2 hval hone hG HR1 HOK HC
        rw [h1] at *
        have HH1 := Lib.hid h1
        clear h1
        generalize rdN l 0 = x at *
        by_cases h2 : x.f0 = 2
        · have h2' : (x.f0 == 2) = true := by simpa using h2
          cases h3 : (parB x.f1).2
          · have h3' : (((pcs x.f1).length : Int) != 1) = false := by have := hp1.2 h3; simp; omega
            clear hp1
            by_cases h4 : x.f4 < 0
            · have hE := Lib.hid (show projF l 3 = ([], 22) by rw [HP3.out, show keptF x 3 = (x, false) by rw [HKF.out, if_neg (by omega)]]; rfl)
              have h4' : decide (x.f4 < 0) = true := decide_eq_true h4
              clear h2 h3 HP3 HKF
              go_wp2_with (go_at_call 23; refine (HNM.out _).mono ?_; rintro e w3 ⟨A3, c3, rfl, hb3⟩; have d4 := bkeep hb3 c4)
              go_ret2
              exact post_none hE.out (bgo HB.out hb3)
            · by_cases h5 : 4294967295 < x.f4
              · have hE := Lib.hid (show projF l 3 = ([], 22) by rw [HP3.out, show keptF x 3 = (x, false) by rw [HKF.out, if_neg (by omega)]]; rfl)
                have h4' : decide (x.f4 < 0) = false := decide_eq_false h4
                clear h2 h3 HP3 HKF
                go_wp2_with (go_at_call 23; refine (HNM.out _).mono ?_; rintro e w3 ⟨A3, c3, rfl, hb3⟩; have d4 := bkeep hb3 c4)
                go_ret2
                exact post_none hE.out (bgo HB.out hb3)
              · have hE := Lib.hid (show projF l 3 = ([⟨x.f0, x.f1, x.f2, 420, x.f4⟩], 0) by rw [HP3.out, show keptF x 3 = (⟨x.f0, x.f1, x.f2, 420, x.f4⟩, true) by rw [HKF.out, if_pos ⟨h2, h3, by omega, by omega⟩]]; rfl)
                have h4' : decide (x.f4 < 0) = false := decide_eq_false h4
                have h5' : decide (4294967295 < x.f4) = false := decide_eq_false h5
                clear h2 h3 HP3 HKF
                go_wp2_with (go_at_call 23; refine (HNM.out _).mono ?_; rintro e w3 ⟨A3, c3, rfl, hb3⟩; have d4 := bkeep hb3 c4; have HG3 := Lib.hid (HG.out.below hb3); obtain ⟨⟨v3, v4, r3, r4⟩, r5, r6⟩ := row_facts (E := fun _ _ => True) HG3.out)
                go_ret2
                have HS := one_set HG3.out 3 (.int .i64 420) (by omega) (fun cs h => K_mode h 420)
                exact post_row hE.out (one_back HS.1) (below_set (bgo HB.out hb3) hg HS.2)
          · have h3' : (((pcs x.f1).length : Int) != 1) = true := by
              have : ¬ (pcs x.f1).length = 1 := fun h => by rw [hp1.1 h] at h3; cases h3
              simp; omega
            have hE := Lib.hid (show projF l 3 = ([], 22) by rw [HP3.out, show keptF x 3 = (x, false) by rw [HKF.out, if_neg (by rw [h3]; simp)]]; rfl)
            clear hp1 h2 h3 HP3 HKF
            go_wp2_with (go_at_call 23; refine (HNM.out _).mono ?_; rintro e w3 ⟨A3, c3, rfl, hb3⟩; have d4 := bkeep hb3 c4)
            go_ret2
            exact post_none hE.out (bgo HB.out hb3)
        · have h2' : (x.f0 == 2) = false := by simpa using h2
          have hE := Lib.hid (show projF l 3 = ([], 22) by rw [HP3.out, show keptF x 3 = (x, false) by rw [HKF.out, if_neg (fun h => h2 h.1)]]; rfl)
          clear h2 HP3 HKF hp1
          go_wp2
          go_ret2
          exact post_none hE.out HB.out
      · have h1' : ((l.length : Int) == 1) = false := by simp; omega
        have hE := Lib.hid (show projF l 3 = ([], 22) by rw [HP2.out, if_pos ⟨by omega, by omega, h1⟩])
        clear h1 HP2
        go_wp2
        go_ret2
        exact post_none hE.out HB.out
    · by_cases h1 : l.length = 1
      · obtain ⟨hk1, hk2⟩ := one_proj l 4 h1
        have HP3 := Lib.hid (show projF l 4 = if (keptF (rdN l 0) 4).2 = true then ([(keptF (rdN l 0) 4).1], 0) else ([], 22) by rw [HP2.out, if_neg (by omega), if_neg (by omega), hk1, hk2])
        have HKF := Lib.hid (show keptF (rdN l 0) 4 = if (rdN l 0).f0 = 2 ∧ (rdN l 0).f1.toList = [100, 97, 116, 97] then (⟨(rdN l 0).f0, (rdN l 0).f1, (rdN l 0).f2, 420, 0⟩, true) else (rdN l 0, false) from rfl)
        obtain ⟨ad, A2, c2, rfl, c0, c1, c4⟩ := hone.out h1 _ HB.out
        obtain ⟨g, cap, rfl, hg, hgl, hG⟩ := one_row h1 HR1.out
        have HG := Lib.hid hG
        obtain ⟨⟨v3, v4, r3, r4⟩, r5, r6⟩ := row_facts (E := fun _ _ => True) HG.out
        clear hk1 hk2 HP2 hval hone hG HR1 HOK HC
        rw [h1] at *
        have HH1 := Lib.hid h1
        clear h1
        generalize rdN l 0 = x at *
        by_cases h2 : x.f0 = 2
        · have h2' : (x.f0 == 2) = true := by simpa using h2
          cases h3 : (x.f1.toList == [100, 97, 116, 97])
          · have hz : (x.f1.toList != [100, 97, 116, 97]) = true := by simp [bne, h3]
            have hE := Lib.hid (show projF l 4 = ([], 22) by rw [HP3.out, show keptF x 4 = (x, false) by rw [HKF.out, if_neg (fun h => by rw [h.2] at h3; simp at h3)]]; rfl)
            clear h2 HP3 HKF
            go_wp2
            go_ret2
            exact post_none hE.out HB.out
          · have hz : (x.f1.toList != [100, 97, 116, 97]) = false := by simp [bne, h3]
            have hE := Lib.hid (show projF l 4 = ([⟨x.f0, x.f1, x.f2, 420, 0⟩], 0) by rw [HP3.out, show keptF x 4 = (⟨x.f0, x.f1, x.f2, 420, 0⟩, true) by rw [HKF.out, if_pos ⟨h2, by simpa using h3⟩]]; rfl)
            clear h2 HP3 HKF
            go_wp2
            go_ret2
            have HS := one_set HG.out 3 (.int .i64 420) (by omega) (fun cs h => K_mode h 420)
            have HS2 := one_set HS.1 4 (.int .i64 0) (by omega) (fun cs h => K_time h 0)
            exact post_row hE.out (one_back HS2.1) (below_set (below_set HB.out hg HS.2) hg HS2.2)
        · have h2' : (x.f0 == 2) = false := by simpa using h2
          have hE := Lib.hid (show projF l 4 = ([], 22) by rw [HP3.out, show keptF x 4 = (x, false) by rw [HKF.out, if_neg (fun h => h2 h.1)]]; rfl)
          clear h2 HP3 HKF
          go_wp2
          go_ret2
          exact post_none hE.out HB.out
      · have h1' : ((l.length : Int) == 1) = false := by simp; omega
        have hE := Lib.hid (show projF l 4 = ([], 22) by rw [HP2.out, if_pos ⟨by omega, by omega, h1⟩])
        clear h1 HP2
        go_wp2
        go_ret2
        exact post_none hE.out HB.out
    · by_cases h1 : l.length = 1
      · obtain ⟨hk1, hk2⟩ := one_proj l 5 h1
        have HP3 := Lib.hid (show projF l 5 = if (keptF (rdN l 0) 5).2 = true then ([(keptF (rdN l 0) 5).1], 0) else ([], 22) by rw [HP2.out, if_neg (by omega), if_neg (by omega), hk1, hk2])
        have HKF := Lib.hid (show keptF (rdN l 0) 5 = if (rdN l 0).f0 = 2 ∧ (rdN l 0).f1.toList = [100, 97, 116, 97] then (⟨(rdN l 0).f0, (rdN l 0).f1, (rdN l 0).f2, 420, 0⟩, true) else (rdN l 0, false) from rfl)
        obtain ⟨ad, A2, c2, rfl, c0, c1, c4⟩ := hone.out h1 _ HB.out
        obtain ⟨g, cap, rfl, hg, hgl, hG⟩ := one_row h1 HR1.out
        have HG := Lib.hid hG
        obtain ⟨⟨v3, v4, r3, r4⟩, r5, r6⟩ := row_facts (E := fun _ _ => True) HG.out
        clear hk1 hk2 HP2 hval hone hG HR1 HOK HC
        rw [h1] at *
        have HH1 := Lib.hid h1
        clear h1
        generalize rdN l 0 = x at *
        by_cases h2 : x.f0 = 2
        · have h2' : (x.f0 == 2) = true := by simpa using h2
          cases h3 : (x.f1.toList == [100, 97, 116, 97])
          · have hz : (x.f1.toList != [100, 97, 116, 97]) = true := by simp [bne, h3]
            have hE := Lib.hid (show projF l 5 = ([], 22) by rw [HP3.out, show keptF x 5 = (x, false) by rw [HKF.out, if_neg (fun h => by rw [h.2] at h3; simp at h3)]]; rfl)
            clear h2 HP3 HKF
            go_wp2
            go_ret2
            exact post_none hE.out HB.out
          · have hz : (x.f1.toList != [100, 97, 116, 97]) = false := by simp [bne, h3]
            have hE := Lib.hid (show projF l 5 = ([⟨x.f0, x.f1, x.f2, 420, 0⟩], 0) by rw [HP3.out, show keptF x 5 = (⟨x.f0, x.f1, x.f2, 420, 0⟩, true) by rw [HKF.out, if_pos ⟨h2, by simpa using h3⟩]]; rfl)
            clear h2 HP3 HKF
            go_wp2
            go_ret2
            have HS := one_set HG.out 3 (.int .i64 420) (by omega) (fun cs h => K_mode h 420)
            have HS2 := one_set HS.1 4 (.int .i64 0) (by omega) (fun cs h => K_time h 0)
            exact post_row hE.out (one_back HS2.1) (below_set (below_set HB.out hg HS.2) hg HS2.2)
        · have h2' : (x.f0 == 2) = false := by simpa using h2
          have hE := Lib.hid (show projF l 5 = ([], 22) by rw [HP3.out, show keptF x 5 = (x, false) by rw [HKF.out, if_neg (fun h => h2 h.1)]]; rfl)
          clear h2 HP3 HKF
          go_wp2
          go_ret2
          exact post_none hE.out HB.out
      · have h1' : ((l.length : Int) == 1) = false := by simp; omega
        have hE := Lib.hid (show projF l 5 = ([], 22) by rw [HP2.out, if_pos ⟨by omega, by omega, h1⟩])
        clear h1 HP2
        go_wp2
        go_ret2
        exact post_none hE.out HB.out
  · have hE := Lib.hid (show projF l fmt = ([], 21) by rw [HP.out, if_neg ho, if_pos he])
    have hz : ((chk l).2 != 0) = true := by simpa using he
    clear hC hok HP he
    generalize chk l = ck at *
    go_enter Tryd.func9, Tryd.ntmps9
    go_wp2_with (go_at_call 16; refine HCK.out.mono ?_; rintro e w1 ⟨rfl, hb1⟩)
    all_goals
      go_ret2
      exact post_none hE.out hb1
end Go.Proofs.YtoiffnoiliknnaaDoor.Tree
