/- The law of links, plainly. No walk in it. -/
import Derived.Test.YtfnncfgdlinmcaaDoorVfsP
set_option linter.unusedVariables false
set_option linter.unusedSimpArgs false
namespace Go.Proofs.YtfnncfgdlinmcaaDoor.Vfs
open Go.RowKit Go.Proofs.YtfnncfgdlinmcaaDoor.Rout Go.Proofs.YtfnncfgdlinmcaaDoor.Node Go.Proofs.YtfnncfgdlinmcaaDoor.Tree Go.Proofs.YtfnncfgdlinmcaaDoorW.PrintWords
theorem may_link (x : Nd) (h : mayB x = true) (h1 : x.f0 ≠ 1) (h2 : x.f0 ≠ 2) : x.f0 = 3 ∧ x.f2.length ≤ 1024 := by
  unfold mayB kindB at h
  rw [if_neg h1, if_neg h2] at h
  by_cases h3 : x.f0 = 3
  · rw [if_pos h3] at h; simp at h; exact ⟨h3, by omega⟩
  · rw [if_neg h3] at h; simp at h
theorem small_tree (l : List Nd) (T : IsTree l) : Small (mapL l) := fun p n hn h1 h2 => (may_link n (T.may n (mapL_f1 _ _ _ hn).2) h1 h2).2
theorem name_ok {p : ByteArray} (h : nameB p = true) : ¬ (p.data.toList = [] ∨ p.data.toList = [46]) ∧ ¬ p.data.toList = [46, 46] ∧ 0 < p.size := by
  unfold nameB at h
  simp at h
  obtain ⟨⟨⟨⟨h1, h2⟩, h3⟩, h4⟩, h5⟩ := h
  refine ⟨fun h => ?_, fun h => h4 h, h1⟩
  rcases h with h | h
  · have := size_data p
    rw [h] at this
    simp at this
    omega
  · exact h3 h
theorem valid_pcs {s : ByteArray} (h : validB s = true) (p : ByteArray) (hp : p ∈ pcs s) : nameB p = true := by
  unfold validB at h
  simp only [Bool.and_eq_true] at h
  exact (List.all_eq_true.1 h.1.1) p hp
theorem pcs_none (s : ByteArray) (h : ∀ k : Nat, s.data.toList[k]? ≠ some 47) : pcs s = [s] := by
  unfold pcs
  rw [cut_miss _ h]
  simp [toB_data]
theorem pcs_pos {s : ByteArray} (h : validB s = true) : 0 < s.size := by
  rcases Nat.eq_zero_or_pos s.size with h0 | h0
  · have hd : s.data.toList = [] := List.eq_nil_of_length_eq_zero (by rw [size_data]; exact h0)
    have := valid_pcs h s (by rw [pcs_none s (by rw [hd]; simp)]; simp)
    have := (name_ok this).2.2
    omega
  · exact h0
theorem par_cut (s : ByteArray) (h : validB s = true) : ((parB s).2 = false ∧ (parB s).1 = emp ∧ pcs s = [s]) ∨ ((parB s).2 = true ∧ ∃ b, s = (parB s).1 ++ slash ++ b ∧ pcs s = pcs (parB s).1 ++ [b]) := by
  have get (j : Nat) (hj : j < s.size) : s.data.toList[j]? = some (s.data[j]!) := by
    rw [get_data s j hj, getElem!_pos s.data j hj]
    rfl
  rcases Lib.lastIdx_spec s 47 s.size with ⟨e, hn⟩ | ⟨i, hi, e, hc, hn⟩
  · left
    have e : Lib.lastIndexByte s 47 = -1 := e
    have hp : parB s = (emp, false) := by unfold parB; rw [if_neg (fun h => by rw [e] at h; omega)]; rfl
    rw [hp]
    refine ⟨rfl, rfl, pcs_none s (fun k hk => ?_)⟩
    have hk2 : k < s.size := by rw [← size_data]; exact (List.getElem?_eq_some_iff.1 hk).1
    rw [get k hk2] at hk
    have := hn k hk2
    rw [Option.some.inj hk] at this
    exact this rfl
  · right
    have e : Lib.lastIndexByte s 47 = (i : Int) := e
    have hp : parB s = (s.extract 0 i, true) := by unfold parB; rw [if_pos ⟨by rw [e]; omega, h⟩, e]; rfl
    rw [hp]
    have hb : s.data.toList[i]? = some 47 := by
      rw [get i hi]
      have : (s.data[i]!).toNat = 47 := by omega
      have : s.data[i]! = 47 := UInt8.toNat.inj this
      rw [this]
    have hs : s = s.extract 0 i ++ slash ++ s.extract (i + 1) s.size := by
      apply ba_ext
      rw [data_append, data_append, show slash.data.toList = [47] from rfl]
      have e1 : (s.extract 0 i).data.toList = s.data.toList.take i := by simp
      have e2 : (s.extract (i + 1) s.size).data.toList = s.data.toList.drop (i + 1) := by
        rw [ByteArray.data_extract]
        simp
        rw [List.take_of_length_le]
        rw [List.length_drop, size_data]
        omega
      rw [e1, e2, List.append_assoc, List.singleton_append]
      conv => lhs; rw [← List.take_append_drop i s.data.toList]
      congr 1
      have hl : i < s.data.toList.length := by rw [size_data]; exact hi
      rw [List.drop_eq_getElem_cons hl]
      rw [List.getElem?_eq_getElem hl] at hb
      rw [Option.some.inj hb]
    refine ⟨rfl, s.extract (i + 1) s.size, hs, ?_⟩
    have h2 : pcs (s.extract (i + 1) s.size) = [s.extract (i + 1) s.size] := by
      refine pcs_none _ (fun k hk => ?_)
      have e2 : (s.extract (i + 1) s.size).data.toList = s.data.toList.drop (i + 1) := by
        rw [ByteArray.data_extract]
        simp
        rw [List.take_of_length_le]
        rw [List.length_drop, size_data]
        omega
      rw [e2, List.getElem?_drop] at hk
      have hk2 : i + 1 + k < s.size := by rw [← size_data]; exact (List.getElem?_eq_some_iff.1 hk).1
      rw [get _ hk2] at hk
      have := hn (i + 1 + k) (by omega) hk2
      rw [Option.some.inj hk] at this
      exact this rfl
    conv => lhs; rw [hs]
    rw [pcs_mid, h2]
theorem underB_par {s b : ByteArray} (p : ByteArray) (hp : 0 < p.size) (h : s = p ++ slash ++ b) : underB p b = s := by unfold underB; rw [if_neg (by omega), h]
/-- Through folders. -/
theorem way_dir (l : List Nd) (T : IsTree l) : ∀ (n : Nat) (x : Nd), x ∈ l → x.f0 = 1 → x.f1.size ≤ n → ∀ (k fl : Nat) (r : List ByteArray), wayN (mapL l) (k + (pcs x.f1).length) emp fl (pcs x.f1 ++ r) = wayN (mapL l) k x.f1 fl r
  | n, x, hx, h0, hn, k, fl, r => by
    have hv := T.valid x hx
    have step (p b : ByteArray) (k : Nat) (hu : underB p b = x.f1) (hb : nameB b = true) : wayN (mapL l) (k + 1) p fl (b :: r) = wayN (mapL l) k x.f1 fl r := by
      rw [wayN_cons]
      unfold wayS
      rw [if_neg (name_ok hb).1, if_neg (name_ok hb).2.1, hu, T.own x hx]
      dsimp only
      rw [if_neg (by omega), if_pos h0]
    rcases par_cut x.f1 hv with ⟨h1, h2, h3⟩ | ⟨h1, b, h2, h3⟩
    · rw [h3]
      exact step emp x.f1 k (by unfold underB; rw [if_pos (show emp.size = 0 from rfl)]) (valid_pcs hv _ (by rw [h3]; simp))
    · obtain ⟨y, hy, e1, e2⟩ := T.up x hx h1
      have hyv := pcs_pos (T.valid y hy)
      rw [e1] at hyv
      have hlt : y.f1.size < x.f1.size := by
        rw [e1]
        have := congrArg ByteArray.size h2
        rw [ByteArray.size_append, ByteArray.size_append, show slash.size = 1 from rfl] at this
        omega
      have hnpos : 0 < n := by omega
      have ih := way_dir l T (n - 1) y hy e2 (by omega) (k + 1) fl (b :: r)
      rw [e1] at ih
      rw [h3, List.length_append, List.append_assoc, List.singleton_append, List.length_singleton, show k + ((pcs (parB x.f1).1).length + 1) = k + 1 + (pcs (parB x.f1).1).length by omega, ih]
      exact step _ b k (underB_par _ hyv h2) (valid_pcs hv _ (by rw [h3]; simp))
/-- Real, plainly. -/
def realF (M : NMap) (s : ByteArray) : ByteArray × Int :=
  if s.size = 0 then (emp, 0) else if validB s = false then (emp, 20) else
  if (way M (pcs s).dropLast).2 = 0 then (underB (way M (pcs s).dropLast).1 ((pcs s).getLastD emp), 0) else (emp, (way M (pcs s).dropLast).2)
def toOf (x : Nd) : ByteArray := if (parB x.f1).1.size = 0 then strOfNums x.f2 else (parB x.f1).1 ++ slash ++ strOfNums x.f2
/-- THE LAW: behind a link to a folder, as behind the folder. -/
theorem links_law (l : List Nd) (T : IsTree l) (x : Nd) (hx : x ∈ l) (h3 : x.f0 = 3) (hd : validB (strOfNums x.f2) = true) (name : ByteArray) (hv1 : validB (toOf x ++ slash ++ name) = true) (hv2 : validB (x.f1 ++ slash ++ name) = true)
    (h : (realF (mapL l) (toOf x ++ slash ++ name)).2 = 0) :
    ((realF (mapL l) (x.f1 ++ slash ++ name)).2 = 0 ∧ (realF (mapL l) (x.f1 ++ slash ++ name)).1 = (realF (mapL l) (toOf x ++ slash ++ name)).1) ∨ (realF (mapL l) (x.f1 ++ slash ++ name)).2 = 34 := by
  have hxv := T.valid x hx
  have hS := small_tree l T
  obtain ⟨nm, q, hnq⟩ : ∃ nm q, pcs name = nm ++ [q] := ⟨(pcs name).dropLast, (pcs name).getLast (pcs_ne name), (List.dropLast_concat_getLast (pcs_ne name)).symm⟩
  have hdabs : absB (strOfNums x.f2) = false := by
    cases ha : absB (strOfNums x.f2)
    · rfl
    · unfold absB at ha
      have h1 : (strOfNums x.f2).data.toList.head? = some 47 := by simpa using ha
      obtain ⟨r, hr⟩ : ∃ r, (strOfNums x.f2).data.toList = 47 :: r := by
        cases hl : (strOfNums x.f2).data.toList with
        | nil => rw [hl] at h1; simp at h1
        | cons c r => rw [hl] at h1; simp at h1; exact ⟨r, by rw [h1]⟩
      have h2 : emp ∈ pcs (strOfNums x.f2) := by unfold pcs; rw [hr]; simp [cut]; exact .inl rfl
      have := (name_ok (valid_pcs hd _ h2)).2.2
      exact absurd this (by decide)
  -- the pieces of both, with the parent's ahead
  obtain ⟨pp, b, hp1, hp2, hub, hgo⟩ : ∃ (pp : List ByteArray) (b : ByteArray), pcs x.f1 = pp ++ [b] ∧ pcs (toOf x) = pp ++ pcs (strOfNums x.f2) ∧ underB (parB x.f1).1 b = x.f1 ∧ ∀ (k fl : Nat) (r : List ByteArray), wayN (mapL l) (k + pp.length) emp fl (pp ++ r) = wayN (mapL l) k (parB x.f1).1 fl r := by
    rcases par_cut x.f1 hxv with ⟨h1, h2, h4⟩ | ⟨h1, b, h2, h4⟩
    · refine ⟨[], x.f1, h4, ?_, ?_, fun k fl r => by rw [h2]; rfl⟩
      · unfold toOf; rw [h2, if_pos (show emp.size = 0 from rfl)]; rfl
      · rw [h2]; rfl
    · obtain ⟨y, hy, e1, e2⟩ := T.up x hx h1
      have hyv := pcs_pos (T.valid y hy)
      rw [e1] at hyv
      refine ⟨pcs (parB x.f1).1, b, h4, ?_, underB_par _ hyv h2, fun k fl r => ?_⟩
      · unfold toOf; rw [if_neg (by omega), pcs_mid]
      · have := way_dir l T _ y hy e2 (Nat.le_refl _) k fl r
        rw [e1] at this
        exact this
  have hb : nameB b = true := valid_pcs hxv _ (by rw [hp1]; simp)
  have e1 : pcs (toOf x ++ slash ++ name) = (pp ++ (pcs (strOfNums x.f2) ++ nm)) ++ [q] := by rw [pcs_mid, hp2, hnq]; simp
  have e2 : pcs (x.f1 ++ slash ++ name) = (pp ++ (b :: nm)) ++ [q] := by rw [pcs_mid, hp1, hnq]; simp
  have s1 : ¬ (toOf x ++ slash ++ name).size = 0 := by have := pcs_pos hv1; omega
  have s2 : ¬ (x.f1 ++ slash ++ name).size = 0 := by have := pcs_pos hv2; omega
  unfold realF at h ⊢
  rw [if_neg s1, if_neg (by rw [hv1]; simp), e1, List.dropLast_concat, List.getLastD_concat] at h
  rw [if_neg s1, if_neg s2, if_neg (show ¬ validB (x.f1 ++ slash ++ name) = false by rw [hv2]; simp), if_neg (show ¬ validB (toOf x ++ slash ++ name) = false by rw [hv1]; simp), e1, e2, List.dropLast_concat, List.dropLast_concat, List.getLastD_concat, List.getLastD_concat]
  -- both ways from the parent on, at one number of steps
  have w1 : ∀ K, mu 0 (pp ++ (pcs (strOfNums x.f2) ++ nm)) < K → way (mapL l) (pp ++ (pcs (strOfNums x.f2) ++ nm)) = wayN (mapL l) K emp 0 (pp ++ (pcs (strOfNums x.f2) ++ nm)) := fun K hK => wayN_enough _ hS _ _ _ _ _ (by omega) (by unfold mu; omega) hK
  have w2 : ∀ K, mu 0 (pp ++ (b :: nm)) < K → way (mapL l) (pp ++ (b :: nm)) = wayN (mapL l) K emp 0 (pp ++ (b :: nm)) := fun K hK => wayN_enough _ hS _ _ _ _ _ (by omega) (by unfold mu; omega) hK
  generalize hK : mu 0 (pp ++ (pcs (strOfNums x.f2) ++ nm)) + mu 0 (pp ++ (b :: nm)) + 1 = K at *
  have v1 := w1 (K + pp.length) (by omega)
  have v2 := w2 (K + 1 + pp.length) (by omega)
  rw [hgo] at v1 v2
  have v3 : wayN (mapL l) (K + 1) (parB x.f1).1 0 (b :: nm) = wayN (mapL l) K (parB x.f1).1 1 (pcs (strOfNums x.f2) ++ nm) := by
    rw [wayN_cons]
    unfold wayS
    rw [if_neg (name_ok hb).1, if_neg (name_ok hb).2.1, hub, T.own x hx]
    dsimp only
    rw [if_neg (by omega), if_neg (by omega), if_neg (by omega), hdabs]
    rfl
  rw [v3] at v2
  rw [v1] at h ⊢
  rw [v2]
  by_cases hz : (wayN (mapL l) K (parB x.f1).1 0 (pcs (strOfNums x.f2) ++ nm)).2 = 0
  · rw [if_pos hz] at h ⊢
    rcases wayN_more (mapL l) K (parB x.f1).1 0 (pcs (strOfNums x.f2) ++ nm) hz with h7 | h7
    · rw [h7, if_pos hz]; exact .inl ⟨rfl, rfl⟩
    · rw [h7, if_neg (by simp)]; exact .inr rfl
  · rw [if_neg hz] at h
    exact absurd h hz
/-! ### the law's trial -/
def one : List Nd := [⟨1, ⟨#[97]⟩, [], 0, 0⟩, ⟨3, ⟨#[98]⟩, [97], 0, 0⟩]
theorem one_tree : chk one = (0, 0) := by kernel_rfl
theorem one_real : realF (mapL one) ⟨#[98, 47, 99]⟩ = (⟨#[97, 47, 99]⟩, 0) := by kernel_rfl
end Go.Proofs.YtfnncfgdlinmcaaDoor.Vfs
