/- Ins, RefG put together. -/
import Derived.Test.YtoiffnoiliknnaaDoorMRef
set_option linter.unusedVariables false
set_option linter.unusedSimpArgs false
namespace Go.Proofs.YtoiffnoiliknnaaDoor.Tree
open Go.RowKit Go.Proofs.YtoiffnoiliknnaaDoor.Rout Go.Proofs.YtoiffnoiliknnaaDoor.Node
/-- acc with x at place j. -/
def insAt (acc : List Nd) (x : Nd) (j : Nat) : List Nd := acc.take j ++ x :: acc.drop j
theorem ins_len (acc : List Nd) (x : Nd) (j : Nat) (h : j ≤ acc.length) : (insAt acc x j).length = acc.length + 1 := by
  unfold insAt
  rw [List.length_append, List.length_cons, List.length_take, List.length_drop]
  omega
theorem ins_get (acc : List Nd) (x : Nd) (j q : Nat) (h : j ≤ acc.length) : (insAt acc x j)[q]? = if q < j then acc[q]? else if q = j then some x else acc[q - 1]? := by
  unfold insAt
  by_cases h1 : q < j
  · rw [if_pos h1, List.getElem?_append_left (by rw [List.length_take]; omega), List.getElem?_take, if_pos h1]
  · rw [if_neg h1, List.getElem?_append_right (by rw [List.length_take]; omega), List.length_take, Nat.min_eq_left h]
    by_cases h2 : q = j
    · subst h2; rw [if_pos rfl, Nat.sub_self]; rfl
    · rw [if_neg h2, show q - j = (q - j - 1) + 1 by omega, List.getElem?_cons_succ, List.getElem?_drop]
      congr 1
      omega
theorem ins_end (acc : List Nd) (x : Nd) : insAt acc x acc.length = acc ++ [x] := by
  unfold insAt
  rw [List.take_length, List.drop_length]
theorem ins_perm (acc : List Nd) (x : Nd) (j : Nat) : (insAt acc x j).Perm (acc ++ [x]) := by
  unfold insAt
  refine List.perm_middle.trans ?_
  rw [List.take_append_drop]
  exact (List.perm_append_singleton x acc).symm
theorem cmpB_neg_iff (a b : ByteArray) : cmpB a b = - cmpB b a := by
  rcases cmpB_cases a b with ⟨h1, h2⟩ | ⟨h1, h2⟩ | ⟨h1, h2⟩
  · rw [h1, cmpB_pos h2]
  · rw [h1]
    rcases cmpB_cases b a with ⟨h3, h4⟩ | ⟨h3, h4⟩ | ⟨h3, h4⟩
    · rw [h2, less_irr] at h4; cases h4
    · rw [h3]; rfl
    · rw [h2, less_irr] at h4; cases h4
  · rw [h1, cmpB_neg h2]; rfl
theorem cmpL_neg : ∀ a b, cmpL a b = - cmpL b a
  | [], [] => rfl
  | [], _ :: _ => rfl
  | _ :: _, [] => rfl
  | a :: r, b :: q => by
    have h := cmpB_neg_iff a b
    unfold cmpL
    by_cases h0 : cmpB a b = 0
    · rw [if_pos h0, if_pos (by omega), cmpL_neg r q]
    · rw [if_neg h0, if_neg (by omega), h]
theorem compB_neg (a b : ByteArray) : compB a b = - compB b a := cmpL_neg _ _
theorem compB_ge {a b : ByteArray} (h : compB a b ≤ 0) : 0 ≤ compB b a := by rw [compB_neg b a]; omega
theorem cmpL_zero : ∀ a b, cmpL a b = 0 → a = b
  | [], [], _ => rfl
  | [], _ :: _, h => by cases h
  | _ :: _, [], h => by cases h
  | a :: r, b :: q, h => by
    unfold cmpL at h
    by_cases h0 : cmpB a b = 0
    · rw [if_pos h0] at h
      rw [cmpL_zero r q h]
      rcases cmpB_cases a b with ⟨h1, _⟩ | ⟨_, h2⟩ | ⟨h1, _⟩
      · omega
      · rw [tl_inj.1 h2]
      · omega
    · rw [if_neg h0] at h; exact absurd h h0
/-- Pieces put together again. -/
def joinC : List (List UInt8) → List UInt8
  | [] => []
  | [a] => a
  | a :: b :: r => a ++ 47 :: joinC (b :: r)
theorem join_cut : ∀ l : List UInt8, joinC (cut l) = l
  | [] => rfl
  | c :: r => by
    have ih := join_cut r
    have hne := cut_ne r
    unfold cut
    split
    · rename_i h
      subst h
      cases hr : cut r with
      | nil => exact absurd hr hne
      | cons p ps => rw [hr] at ih; show [] ++ 47 :: joinC (p :: ps) = _; rw [ih]; rfl
    · cases hr : cut r with
      | nil => exact absurd hr hne
      | cons p ps =>
        rw [hr] at ih
        cases ps with
        | nil => simp only [joinC] at ih ⊢; rw [ih]
        | cons q qs => simp only [joinC] at ih ⊢; rw [← ih]; rfl
theorem pcs_inj (a b : ByteArray) (h : pcs a = pcs b) : a = b := by
  unfold pcs at h
  have h2 : cut a.data.toList = cut b.data.toList := by
    have hj : ∀ x y : List UInt8, toB x = toB y → x = y := fun x y e => by
      have := congrArg (fun z : ByteArray => z.data.toList) e
      simpa [data_toB] using this
    have key : ∀ l m : List (List UInt8), l.map toB = m.map toB → l = m := by
      intro l
      induction l with
      | nil => intro m hm; cases m with
        | nil => rfl
        | cons _ _ => cases hm
      | cons p r ih => intro m hm; cases m with
        | nil => cases hm
        | cons q s =>
          injection hm with e1 e2
          rw [hj p q e1, ih s e2]
    exact key _ _ h
  have h3 := congrArg joinC h2
  rw [join_cut, join_cut] at h3
  exact ba_ext h3
theorem compB_zero {a b : ByteArray} (h : compB a b = 0) : a = b := pcs_inj a b (cmpL_zero _ _ h)
theorem last_le {acc : List Nd} (h : Sorted acc) (j : Nat) (y : Nd) (hy : acc[j]? = some y) : ∀ a ∈ acc.take (j + 1), 0 ≤ compB y.f1 a.f1 := fun a ha => by
  have hj := (List.getElem?_eq_some_iff.1 hy).1
  obtain ⟨i, hi, rfl⟩ := List.getElem_of_mem ha
  rw [List.length_take] at hi
  have e : (acc.take (j + 1))[i] = acc[i]'(by omega) := List.getElem_take
  rw [e]
  have ey : y = acc[j] := by rw [List.getElem?_eq_getElem hj] at hy; exact (Option.some.inj hy).symm
  rw [ey]
  rcases Nat.lt_or_ge i j with h1 | h1
  · exact List.pairwise_iff_getElem.1 h i j _ _ h1
  · obtain rfl : i = j := by omega
    rw [compB_self]; omega
theorem ins_sorted (acc : List Nd) (x : Nd) (j : Nat) (hj : j ≤ acc.length) (hs : Sorted acc) (hd : ∀ y ∈ acc.drop j, 0 < compB y.f1 x.f1) (hl : j = 0 ∨ ∃ y, acc[j - 1]? = some y ∧ compB y.f1 x.f1 ≤ 0) : Sorted (insAt acc x j) := by
  unfold insAt
  unfold Sorted at hs ⊢
  have hs' := hs
  rw [← List.take_append_drop j acc] at hs'
  obtain ⟨s1, s2, s3⟩ := List.pairwise_append.1 hs'
  refine List.pairwise_append.2 ⟨s1, List.pairwise_cons.2 ⟨fun b hb => by have := hd b hb; omega, s2⟩, fun a ha b hb => ?_⟩
  rcases List.mem_cons.1 hb with rfl | hb
  · rcases hl with rfl | ⟨y, hy, hc⟩
    · simp at ha
    · obtain ⟨j', rfl⟩ : ∃ j', j = j' + 1 := by
        rcases Nat.eq_zero_or_pos j with rfl | h
        · simp at ha
        · exact ⟨j - 1, by omega⟩
      rw [Nat.add_sub_cancel] at hy
      exact compB_ntrans (compB_ge hc) (last_le hs j' y hy a ha)
  · exact s3 a ha b hb
/-! ### what grows is one -/
theorem ups_fresh : ∀ (f : Nat) (ps : List ByteArray) (p : ByteArray), (ups ps p f).Nodup ∧ ∀ q ∈ ups ps p f, q ∉ ps
  | 0, ps, p => ⟨List.nodup_nil, fun q h => absurd h (by simp [ups])⟩
  | f + 1, ps, p => by
    unfold ups
    split
    · rename_i h
      obtain ⟨h1, h2⟩ := h
      obtain ⟨i1, i2⟩ := ups_fresh f (ps ++ [(parB p).1]) (parB p).1
      have hn : (parB p).1 ∉ ps := fun hm => by rw [(has_iff _ _).2 hm] at h2; cases h2
      refine ⟨List.nodup_cons.2 ⟨fun hm => i2 _ hm (by simp), i1⟩, fun q hq => ?_⟩
      rcases List.mem_cons.1 hq with rfl | hq
      · exact hn
      · exact fun hm => i2 q hq (by simp [hm])
    · exact ⟨List.nodup_nil, fun q h => absurd h (by simp)⟩
theorem news_fresh : ∀ (r : List Nd) (ps : List ByteArray), (news ps r).Nodup ∧ ∀ q ∈ news ps r, q ∉ ps
  | [], ps => ⟨List.nodup_nil, fun q h => absurd h (by simp [news])⟩
  | x :: r, ps => by
    unfold news
    obtain ⟨u1, u2⟩ := ups_fresh (x.f1.size + 1) ps x.f1
    obtain ⟨n1, n2⟩ := news_fresh r (ps ++ ups ps x.f1 (x.f1.size + 1))
    refine ⟨List.nodup_append.2 ⟨u1, n1, fun a ha b hb e => n2 b hb (by rw [← e]; simp [ha])⟩, fun q hq => ?_⟩
    rcases List.mem_append.1 hq with hq | hq
    · exact u2 q hq
    · exact fun hm => n2 q hq (by simp [hm])
theorem bad_nodup : ∀ (r : List Nd) (ps : List ByteArray), bad ps r = 0 → ps.Nodup → (ps ++ paths r).Nodup
  | [], ps, _, h => by simpa [paths] using h
  | x :: r, ps, hb, h => by
    unfold bad at hb
    split at hb
    · cases hb
    · split at hb
      · cases hb
      · rename_i h1 h2
        have hn : x.f1 ∉ ps := fun hm => h2 (.inr ((has_iff _ _).2 hm))
        have ih := bad_nodup r (ps ++ [x.f1]) hb (List.nodup_append.2 ⟨h, by simp, fun a ha b hb' e => by
          rw [List.mem_singleton] at hb'
          exact hn (by rw [← hb', ← e]; exact ha)⟩)
        have e1 : ps ++ paths (x :: r) = ps ++ [x.f1] ++ paths r := by unfold paths; simp
        rw [e1]; exact ih
theorem grown_nodup (l : List Nd) (hb : bad [] l = 0) : (paths (grown l)).Nodup := by
  have h1 := bad_nodup l [] hb List.nodup_nil
  rw [List.nil_append] at h1
  obtain ⟨n1, n2⟩ := news_fresh l (paths l)
  unfold grown
  have e : paths (l ++ (news (paths l) l).map folder) = paths l ++ news (paths l) l := by
    unfold paths
    rw [List.map_append, List.map_map]
    congr 1
    conv => rhs; rw [← List.map_id (news (List.map Nd.f1 l) l)]
    exact List.map_congr_left (fun _ _ => rfl)
  rw [e]
  exact List.nodup_append.2 ⟨h1, n1, fun a ha b hb' e => n2 b hb' (by rw [← e]; exact ha)⟩
theorem sorted_before (s : List Nd) (hs : Sorted s) (hn : (paths s).Nodup) : s.Pairwise Before := by
  unfold paths at hn
  unfold List.Nodup at hn
  rw [List.pairwise_map] at hn
  refine (List.Pairwise.and hs hn).imp (fun {a b} h => ?_)
  obtain ⟨h1, h2⟩ := h
  unfold Before
  rcases Int.lt_trichotomy (compB a.f1 b.f1) 0 with h3 | h3 | h3
  · exact h3
  · exact absurd (compB_zero h3) h2
  · rw [compB_neg] at h3; omega
theorem spec_one (l : List Nd) (e1 e2 : Int) (m1 m2 : List Nd) (h1 : GrowSpec l e1 m1) (h2 : GrowSpec l e2 m2) : e1 = e2 ∧ m1 = m2 := by
  rcases h1 with ⟨b1, rfl, rfl⟩ | ⟨b1, s1, p1, o1, rfl, rfl⟩
  · rcases h2 with ⟨b2, rfl, rfl⟩ | ⟨b2, _⟩
    · exact ⟨rfl, rfl⟩
    · exact absurd b2 b1
  · rcases h2 with ⟨b2, _⟩ | ⟨b2, s2, p2, o2, rfl, rfl⟩
    · exact absurd b1 b2
    · have hn1 : (paths s1).Nodup := (p1.map Nd.f1).nodup_iff.1 (grown_nodup l b1)
      have hb1 := sorted_before s1 o1 hn1
      have : s2 = s1 := sorted_is s1 s2 hb1 (p1.symm.trans p2) o2
      rw [this]
      exact ⟨rfl, rfl⟩
theorem ups_length : ∀ (f : Nat) (ps : List ByteArray) (p : ByteArray), (ups ps p f).length ≤ f
  | 0, _, _ => Nat.le_refl _
  | f + 1, ps, p => by
    unfold ups
    split
    · have := ups_length f (ps ++ [(parB p).1]) (parB p).1
      rw [List.length_cons]; omega
    · simp
theorem news_length : ∀ (r : List Nd) (ps : List ByteArray), (∀ x ∈ r, x.f1.size ≤ 1024) → (news ps r).length ≤ r.length * 1025
  | [], _, _ => Nat.zero_le _
  | x :: r, ps, h => by
    unfold news
    have h1 := ups_length (x.f1.size + 1) ps x.f1
    have h2 := news_length r (ps ++ ups ps x.f1 (x.f1.size + 1)) (fun y hy => h y (List.mem_cons_of_mem _ hy))
    have h3 := h x List.mem_cons_self
    rw [List.length_append, List.length_cons]
    omega
theorem grown_length (l : List Nd) (hb : bad [] l = 0) : (grown l).length ≤ l.length * 1026 := by
  have h := news_length l (paths l) (fun x hx => valid_size _ (bad_all l [] hb x hx).1)
  unfold grown
  rw [List.length_append, List.length_map]
  omega
end Go.Proofs.YtoiffnoiliknnaaDoor.Tree
set_option linter.unusedVariables false
set_option linter.unusedSimpArgs false
namespace Go.Proofs.YtoiffnoiliknnaaDoor.Tree
open Go.RowKit Go.BigFrame Go.Maps Go.Proofs.YtoiffnoiliknnaaDoor.Reg Go.Proofs.YtoiffnoiliknnaaDoor.Rout Go.Proofs.YtoiffnoiliknnaaDoor.Node Go.Proofs.YtoiffnoiliknnaaDoorW.PrintWords Go.Proofs.YtoiffnoiliknnaaDoorW.PrintLast Go.Proofs.YtoiffnoiliknnaaDoorW.PrintMore
theorem find_has (l : List Nd) (p : ByteArray) : (0 ≤ findN l p 0) ↔ has (paths l) p = true := by
  rw [has_iff]
  unfold paths
  rw [List.mem_map]
  rcases findN_spec p l 0 with ⟨h1, h2⟩ | ⟨j, h1, h2, x, h3, h4⟩
  · rw [h1]
    exact ⟨fun h => by omega, fun ⟨x, hx, he⟩ => absurd he (h2 x hx)⟩
  · rw [h2]
    exact ⟨fun _ => ⟨x, List.mem_of_getElem? h3, h4⟩, fun _ => by omega⟩
theorem paths_more (l : List Nd) (u : List ByteArray) : paths (l ++ u.map folder) = paths l ++ u := by
  unfold paths
  rw [List.map_append, List.map_map]
  congr 1
  conv => rhs; rw [← List.map_id u]
  exact List.map_congr_left (fun _ _ => rfl)
theorem folder_K (w0 : World) (p : ByteArray) : kN.K w0 (folder p) [.int .i64 1, .string p, .slice none 0 0, .int .i64 493, .int .i64 0] :=
  kN_mk w0 (folder p) (A2 := none) (c2 := 0) (Nat.le_refl _) ⟨rfl, by simp [folder], fun h => absurd h (by simp [folder])⟩
/-- An element of a row whose bytes are those of an elder world. -/
theorem atF {w0 W : World} {A : Option Addr} {n : Nat} {xs : List Nd} (h : (Kd.fixed kN w0).C W A n xs) (i : Nat) (h1 : i < n) : ∃ ad A2 c2, A = some ad ∧ W.cell? (ad.add (i * 5)) = some (.int .i64 (rdN xs i).f0) ∧ W.cell? ⟨(ad.add (i * 5)).block, (ad.add (i * 5)).off + 1, none⟩ = some (.string (rdN xs i).f1) ∧ W.cell? ⟨(ad.add (i * 5)).block, (ad.add (i * 5)).off + 2, none⟩ = some (.slice A2 (rdN xs i).f2.length c2) ∧ W.cell? ⟨(ad.add (i * 5)).block, (ad.add (i * 5)).off + 3, none⟩ = some (.int .i64 (rdN xs i).f3) ∧ W.cell? ⟨(ad.add (i * 5)).block, (ad.add (i * 5)).off + 4, none⟩ = some (.int .i64 (rdN xs i).f4) ∧ kN.K w0 (rdN xs i) [.int .i64 (rdN xs i).f0, .string (rdN xs i).f1, .slice A2 (rdN xs i).f2.length c2, .int .i64 (rdN xs i).f3, .int .i64 (rdN xs i).f4] := by
  obtain ⟨ad, c, e, _, hK, hc0⟩ := Kd.C_get h zN (i : Int) (by omega) (by omega)
  rw [Int.toNat_natCast] at hc0
  have hK' : kN.K w0 (rdN xs i) c := hK
  have hc : ∀ j u, c[j]? = some u → W.cell? (ad.add (i * 5 + j)) = some u := hc0
  obtain ⟨A2, c2, rfl, l2, g2⟩ := kN_open hK'
  exact ⟨ad, A2, c2, e, hc 0 _ rfl, by rw [← add_field _ _ 1 (by omega)]; exact hc 1 _ rfl, by rw [← add_field _ _ 2 (by omega)]; exact hc 2 _ rfl, by rw [← add_field _ _ 3 (by omega)]; exact hc 3 _ rfl, by rw [← add_field _ _ 4 (by omega)]; exact hc 4 _ rfl, hK'⟩
theorem GRow.to_fixedOk {w0 W : World} {base g cap n : Nat} {ok : Nat → Prop} {l : List Nd} (hn : l.length = n) (h : GRow W base g cap n (fun j cs => ∀ x, l[j]? = some x → kN.K w0 x cs)) (hok : ok g) :
    (Kd.fixed kN w0).R 35 W base ok (.slice (some ⟨g, 0, none⟩) n cap) l := by
  subst hn
  obtain ⟨cells, how, he⟩ := h
  exact ⟨fun k hk => by simp [Value.ownBlock] at hk; subst hk; exact hok, cells, how, how.1, fun j p hj => he j (List.getElem?_eq_some_iff.1 hj).1 p hj⟩
/-- The post: what grows, its bytes those of an elder world. -/
def GrowPost (l : List Nd) (w0 w : World) (e : Ending) (w' : World) : Prop :=
  ∃ v e0 m, e = .returned (.tuple #[v, .int .i64 e0]) ∧ (Kd.fixed kN w0).R 35 w' w.heap.size (fun _ => True) v m ∧ Below w.heap.size w w' ∧ GrowSpec l e0 m
theorem gpost_none {l : List Nd} {n : Int} {w0 w w' : World} (h : GrowSpec l n []) (hb : Below w.heap.size w w') : GrowPost l w0 w (.returned (.tuple #[.slice none 0 0, .int .i64 n])) w' :=
  ⟨_, _, [], rfl, Kd.R_nil _ _ _ _ _, hb, h⟩
set_option maxRecDepth 100000 in
set_option maxHeartbeats 32000000 in
theorem refGrow_calls (A : Option Addr) (c : Nat) (l : List Nd) (w0 w : World) (hC0 : kN.C w0 A l.length l) (h0w : Below w0.heap.size w0 w) (hok : ∀ x ∈ l, Ok x) (hc : l.length ≤ c) (hl : l.length * 64 ≤ 140737488355328) (hl2 : l.length ≤ 140737488351232) (hg : bad [] l = 0 → (grown l).length * 64 ≤ 140737488355328) :
    Calls Tryd.prog 18 #[.slice A l.length c] w (GrowPost l w0 w) := by
  have hC := Kd.C_below hC0 h0w
  have HC := Lib.hid hC
  have HOK := Lib.hid hok
  have HG := Lib.hid hg
  have HAO := Lib.hid (fun W => append_own w0 w W A l hC0 h0w)
  clear hC hok hg
  go_enter Tryd.func18, Tryd.ntmps18
  go_wp2
  go_loopw [4] (fun i wr => ∃ k : Nat, i = .int .i64 k ∧ k ≤ l.length ∧ Below w.heap.size w wr ∧ Hid (bad (paths (l.take k)) (l.drop k) = bad [] l)) (fun i _ => (l.length - intOf i).toNat)
  case atStart => exact ⟨0, rfl, by omega, Below.refl _ _, Lib.hid rfl⟩
  case round =>
    obtain ⟨k, rfl, hk, hb, hbd⟩ := hrel
    by_cases hlt : k < l.length
    · obtain ⟨ad, A2, c2, hA, c0, c1, c2', c3, c4, hl2, hd⟩ := atN (Kd.C_below HC.out hb) (k : Int) (by omega) (by omega)
      subst hA
      have HOKX := Lib.hid (HOK.out _ (rdN_mem l k hlt))
      have hst := Lib.hid (bad_step l k hlt)
      have HD := Lib.hid hd
      have HL2 := Lib.hid hl2
      rw [Int.toNat_natCast] at c0 c1 c2' c3 c4
      clear hd hl2
      have k0 : (0 : Int) ≤ (k : Int) := by omega
      have k1 : (k : Int) < l.length := by omega
      generalize rdN l (k : Int) = x at *
      have HV := Lib.hid (fun W => refValid_calls x.f1 W)
      cases hv : validB x.f1
      · have HR := Lib.hid (show bad [] l = 20 by rw [← hbd.out, hst.out, if_pos hv])
        rw [hv] at HV
        clear hst hbd hv
        go_wp2_with (go_at_call 32; refine (HV.out _).mono ?_; rintro e w1 ⟨rfl, hb1⟩)
        go_ret2
        exact gpost_none (.inl ⟨by rw [HR.out]; decide, HR.out.symm, rfl⟩) (bgo hb hb1)
      · have hvs := valid_size _ hv
        rw [hv] at HV
        have hst2 := Lib.hid (show bad (paths (l.take k)) (l.drop k) = if mayB x = false ∨ has (paths (l.take k)) x.f1 = true then 21 else bad (paths (l.take (k + 1))) (l.drop (k + 1)) by rw [hst.out, if_neg (by rw [hv]; simp)])
        clear hst hv
        go_upto_region 6 with (go_at_call 32; refine (HV.out _).mono ?_; rintro e w1 ⟨rfl, hb1⟩)
        have c0' := bkeep hb1 c0
        have c1' := bkeep hb1 c1
        have c2'' := bkeep hb1 c2'
        have c3' := bkeep hb1 c3
        have c4' := bkeep hb1 c4
        clear c0 c1 c2' c3 c4 HV
        have HB := Lib.hid (bgo hb hb1)
        have HD1 := Lib.hid (Kd.C_below HD.out hb1)
        clear hb hb1 HD
        refine wp_world ?_
        intro W1 hW1
        obtain rfl := hW1
        have HM := Lib.hid (fun n : Abv W1 => refMay_calls x A2 c2 n.w (Kd.C_below HD1.out n.bel) HL2.out HOKX.out.ds)
        cases hm : mayB x
        · have HR := Lib.hid (show bad [] l = 21 by rw [← hbd.out, hst2.out, if_pos (.inl hm)])
          rw [hm] at HM
          clear hst2 hbd hm
          refine wp_region_above (by kernel_rfl) (by kernel_rfl) ?_
          intro ne
          have n0 := fun n : Abv W1 => n.cell c0'
          have n1 := fun n : Abv W1 => n.cell c1'
          have n2 := fun n : Abv W1 => n.cell c2''
          have n3 := fun n : Abv W1 => n.cell c3'
          have n4 := fun n : Abv W1 => n.cell c4'
          repeat (go_big_quiet_step ((go_at_call 33; exact Abv.call _ (HM.out _))))
          refine quiet_above ?_
          intro w6 hb6
          clear n0 n1 n2 n3 n4
          go_wp2
          go_ret2
          exact gpost_none (.inl ⟨by rw [HR.out]; decide, HR.out.symm, rfl⟩) (bgo HB.out hb6)
        · rw [hm] at HM
          have HF := Lib.hid (fun n : Abv W1 => (show Calls Tryd.prog 36 #[.slice (some ad) k c, .string x.f1] n.w _ from by
            have h := find_calls (some ad) c (l.take k) x.f1 n.w (Kd.C_take (Kd.C_below HC.out (bgo HB.out n.bel)) (by omega)) (by rw [List.length_take]; omega) (by rw [List.length_take]; omega)
            rw [List.length_take, Nat.min_eq_left (by omega)] at h
            exact h))
          have hfh := find_has (l.take k) x.f1
          cases hs : has (paths (l.take k)) x.f1
          · have HR := Lib.hid (show bad (paths (l.take (k + 1))) (l.drop (k + 1)) = bad [] l by rw [← hbd.out, hst2.out, if_neg (by rw [hm, hs]; simp)])
            have hd1 : decide (0 ≤ findN (l.take k) x.f1 0) = false := decide_eq_false (fun h => by rw [hfh.1 h] at hs; cases hs)
            clear hst2 hbd hm hs hfh
            generalize findN (l.take k) x.f1 0 = t at *
            refine wp_region_above (by kernel_rfl) (by kernel_rfl) ?_
            intro ne
            have n0 := fun n : Abv W1 => n.cell c0'
            have n1 := fun n : Abv W1 => n.cell c1'
            have n2 := fun n : Abv W1 => n.cell c2''
            have n3 := fun n : Abv W1 => n.cell c3'
            have n4 := fun n : Abv W1 => n.cell c4'
            repeat (go_big_quiet_step (first
              | (go_at_call 33; exact Abv.call _ (HM.out _))
              | (go_at_call 36; exact Abv.call _ (HF.out _))))
            refine quiet_above ?_
            intro w6 hb6
            clear n0 n1 n2 n3 n4 hd1
            go_wp2
            go_roundw
            case rel => exact ⟨k + 1, by go_num, by omega, bgo HB.out hb6, HR⟩
            case measure => simp [intOf]; omega
          · have HR := Lib.hid (show bad [] l = 21 by rw [← hbd.out, hst2.out, if_pos (.inr hs)])
            have hd1 : decide (0 ≤ findN (l.take k) x.f1 0) = true := decide_eq_true (hfh.2 hs)
            clear hst2 hbd hm hs hfh
            generalize findN (l.take k) x.f1 0 = t at *
            refine wp_region_above (by kernel_rfl) (by kernel_rfl) ?_
            intro ne
            have n0 := fun n : Abv W1 => n.cell c0'
            have n1 := fun n : Abv W1 => n.cell c1'
            have n2 := fun n : Abv W1 => n.cell c2''
            have n3 := fun n : Abv W1 => n.cell c3'
            have n4 := fun n : Abv W1 => n.cell c4'
            repeat (go_big_quiet_step (first
              | (go_at_call 33; exact Abv.call _ (HM.out _))
              | (go_at_call 36; exact Abv.call _ (HF.out _))))
            refine quiet_above ?_
            intro w6 hb6
            clear n0 n1 n2 n3 n4 hd1
            go_wp2
            go_ret2
            exact gpost_none (.inl ⟨by rw [HR.out]; decide, HR.out.symm, rfl⟩) (bgo HB.out hb6)
    · obtain rfl : k = l.length := by omega
      have hb0 : bad [] l = 0 := by rw [← hbd.out, List.drop_length]; rfl
      have HB0 := Lib.hid hb0
      have hgl := HG.out hb0
      have HGO := Lib.hid (grown_ok l HOK.out hb0)
      have HAW := Lib.hid (HAO.out _ hb)
      clear hbd hk hlt hb0 HAO
      go_upto_region 9 with (at_builtin; refine Kd.R_append_rows (Kd.fixed kN w0) (Rr := kN.K w0) (w0 := w) w.heap.size rfl (.tmp 46) (.tmp 47) 22 35 (.agg #[.int .i64 0, .string ⟨#[]⟩, .slice none 0 0, .int .i64 0, .int .i64 0]) 64 rfl Tryd.underlying22 infoN rfl (show 0 < 5 by decide) (by omega) _ [] l A l.length c (fun _ => True) (fun _ => False) rfl rfl HAW.out.1 HAW.out.2 (fun _ _ h => h) (fun _ h => h.elim) (fun _ _ => trivial) (balloc hb _) (by have := hb.size; simp; omega) (by simp; omega) ?_; intro v1 w2 hR1 hb2 hg1 hat1; rw [List.nil_append] at hR1; have HR1 := Lib.hid hR1; have HB2 := Lib.hid hb2; clear hR1 hb2 hg1 hat1)
      clear HAW hb
      go_wp2
      have hgn : (grown l).length = l.length + (news (paths l) l).length := by unfold grown; rw [List.length_append, List.length_map]
      have HR2 := Lib.hid (show (Kd.fixed kN w0).R 35 w2 w.heap.size (fun _ => True) v1 (l ++ ([] : List ByteArray).map folder) by
        rw [List.map_nil, List.append_nil]
        exact HR1.out)
      clear HR1
      go_loopw [5, 6] (fun v5 i wr => ∃ (k : Nat) (u : List ByteArray), i = .int .i64 k ∧ k ≤ l.length ∧ Hid ((Kd.fixed kN w0).R 35 wr w.heap.size (fun _ => True) v5 (l ++ u.map folder)) ∧ Hid (Below w.heap.size w wr) ∧ Hid (u ++ news (paths l ++ u) (l.drop k) = news (paths l) l)) (fun _ i _ => (l.length - intOf i).toNat)
      case atStart => exact ⟨0, [], rfl, by omega, HR2, HB2, Lib.hid (by rw [List.append_nil]; rfl)⟩
      case round =>
        clear HR2 HB2
        obtain ⟨k, u, rfl, hk, hR, hB, hU⟩ := hrel
        by_cases hlt : k < l.length
        · obtain ⟨ad, A2, c2, hA, c0, c1, c2', c3, c4, hl2', hd⟩ := atN (Kd.C_below HC.out hB.out) (k : Int) (by omega) (by omega)
          subst hA
          have hvs := HGO.out.2 _ (List.mem_append_left _ (rdN_mem l k hlt))
          have hst := Lib.hid (news_step l k (paths l ++ u) hlt)
          rw [Int.toNat_natCast] at c0 c1 c2' c3 c4
          have k0 : (0 : Int) ≤ (k : Int) := by omega
          have k1 : (k : Int) < l.length := by omega
          clear hd hl2'
          generalize rdN l (k : Int) = x at *
          have HP := Lib.hid (fun W => refParent_calls x.f1 W)
          go_upto_region 13 with (go_at_call 35; refine (HP.out _).mono ?_; rintro e w3 ⟨rfl, hb3⟩; have HB3 := Lib.hid hb3; clear hb3)
          have HR3 := Lib.hid (show (Kd.fixed kN w0).R 35 w3 w.heap.size (fun _ => True) u5 (l ++ (u ++ ([] : List ByteArray)).map folder) by rw [List.append_nil]; exact Kd.R_below hR.out HB3.out)
          have HB4 := Lib.hid (bgo hB.out HB3.out)
          have HT := Lib.hid (show u ++ (ups (paths l ++ u) x.f1 (x.f1.size + 1) ++ news ((paths l ++ u) ++ ups (paths l ++ u) x.f1 (x.f1.size + 1)) (l.drop (k + 1))) = news (paths l) l by rw [← hst.out]; exact hU.out)
          have hlen := congrArg List.length HT.out
          rw [List.length_append, List.length_append] at hlen
          have hnb : l.length + u.length + (ups (paths l ++ u) x.f1 (x.f1.size + 1)).length ≤ 2199023255552 := by omega
          clear hst hU hR hB HB3 c0 c1 c2' c3 c4 HP hlen
          go_loopw [5, 7, 8] (fun v5 p ok w4 => ∃ (e : List ByteArray) (cur : ByteArray) (f : Nat), p = .string (parB cur).1 ∧ ok = .bool (parB cur).2 ∧ cur.size < f ∧ cur.size ≤ 1024 ∧ Hid ((Kd.fixed kN w0).R 35 w4 w.heap.size (fun _ => True) v5 (l ++ (u ++ e).map folder)) ∧ Hid (Below w.heap.size w w4) ∧ Hid (e ++ ups ((paths l ++ u) ++ e) cur f = ups (paths l ++ u) x.f1 (x.f1.size + 1))) (fun _ p ok _ => toGo p ok)
          case atStart => exact ⟨[], x.f1, x.f1.size + 1, rfl, rfl, by omega, hvs, HR3, HB4, Lib.hid (by rw [List.append_nil]; rfl)⟩
          case round =>
            clear HR3 HB4
            obtain ⟨e, cur, f, rfl, rfl, hf, hcs, hR, hB, hE⟩ := hrel
            obtain ⟨f', rfl⟩ : ∃ f', f = f' + 1 := ⟨f - 1, by omega⟩
            have hps := Nat.le_trans (parB_size cur) hcs
            have hup := Lib.hid (show ups ((paths l ++ u) ++ e) cur (f' + 1) = if (parB cur).2 = true ∧ has ((paths l ++ u) ++ e) (parB cur).1 = false then (parB cur).1 :: ups (((paths l ++ u) ++ e) ++ [(parB cur).1]) (parB cur).1 f' else [] from rfl)
            have hless := parB_less cur
            have hue : e.length ≤ (ups (paths l ++ u) x.f1 (x.f1.size + 1)).length := by rw [← hE.out, List.length_append]; omega
            have hrl : (l ++ (u ++ e).map folder).length = l.length + (u ++ e).length := by rw [List.length_append, List.length_map]
            have hrl2 : (u ++ e).length = u.length + e.length := List.length_append
            have hfh := find_has (l ++ (u ++ e).map folder) (parB cur).1
            rw [paths_more, ← List.append_assoc] at hfh
            generalize hL : l ++ (u ++ e).map folder = L at *
            obtain ⟨A1, c1, rfl, hl1, hC1⟩ := Kd.R_reads hR.out
            have HF := Lib.hid (find_calls A1 c1 L (parB cur).1 wr (fixed_C hC1 (bgo h0w hB.out)) hl1 (by omega))
            have HLL := Lib.hid hL
            have HRL := Lib.hid hrl
            have HRL2 := Lib.hid hrl2
            have hLb : L.length + 1 ≤ 2199023255552 ∨ True := .inr trivial
            clear hC1 hL hrl hrl2 hLb
            cases hinner : (parB cur).2
            · have hEnd := Lib.hid (show e = ups (paths l ++ u) x.f1 (x.f1.size + 1) by rw [← hE.out, hup.out, if_neg (by rw [hinner]; simp), List.append_nil])
              have HU := Lib.hid (show (u ++ e) ++ news (paths l ++ (u ++ e)) (l.drop (k + 1)) = news (paths l) l by rw [← HT.out, ← hEnd.out, List.append_assoc, List.append_assoc])
              have hR' := Lib.hid (show (Kd.fixed kN w0).R 35 wr w.heap.size (fun _ => True) (.slice A1 L.length c1) (l ++ (u ++ e).map folder) by rw [HLL.out]; exact hR.out)
              clear hup hless hE hinner hfh HF hue hR
              go_wp2
              go_roundw
              case rel => exact ⟨k + 1, u ++ e, by go_num, by omega, hR', hB, HU⟩
              case measure => simp [intOf]; omega
            · cases hhas : has ((paths l ++ u) ++ e) (parB cur).1
              · have hft : decide (findN L (parB cur).1 0 < 0) = true := decide_eq_true (by
                  rcases Int.lt_or_le (findN L (parB cur).1 0) 0 with h | h
                  · exact h
                  · rw [hfh.1 h] at hhas; cases hhas)
                have hup2 := Lib.hid (show ups ((paths l ++ u) ++ e) cur (f' + 1) = (parB cur).1 :: ups (((paths l ++ u) ++ e) ++ [(parB cur).1]) (parB cur).1 f' by rw [hup.out, if_pos ⟨hinner, hhas⟩])
                have hpl : (parB cur).1.size < cur.size := hless hinner
                have hlen2 := congrArg List.length hE.out
                rw [hup2.out, List.length_append, List.length_cons] at hlen2
                have hN : L.length + 1 ≤ 2199023255552 := by have := HRL.out; have := HRL2.out; omega
                generalize findN L (parB cur).1 0 = t at *
                generalize hpe : (parB cur).1 = pa at *
                have HEn := Lib.hid (show (e ++ [pa]) ++ ups ((paths l ++ u) ++ (e ++ [pa])) pa f' = ups (paths l ++ u) x.f1 (x.f1.size + 1) by rw [← hE.out, hup2.out, ← List.append_assoc ((paths l ++ u)) e [pa], List.append_assoc e]; rfl)
                have HPP := Lib.hid (fun W => refParent_calls pa W)
                have hsn := Lib.hid (show (u ++ e).map folder ++ [folder pa] = (u ++ (e ++ [pa])).map folder by simp only [List.map_append, List.append_assoc, List.map_cons, List.map_nil])
                have hlp := parB_less pa
                clear hup hup2 hE hlen2 hpe hhas hinner hless hfh hue
                go_upto_region 14 with (go_at_call 36; refine HF.out.mono ?_; rintro e3 w3 ⟨rfl, hb3⟩; have HR3 := Lib.hid (Kd.R_below hR.out hb3); have HB3 := Lib.hid (bgo hB.out hb3); clear hb3)
                go_upto_region 15 with (at_builtin; refine Kd.R_append (Kd.fixed kN w0) (w0 := w) w.heap.size rfl (.tmp 71) (.tmp 74) 22 35 (.agg #[.int .i64 0, .string ⟨#[]⟩, .slice none 0 0, .int .i64 0, .int .i64 0]) 64 rfl Tryd.underlying22 infoN rfl (show 0 < 5 by decide) (by omega) (.slice A1 L.length c1) L (folder pa) [.int .i64 1, .string pa, .slice none 0 0, .int .i64 493, .int .i64 0] (fun _ => True) (fun _ => False) rfl rfl (folder_K w0 pa) (fun _ h => h.elim) (fun _ h => trivial) HR3.out HB3.out HB3.out.size (by omega) ?_; intro v6 w6 hR6 hb6 hg6 hat6; have HR6 := Lib.hid hR6; have HB6 := Lib.hid hb6; clear hR6 hb6 hg6 hat6)
                have HR7 := Lib.hid (show (Kd.fixed kN w0).R 35 w6 w.heap.size (fun _ => True) v6 (l ++ (u ++ (e ++ [pa])).map folder) by
                  have h := HR6.out
                  rw [← HLL.out, List.append_assoc, hsn.out] at h
                  exact h)
                clear HR6 hR hB HR3 HB3 HF HRL HRL2 hN
                generalize hp1 : (parB pa).1 = p1 at *
                generalize hp2 : (parB pa).2 = p2 at *
                have HP1 := Lib.hid hp1
                have HP2 := Lib.hid hp2
                clear hp1 hp2
                go_wp2_with (go_at_call 35; refine (HPP.out _).mono ?_; rintro e7 w7 ⟨rfl, hb7⟩; have HB7 := Lib.hid (bgo HB6.out hb7); have HR8 := Lib.hid (Kd.R_below HR7.out hb7); clear hb7)
                go_roundw
                case rel => exact ⟨e ++ [pa], pa, f', by rw [HP1.out], by rw [HP2.out], by omega, hps, HR8, HB7, HEn⟩
                case measure =>
                  show toGo (.string p1) (.bool p2) < toGo (.string pa) (.bool true)
                  cases p2
                  · show 0 < pa.size + 1; omega
                  · show p1.size + 1 < pa.size + 1; have := hlp rfl; omega
              · have hft : decide (findN L (parB cur).1 0 < 0) = false := decide_eq_false (fun h => by have := hfh.2 hhas; omega)
                have hEnd := Lib.hid (show e = ups (paths l ++ u) x.f1 (x.f1.size + 1) by rw [← hE.out, hup.out, if_neg (by rw [hhas]; simp), List.append_nil])
                have HU := Lib.hid (show (u ++ e) ++ news (paths l ++ (u ++ e)) (l.drop (k + 1)) = news (paths l) l by rw [← HT.out, ← hEnd.out, List.append_assoc, List.append_assoc])
                generalize findN L (parB cur).1 0 = t at *
                have hR' := Lib.hid (show (Kd.fixed kN w0).R 35 wr w.heap.size (fun _ => True) (.slice A1 L.length c1) (l ++ (u ++ e).map folder) by rw [HLL.out]; exact hR.out)
                clear hup hless hE hinner hhas hfh hue hR
                go_wp2_with (go_at_call 36; refine HF.out.mono ?_; rintro e3 w3 ⟨rfl, hb3⟩; have HR3 := Lib.hid (Kd.R_below hR'.out hb3); have HB3 := Lib.hid (bgo hB.out hb3); clear hb3)
                go_roundw
                case rel => exact ⟨k + 1, u ++ e, by go_num, by omega, HR3, HB3, HU⟩
                case measure => simp [intOf]; omega
        · obtain rfl : k = l.length := by omega
          have hun : u = news (paths l) l := by
            have := hU.out
            rw [List.drop_length] at this
            simpa [news] using this
          subst hun
          have HRG := Lib.hid (show (Kd.fixed kN w0).R 35 wr w.heap.size (fun _ => True) u5 (grown l) from hR.out)
          have hln : (grown l).length ≤ 2199023255552 := by omega
          clear hU hR hlt hk hgn
          obtain ⟨A1, c1, rfl, hl1, _⟩ := Kd.R_reads HRG.out
          generalize hGe : grown l = G at *
          have HGE := Lib.hid hGe
          clear hGe
          have HSZ := Lib.hid (show ∀ x ∈ G, x.f1.size ≤ 1024 from HGO.out.2)
          have HB1 := Lib.hid (show w.heap.size ≤ wr.heap.size from hB.out.size)
          have HRA := Lib.hid (show (Kd.fixed kN w0).R 35 wr w.heap.size (fun q => q < wr.heap.size) (.slice A1 G.length c1) G from Kd.R_mono (Kd.R_bound HRG.out) (fun _ hq => hq.2.2.1))
          obtain ⟨B1, hB1⟩ : ∃ B1, B1 = wr.heap.size := ⟨_, rfl⟩
          rw [← hB1] at HRA HB1
          have HBB := Lib.hid hB1
          clear hB1 HRG
          go_wp2
          go_loopw [9, 10] (fun v9 i w4 => ∃ (k : Nat) (acc : List Nd), i = .int .i64 k ∧ k ≤ G.length ∧ acc.length = k ∧ Hid ((Kd.fixed kN w0).R 35 w4 w.heap.size (fun q => B1 ≤ q) v9 acc) ∧ Hid ((Kd.fixed kN w0).R 35 w4 w.heap.size (fun q => q < B1) (.slice A1 G.length c1) G) ∧ Hid (Below w.heap.size w w4) ∧ Hid (B1 ≤ w4.heap.size) ∧ Hid (acc.Perm (G.take k)) ∧ Hid (Sorted acc)) (fun _ i _ => (G.length - intOf i).toNat)
          case atStart => exact ⟨0, [], rfl, by omega, rfl, Lib.hid (Kd.R_nil _ _ _ _ _), HRA, hB, Lib.hid (by have := HBB.out; omega), Lib.hid (List.Perm.refl _), Lib.hid List.Pairwise.nil⟩
          case round =>
            clear HRA hB HBB
            obtain ⟨k, acc, rfl, hk, hal, hR, hRA, hB, hBs, hpm, hso⟩ := hrel
            by_cases hlt : k < G.length
            · obtain ⟨ad, A2, c2, hA, c0, c1', c2', c3, c4, hK⟩ := atF (Kd.R_reads' hRA.out).2.2 k hlt
              subst hA
              have HK := Lib.hid hK
              have hxs := HSZ.out _ (rdN_mem G k hlt)
              have HTK := Lib.hid (take_rdN G k hlt)
              have HAL := Lib.hid hal
              clear hK hal
              generalize rdN G (k : Int) = x at *
              obtain ⟨A9, c9, rfl, _, _⟩ := Kd.R_reads hR.out
              have k0 : (0 : Int) ≤ (k : Int) := by omega
              have k1 : (k : Int) < G.length := by omega
              go_upto_region 22 with (at_builtin; refine Kd.R_append (Kd.fixed kN w0) (w0 := w) w.heap.size rfl (.tmp 89) (.tmp 94) 22 35 (.agg #[.int .i64 0, .string ⟨#[]⟩, .slice none 0 0, .int .i64 0, .int .i64 0]) 64 rfl Tryd.underlying22 infoN rfl (show 0 < 5 by decide) (by omega) (.slice A9 acc.length c9) acc x [.int .i64 x.f0, .string x.f1, .slice A2 x.f2.length c2, .int .i64 x.f3, .int .i64 x.f4] (fun q => B1 ≤ q) (fun _ => False) rfl rfl HK.out (fun _ h => h.elim) (fun q h => Nat.le_trans hBs.out h) hR.out hB.out hB.out.size (by have := HAL.out; omega) ?_; intro v6 w6 hR6 hb6 hg6 hat6; have HR6 := Lib.hid hR6; have HB6 := Lib.hid hb6; have HG6 := Lib.hid hg6; clear hR6 hb6 hg6 hat6)
              obtain ⟨g, cap, hv6, hg, hgl, _⟩ := Kd.R_form HR6.out (by simp)
              obtain ⟨N, hN⟩ : ∃ N, N = acc.length + 1 := ⟨_, rfl⟩
              have hv7 : v6 = .slice (some ⟨g, 0, none⟩) N cap := by rw [hv6, hN]; simp
              subst hv7
              clear hv6
              have HGR := Lib.hid (show GRow w6 w.heap.size g cap N (fun q cs => ∀ y, (insAt acc x acc.length)[q]? = some y → kN.K w0 y cs) by
                obtain ⟨_, cells, how, hr⟩ := HR6.out
                have e : (acc ++ [x]).length = N := by rw [hN]; simp
                rw [e] at how
                rw [ins_end]
                exact ⟨cells, how, fun q hq y hy => hr.2 q y hy⟩)
              have hgB : B1 ≤ g := HR6.out.1 g rfl
              have HRA6 := Lib.hid (Kd.R_grown hRA.out HG6.out (fun q hq e => by have := hR.out.1 q e.symm; omega))
              have HS6 := Lib.hid (show B1 ≤ w6.heap.size by omega)
              have HGL := Lib.hid hgl
              have HNN := Lib.hid hN
              have hjN : ∀ j, j ≤ acc.length → j < N := fun j h => by omega
              have HJN := Lib.hid hjN
              clear hN hjN
              clear HR6 HG6 hR hRA hB hBs c0 c1' c2' c3 c4 hg hgl
              go_loopw [11] (fun kk w7 => ∃ j : Nat, kk = .int .i64 j ∧ j ≤ acc.length ∧ Hid (GRow w7 w.heap.size g cap N (fun q cs => ∀ y, (insAt acc x j)[q]? = some y → kN.K w0 y cs)) ∧ Hid ((Kd.fixed kN w0).R 35 w7 w.heap.size (fun q => q < B1) (.slice (some ad) G.length c1) G) ∧ Hid (Below w.heap.size w w7) ∧ Hid (B1 ≤ w7.heap.size) ∧ Hid (g < w7.heap.size) ∧ Hid (∀ y ∈ acc.drop j, 0 < compB y.f1 x.f1)) (fun kk _ => (intOf kk).toNat)
              case atStart => exact ⟨acc.length, rfl, Nat.le_refl _, HGR, HRA6, HB6, HS6, HGL, Lib.hid (fun y hy => by rw [List.drop_length] at hy; cases hy)⟩
              case round =>
                clear HGR HRA6 HB6 HS6 HGL
                obtain ⟨j, rfl, hj, hGR, hRA, hB, hBs, hgl, hdr⟩ := hrel
                have hjn := HJN.out j hj
                have jj4 : (j : Int) ≤ 2199023255552 := by have := HAL.out; omega
                have jj1 : (j : Int) < (N : Int) := by omega
                by_cases hj0 : 0 < j
                · have jj2 : (1 : Int) ≤ (j : Int) := by omega
                  have jj3 : (j : Int) - 1 < (N : Int) := by omega
                  obtain ⟨y, hy⟩ : ∃ y, acc[j - 1]? = some y := ⟨acc[j - 1]'(by omega), List.getElem?_eq_getElem (by omega)⟩
                  have hyG : y ∈ G := List.take_subset k G (hpm.out.subset (List.mem_of_getElem? hy))
                  have hys := HSZ.out y hyG
                  obtain ⟨cs, hE, hcell, hfr⟩ := hGR.out.at_ (j - 1) (by omega)
                  have hKy := hE y (by rw [ins_get _ _ _ _ hj, if_pos (by omega)]; exact hy)
                  obtain ⟨A3, c3', rfl, _, _⟩ := kN_open hKy
                  obtain ⟨cs', hE', hcell', _⟩ := hGR.out.at_ j (by omega)
                  have hKx := hE' x (by rw [ins_get _ _ _ _ hj, if_neg (by omega), if_pos rfl])
                  obtain ⟨A4, c4', rfl, _, _⟩ := kN_open hKx
                  have p1 := hcell 1 _ rfl
                  have q1 := hcell' 1 _ rfl
                  have HCY := Lib.hid hcell
                  have HCX := Lib.hid hcell'
                  have HFR := Lib.hid hfr
                  have HKY := Lib.hid hKy
                  have HKX := Lib.hid hKx
                  have HY := Lib.hid hy
                  clear hE hE' hcell hcell' hfr hKy hKx hyG hy
                  go_wp2
                  refine wp_world ?_
                  intro W1 hW1
                  obtain rfl := hW1
                  have HK2 := Lib.hid (fun n : Abv W1 => refCompare_calls y.f1 x.f1 n.w hys hxs)
                  by_cases hcmp : 0 < compB y.f1 x.f1
                  · have hd1 : decide (0 < compB y.f1 x.f1) = true := decide_eq_true hcmp
                    have HCMP := Lib.hid hcmp
                    clear hcmp
                    generalize hcb : compB y.f1 x.f1 = cb at *
                    have HCBE := Lib.hid hcb
                    clear hcb
                    refine wp_region_above (by kernel_rfl) (by kernel_rfl) ?_
                    intro ne
                    have n1 := fun n : Abv W1 => n.cell p1
                    have n2 := fun n : Abv W1 => n.cell q1
                    repeat (go_big_quiet_step ((go_at_call 34; exact Abv.call _ (HK2.out _))))
                    refine quiet_above ?_
                    intro w8 hb8
                    clear n1 n2 hd1 p1 q1
                    have r0 := bkeep hb8 (HCY.out 0 _ rfl)
                    have r1 := bkeep hb8 (HCY.out 1 _ rfl)
                    have r2 := bkeep hb8 (HCY.out 2 _ rfl)
                    have r3 := bkeep hb8 (HCY.out 3 _ rfl)
                    have r4 := bkeep hb8 (HCY.out 4 _ rfl)
                    have s0 := bkeep hb8 (HCX.out 0 _ rfl)
                    have s1 := bkeep hb8 (HCX.out 1 _ rfl)
                    have s2 := bkeep hb8 (HCX.out 2 _ rfl)
                    have s3 := bkeep hb8 (HCX.out 3 _ rfl)
                    have s4 := bkeep hb8 (HCX.out 4 _ rfl)
                    rw [Nat.add_zero] at r0 s0
                    have HFR8 := Lib.hid (fun i => (hb8.frozen (p := ⟨g, i, none⟩) hgl.out).trans (HFR.out i))
                    have f0 := HFR8.out (j * 5)
                    have f1 := HFR8.out (j * 5 + 1)
                    have f2 := HFR8.out (j * 5 + 2)
                    have f3 := HFR8.out (j * 5 + 3)
                    have f4 := HFR8.out (j * 5 + 4)
                    have e0 := HFR8.out ((j - 1) * 5)
                    have e1 := HFR8.out ((j - 1) * 5 + 1)
                    have e2 := HFR8.out ((j - 1) * 5 + 2)
                    have e3 := HFR8.out ((j - 1) * 5 + 3)
                    have e4 := HFR8.out ((j - 1) * 5 + 4)
                    have hg8 : g < w8.heap.size := Nat.lt_of_lt_of_le hgl.out hb8.size
                    have hgne : g ≠ w8.heap.size := by omega
                    have HB8 := Lib.hid hb8
                    clear hb8
                    have S1 := Lib.hid (GRow.set5 (E' := fun q cs => ∀ z, (if q = j then some y else (insAt acc x j)[q]?) = some z → kN.K w0 z cs) (hGR.out.below HB8.out) j hjn (.int .i64 y.f0) (.string y.f1) (.slice A3 y.f2.length c3') (.int .i64 y.f3) (.int .i64 y.f4)
                      (fun z hz => by rw [if_pos rfl] at hz; obtain rfl := Option.some.inj hz; exact HKY.out)
                      (fun q cs hq h z hz => by rw [if_neg hq] at hz; exact h z hz))
                    have S2 := Lib.hid (GRow.set5 (E' := fun q cs => ∀ z, (insAt acc x (j - 1))[q]? = some z → kN.K w0 z cs) S1.out.1 (j - 1) (by omega) (.int .i64 x.f0) (.string x.f1) (.slice A4 x.f2.length c4') (.int .i64 x.f3) (.int .i64 x.f4)
                      (fun z hz => by rw [ins_get _ _ _ _ (by omega), if_neg (by omega), if_pos rfl] at hz; obtain rfl := Option.some.inj hz; exact HKX.out)
                      (fun q cs hq h z hz => h z (by
                        rw [ins_get _ _ _ _ (by omega)] at hz
                        by_cases hqj : q = j
                        · rw [if_pos hqj]
                          rw [hqj, if_neg (by omega), if_neg (by omega), HY.out] at hz
                          exact hz
                        · rw [if_neg hqj, ins_get _ _ _ _ hj]
                          by_cases hql : q < j
                          · rw [if_pos (by omega)] at hz; rw [if_pos hql]; exact hz
                          · rw [if_neg (by omega), if_neg hq] at hz; rw [if_neg hql, if_neg hqj]; exact hz)))
                    have hwg : w.heap.size ≤ g := by have := HB1.out; omega
                    have GN := Lib.hid (S2.out.1.below (balloc (Below.refl _ _) (.cells #[.int .i64 x.f0, .string x.f1, .slice A4 x.f2.length c4', .int .i64 x.f3, .int .i64 x.f4] 35)))
                    have RN := Lib.hid (Kd.R_below (Kd.R_grown (Kd.R_grown (Kd.R_below hRA.out HB8.out) S1.out.2 (fun q hq e => by injection e with e; omega)) S2.out.2 (fun q hq e => by injection e with e; omega)) (balloc (Below.refl _ _) (.cells #[.int .i64 x.f0, .string x.f1, .slice A4 x.f2.length c4', .int .i64 x.f3, .int .i64 x.f4] 35)))
                    have BN := Lib.hid (balloc (below_set (below_set (bgo hB.out HB8.out) hwg S1.out.2) hwg S2.out.2) (.cells #[.int .i64 x.f0, .string x.f1, .slice A4 x.f2.length c4', .int .i64 x.f3, .int .i64 x.f4] 35))
                    have DN := Lib.hid (show ∀ z ∈ acc.drop (j - 1), 0 < compB z.f1 x.f1 from fun z hz => by
                      rw [List.drop_eq_getElem_cons (show j - 1 < acc.length by omega), show j - 1 + 1 = j by omega] at hz
                      rcases List.mem_cons.1 hz with rfl | hz
                      · have := HY.out
                        rw [List.getElem?_eq_getElem (show j - 1 < acc.length by omega)] at this
                        have := Option.some.inj this
                        rw [this, HCBE.out]
                        exact HCMP.out
                      · exact hdr.out z hz)
                    have HJ1 := Lib.hid (show ((j - 1 : Nat) : Int) = (j : Int) - 1 by omega)
                    have hB8s : B1 ≤ w8.heap.size := Nat.le_trans hBs.out HB8.out.size
                    go_wp2
                    clear r0 r1 r2 r3 r4 s0 s1 s2 s3 s4 f0 f1 f2 f3 f4 e0 e1 e2 e3 e4
                    go_roundw
                    case rel => exact ⟨j - 1, by rw [HJ1.out], by omega, GN, RN, BN, Lib.hid (by simp; omega), Lib.hid (by simp; omega), DN⟩
                    case measure => simp [intOf]; omega
                  · have hd1 : decide (0 < compB y.f1 x.f1) = false := decide_eq_false hcmp
                    have HSS := Lib.hid (ins_sorted acc x j hj hso.out hdr.out (.inr ⟨y, HY.out, by omega⟩))
                    clear hcmp HCX HCY HKX HKY HY HFR
                    generalize compB y.f1 x.f1 = cb at *
                    refine wp_region_above (by kernel_rfl) (by kernel_rfl) ?_
                    intro ne
                    have n1 := fun n : Abv W1 => n.cell p1
                    have n2 := fun n : Abv W1 => n.cell q1
                    repeat (go_big_quiet_step ((go_at_call 34; exact Abv.call _ (HK2.out _))))
                    refine quiet_above ?_
                    intro w8 hb8
                    clear n1 n2 hd1 p1 q1 jj1 jj2 jj3 jj4
                    go_wp2
                    go_roundw
                    case rel => exact ⟨k + 1, insAt acc x j, by go_num, by omega, by rw [ins_len _ _ _ hj, HAL.out], Lib.hid (GRow.to_fixedOk (by rw [ins_len _ _ _ hj, HNN.out]) (hGR.out.below hb8) hgB), Lib.hid (Kd.R_below hRA.out hb8), Lib.hid (bgo hB.out hb8), Lib.hid (Nat.le_trans hBs.out hb8.size), Lib.hid (by rw [HTK.out]; exact (ins_perm acc x j).trans (hpm.out.append_right [x])), HSS⟩
                    case measure => simp [intOf]; omega
                · have hj1 : decide (0 < j) = false := decide_eq_false hj0
                  have HSS := Lib.hid (ins_sorted acc x j hj hso.out hdr.out (.inl (by omega)))
                  clear hj0 jj1 jj4
                  go_wp2
                  refine wp_world ?_
                  intro W1 hW1
                  obtain rfl := hW1
                  refine wp_region_above (by kernel_rfl) (by kernel_rfl) ?_
                  intro ne
                  repeat (go_big_quiet_step (fail))
                  refine quiet_above ?_
                  intro w8 hb8
                  clear hj1
                  go_wp2
                  go_roundw
                  case rel => exact ⟨k + 1, insAt acc x j, by go_num, by omega, by rw [ins_len _ _ _ hj, HAL.out], Lib.hid (GRow.to_fixedOk (by rw [ins_len _ _ _ hj, HNN.out]) (hGR.out.below hb8) hgB), Lib.hid (Kd.R_below hRA.out hb8), Lib.hid (bgo hB.out hb8), Lib.hid (Nat.le_trans hBs.out hb8.size), Lib.hid (by rw [HTK.out]; exact (ins_perm acc x j).trans (hpm.out.append_right [x])), HSS⟩
                  case measure => simp [intOf]; omega
            · obtain rfl : k = G.length := by omega
              have HPM := Lib.hid (show G.Perm acc by have := hpm.out; rw [List.take_length] at this; exact this.symm)
              have HSO := hso
              obtain ⟨A9, c9, rfl, hl9, hC9⟩ := Kd.R_reads hR.out
              have HCK := Lib.hid (refCheck_calls A9 c9 acc _ (fixed_C hC9 (bgo h0w hB.out)) (fun x hx => HGO.out.1 x (HPM.out.symm.subset hx)) hl9 (by omega))
              have HR9 := Lib.hid (Kd.R_mono hR.out (ok' := fun _ => True) (fun _ _ => trivial))
              have HAL := Lib.hid hal
              clear hpm hso hC9 hl9 hR hRA hal hlt hk
              by_cases hz : (chk acc).2 = 0
              · have HSP := Lib.hid (show GrowSpec l 0 acc from .inr ⟨HB0.out, acc, by rw [HGE.out]; exact HPM.out, HSO.out, hz.symm, by rw [if_pos hz]⟩)
                rw [hz] at HCK
                clear hz
                generalize (chk acc).1 = at_ at *
                go_wp2_with (go_at_call 16; refine HCK.out.mono ?_; rintro e9 w9 ⟨rfl, hb9⟩)
                go_ret2
                exact ⟨_, _, acc, rfl, Kd.R_below HR9.out hb9, bgo hB.out hb9, HSP.out⟩
              · have HSP := Lib.hid (show GrowSpec l (chk acc).2 [] from .inr ⟨HB0.out, acc, by rw [HGE.out]; exact HPM.out, HSO.out, rfl, by rw [if_neg hz]⟩)
                have hz2 : ((chk acc).2 != 0) = true := by simpa using hz
                clear hz
                generalize (chk acc).1 = at_ at *
                generalize (chk acc).2 = er at *
                go_wp2_with (go_at_call 16; refine HCK.out.mono ?_; rintro e9 w9 ⟨rfl, hb9⟩)
                go_ret2
                exact gpost_none HSP.out (bgo hB.out hb9)
end Go.Proofs.YtoiffnoiliknnaaDoor.Tree
