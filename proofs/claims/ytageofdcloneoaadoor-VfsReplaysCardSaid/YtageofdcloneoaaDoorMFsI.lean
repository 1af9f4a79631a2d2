/- FsI, FsWi, FsSm put together. -/
import Derived.Test.YtageofdcloneoaaDoorMFsW
import Derived.Test.YtageofdcloneoaaDoorMFsT
import Derived.Test.YtageofdcloneoaaDoorMVfsR
import Derived.Test.YtageofdcloneoaaDoorFsShelfThree
set_option linter.unusedVariables false
set_option linter.unusedSimpArgs false
namespace Go.Proofs.YtageofdcloneoaaDoor.Fs
open Go.RowKit Go.Maps Go.Proofs.YtageofdcloneoaaDoor.Rout Go.Proofs.YtageofdcloneoaaDoor.Node Go.Proofs.YtageofdcloneoaaDoor.Tree Go.Proofs.YtageofdcloneoaaDoor.Vfs Go.Proofs.YtageofdcloneoaaDoorW.PrintWords
/-! ### real paths -/
theorem way_dirW {M : NMap} (h : WF M) : ∀ (n : Nat) (p : ByteArray) (x : Nd), M p = some x → x.f0 = 1 → p.size ≤ n → ∀ (k fl : Nat) (r : List ByteArray), wayN M (k + (pcs p).length) emp fl (pcs p ++ r) = wayN M k p fl r
  | n, p, x, hx, h0, hn, k, fl, r => by
    have hv := h.valid p x hx
    have ho := h.own p x hx
    have step (a b : ByteArray) (k : Nat) (hu : underB a b = p) (hb : nameB b = true) : wayN M (k + 1) a fl (b :: r) = wayN M k p fl r := by
      rw [wayN_cons]
      unfold wayS
      rw [if_neg (name_ok hb).1, if_neg (name_ok hb).2.1, hu, hx]
      dsimp only
      rw [if_neg (by omega), if_pos h0, ho]
    rcases par_cut p hv with ⟨h1, h2, h3⟩ | ⟨h1, b, h2, h3⟩
    · rw [h3]
      exact step emp p k (by unfold underB; rw [if_pos (show emp.size = 0 from rfl)]) (valid_pcs hv _ (by rw [h3]; simp))
    · obtain ⟨y, hy, e2⟩ := h.dir p x hx h1
      have hyv := pcs_pos (h.valid _ y hy)
      have hlt : (parB p).1.size < p.size := by
        have := congrArg ByteArray.size h2
        rw [ByteArray.size_append, ByteArray.size_append, show slash.size = 1 from rfl] at this
        omega
      have hnpos : 0 < n := by omega
      have ih := way_dirW h (n - 1) (parB p).1 y hy e2 (by omega) (k + 1) fl (b :: r)
      rw [h3, List.length_append, List.append_assoc, List.singleton_append, List.length_singleton, show k + ((pcs (parB p).1).length + 1) = k + 1 + (pcs (parB p).1).length by omega, ih]
      exact step _ b k (underB_par _ hyv h2) (valid_pcs hv _ (by rw [h3]; simp))
/-- A path whose folder is there leads to itself. -/
theorem real_is {M : NMap} (h : WF M) {p : ByteArray} (hv : validB p = true) (hd : (parB p).2 = true → ∃ y, M (parB p).1 = some y ∧ y.f0 = 1) : realT M p = (p, M p, 0) := by
  have hp := pcs_pos hv
  have hr : realF M p = (p, 0) := by
    unfold realF
    rw [if_neg (by omega), if_neg (by rw [hv]; simp)]
    rcases par_cut p hv with ⟨h1, h2, h3⟩ | ⟨h1, b, h2, h3⟩
    · rw [h3]
      have hw : way M [p].dropLast = (emp, 0) := rfl
      rw [hw, if_pos rfl]
      rfl
    · obtain ⟨y, hy, hy0⟩ := hd h1
      have hyv := pcs_pos (h.valid _ y hy)
      rw [h3, List.dropLast_concat, List.getLastD_concat]
      have hw : way M (pcs (parB p).1) = ((parB p).1, 0) := by
        have := way_dirW h _ _ y hy hy0 (Nat.le_refl _) (mu 0 [] + 1) 0 []
        rw [List.append_nil] at this
        unfold way
        rw [show mu 0 (pcs (parB p).1) + 1 = mu 0 [] + 1 + (pcs (parB p).1).length by unfold mu; simp; omega, this]
        rfl
      rw [hw, if_pos rfl]
      show (underB (parB p).1 b, (0 : Int)) = (p, 0)
      rw [underB_par _ hyv h2]
  unfold realT
  rw [if_neg (by omega), hr]
  rfl
theorem real_own {M : NMap} (h : WF M) {p : ByteArray} {x : Nd} (hx : M p = some x) : realT M p = (p, some x, 0) := by
  rw [real_is h (h.valid p x hx) (h.dir p x hx), hx]
theorem stat_own {M : NMap} (h : WF M) {p : ByteArray} {x : Nd} (hx : M p = some x) : statT M p = (some x, 0) := by
  have := pcs_pos (h.valid p x hx)
  unfold statT
  rw [if_neg (by omega), real_own h hx]
  rfl
/-! ### the order of paths -/
theorem cut_join : ∀ l m : List UInt8, cut l = cut m → l = m
  | [], [], _ => rfl
  | [], d :: m, h => by
    have e : cut (d :: m) = if d = 47 then [] :: cut m else match cut m with | [] => [[d]] | p :: ps => (d :: p) :: ps := rfl
    rw [e] at h
    by_cases hd : d = 47
    · rw [if_pos hd] at h
      have h2 : ([] : List (List UInt8)) = cut m := by injection h
      exact absurd h2.symm (cut_ne m)
    · rw [if_neg hd] at h
      cases hm : cut m with
      | nil => exact absurd hm (cut_ne m)
      | cons p ps => rw [hm] at h; simp [cut] at h
  | c :: l, [], h => by
    have e : cut (c :: l) = if c = 47 then [] :: cut l else match cut l with | [] => [[c]] | p :: ps => (c :: p) :: ps := rfl
    rw [e] at h
    by_cases hd : c = 47
    · rw [if_pos hd] at h
      have h2 : cut l = ([] : List (List UInt8)) := by injection h
      exact absurd h2 (cut_ne l)
    · rw [if_neg hd] at h
      cases hm : cut l with
      | nil => exact absurd hm (cut_ne l)
      | cons p ps => rw [hm] at h; simp [cut] at h
  | c :: l, d :: m, h => by
    have e : ∀ c l, cut (c :: l) = if c = 47 then [] :: cut l else match cut l with | [] => [[c]] | p :: ps => (c :: p) :: ps := fun _ _ => rfl
    rw [e c l, e d m] at h
    by_cases hc : c = 47
    · by_cases hd : d = 47
      · rw [if_pos hc, if_pos hd] at h
        rw [hc, hd, cut_join l m (by injection h)]
      · rw [if_pos hc, if_neg hd] at h
        cases hm : cut m with
        | nil => exact absurd hm (cut_ne m)
        | cons p ps => rw [hm] at h; simp at h
    · by_cases hd : d = 47
      · rw [if_neg hc, if_pos hd] at h
        cases hm : cut l with
        | nil => exact absurd hm (cut_ne l)
        | cons p ps => rw [hm] at h; simp at h
      · rw [if_neg hc, if_neg hd] at h
        cases hl : cut l with
        | nil => exact absurd hl (cut_ne l)
        | cons p ps =>
          cases hm : cut m with
          | nil => exact absurd hm (cut_ne m)
          | cons q qs =>
            rw [hl, hm] at h
            simp only [List.cons.injEq] at h
            obtain ⟨⟨h1, h2⟩, h3⟩ := h
            rw [h1, cut_join l m (by rw [hl, hm, h2, h3])]
theorem pcs_inj {s t : ByteArray} (h : pcs s = pcs t) : s = t := by
  unfold pcs at h
  apply ba_ext
  apply cut_join
  have h2 := congrArg (List.map (fun b : ByteArray => b.data.toList)) h
  simp only [List.map_map] at h2
  have e : (fun b : ByteArray => b.data.toList) ∘ toB = id := by funext l; simp [data_toB]
  rw [e, List.map_id, List.map_id] at h2
  exact h2
theorem cmpL_eq : ∀ a b, 0 ≤ cmpL a b → 0 ≤ cmpL b a → a = b
  | [], [], _, _ => rfl
  | [], _ :: _, h, _ => absurd (show (0 : Int) ≤ -1 from h) (by decide)
  | _ :: _, [], _, h => absurd (show (0 : Int) ≤ -1 from h) (by decide)
  | x :: a, y :: b, h1, h2 => by
    have h1 : 0 ≤ (if cmpB x y = 0 then cmpL a b else cmpB x y) := h1
    have h2 : 0 ≤ (if cmpB y x = 0 then cmpL b a else cmpB y x) := h2
    rcases cmpB_cases x y with ⟨e1, q1⟩ | ⟨e1, q1⟩ | ⟨e1, q1⟩
    · rw [e1, if_neg (by decide)] at h1; omega
    · have hxy : x = y := by
        rw [toList_data, toList_data] at q1
        exact ba_ext q1
      subst hxy
      rw [cmpB_self, if_pos rfl] at h1 h2
      rw [cmpL_eq a b h1 h2]
    · rw [cmpB_neg q1, if_neg (by decide)] at h2; omega
theorem compB_eq {a b : ByteArray} (h1 : 0 ≤ compB a b) (h2 : 0 ≤ compB b a) : a = b := pcs_inj (cmpL_eq _ _ h1 h2)
theorem paths_strict {M : NMap} {ps : List ByteArray} (h : Paths M ps) : ps.Pairwise (fun a b => compB a b < 0) := by
  refine (h.up.and h.once).imp (fun {a b} hab => ?_)
  rcases Int.lt_or_le (compB a b) 0 with h1 | h1
  · exact h1
  · exact absurd (compB_eq h1 hab.1) hab.2
theorem paths_one {M : NMap} {ps qs : List ByteArray} (h : Paths M ps) (k : Paths M qs) : ps = qs := by
  refine sorted_one (R := fun a b => compB a b < 0) (fun x => by rw [compB_self]; decide) (fun x y z => compB_trans) ?_ (paths_strict h) (paths_strict k)
  exact (List.perm_ext_iff_of_nodup h.once k.once).2 (fun q => (h.mem q).trans (k.mem q).symm)
theorem map_some_inj : ∀ {l m : List Nd}, l.map some = m.map some → l = m
  | [], [], _ => rfl
  | [], _ :: _, h => by simp at h
  | _ :: _, [], h => by simp at h
  | x :: l, y :: m, h => by
    simp only [List.map_cons, List.cons.injEq, Option.some.injEq] at h
    rw [h.1, map_some_inj h.2]
theorem treeOf_one {M : NMap} {l m : List Nd} (h : TreeOf M l) (k : TreeOf M m) : l = m := by
  obtain ⟨ps, h1, h2⟩ := h
  obtain ⟨qs, k1, k2⟩ := k
  rw [paths_one h1 k1] at h2
  exact map_some_inj (h2.trans k2.symm)
theorem treeOf_mem {M : NMap} {l : List Nd} (h : TreeOf M l) (hw : WF M) (x : Nd) : x ∈ l ↔ M x.f1 = some x := by
  obtain ⟨ps, h1, h2⟩ := h
  constructor
  · intro hx
    have : some x ∈ ps.map M := by rw [← h2]; exact List.mem_map.2 ⟨x, hx, rfl⟩
    obtain ⟨p, hp, e⟩ := List.mem_map.1 this
    rw [hw.own p x e]
    exact e
  · intro hx
    have hp := (h1.mem x.f1).2 (by rw [hx]; rfl)
    have : some x ∈ l.map some := by rw [h2]; exact List.mem_map.2 ⟨x.f1, hp, hx⟩
    obtain ⟨y, hy, e⟩ := List.mem_map.1 this
    injection e with e
    rw [← e]
    exact hy
theorem treeOf_paths {M : NMap} {l : List Nd} (h : TreeOf M l) (hw : WF M) : l.map Nd.f1 = (Classical.choose h) := by
  have h1 := (Classical.choose_spec h).1
  have h2 := (Classical.choose_spec h).2
  generalize Classical.choose h = ps at *
  clear h
  have key : ∀ (l : List Nd) (ps : List ByteArray), l.map some = ps.map M → l.map Nd.f1 = ps := by
    intro l
    induction l with
    | nil => intro ps h; cases ps with
      | nil => rfl
      | cons a r => simp at h
    | cons x l ih => intro ps h; cases ps with
      | nil => simp at h
      | cons a r =>
        simp only [List.map_cons, List.cons.injEq] at h ⊢
        exact ⟨hw.own a x h.1.symm, ih r h.2⟩
  exact key l ps h2
theorem treeOf_sorted {M : NMap} {l : List Nd} (h : TreeOf M l) (hw : WF M) : l.Pairwise (fun x y => compB x.f1 y.f1 < 0) := by
  have h1 := paths_strict (Classical.choose_spec h).1
  rw [← treeOf_paths h hw, List.pairwise_map] at h1
  exact h1
/-! ### tree.Check of it -/
theorem cmpL_prefix : ∀ (a : List ByteArray) (b : ByteArray), cmpL a (a ++ [b]) = -1
  | [], _ => rfl
  | x :: a, b => by
    show (if cmpB x x = 0 then cmpL a (a ++ [b]) else cmpB x x) = -1
    rw [cmpB_self, if_pos rfl, cmpL_prefix a b]
theorem par_less {q : ByteArray} (hv : validB q = true) (hp : (parB q).2 = true) : compB (parB q).1 q < 0 := by
  rcases par_cut q hv with ⟨h1, _⟩ | ⟨_, b, _, h3⟩
  · rw [hp] at h1; cases h1
  · unfold compB
    rw [h3, cmpL_prefix]
    decide
theorem isDir_in : ∀ (l : List Nd) (y : Nd), y ∈ l → y.f0 = 1 → l.Pairwise (fun a b => a.f1 ≠ b.f1) → isDir l y.f1 = true := by
  intro l
  induction l using snoc_ind with
  | h0 => intro y hy; cases hy
  | h1 l x ih =>
    intro y hy h0 hp
    rw [isDir_snoc]
    rw [List.pairwise_append] at hp
    rcases List.mem_append.1 hy with h | h
    · rw [if_neg (fun e => hp.2.2 y h x (by simp) e.symm)]
      exact ih y h h0 hp.1
    · obtain rfl : y = x := by simpa using h
      rw [if_pos rfl, h0]
      rfl
theorem tree_chk {M : NMap} {l : List Nd} (h : TreeOf M l) (hw : WF M) (hl : l.length ≤ 65536) : (chk l).2 = 0 := by
  rw [chk_ok]
  intro k hk
  have hs := treeOf_sorted h hw
  have hM : ∀ i (hi : i < l.length), M l[i].f1 = some l[i] := fun i hi => (treeOf_mem h hw _).1 (List.getElem_mem hi)
  have hg := rdN_get l k hk
  have hMk := hM k hk
  unfold errAt
  rw [hg]
  rw [if_neg (by rw [hw.valid _ _ hMk]; simp), if_neg (by rw [hw.may _ _ hMk]; simp; omega), if_neg, if_neg]
  · rintro ⟨hp, hd⟩
    obtain ⟨y, hy, hy0⟩ := hw.dir _ _ hMk hp
    have ho := hw.own _ _ hy
    have hyl : y ∈ l := (treeOf_mem h hw y).2 (by rw [ho]; exact hy)
    obtain ⟨j, hj, e⟩ := List.getElem_of_mem hyl
    have hlt : compB y.f1 l[k].f1 < 0 := by rw [ho]; exact par_less (hw.valid _ _ hMk) hp
    have hjk : j < k := by
      rcases Nat.lt_trichotomy j k with h1 | h1 | h1
      · exact h1
      · subst h1; rw [e, compB_self] at hlt; omega
      · have h2 := (List.pairwise_iff_getElem.1 hs) k j hk hj h1
        rw [e] at h2
        have := compB_trans hlt h2
        rw [compB_self] at this
        omega
    have hyt : y ∈ l.take k := by
      rw [← e]
      exact List.mem_take_iff_getElem.2 ⟨j, by omega, rfl⟩
    have := isDir_in (l.take k) y hyt hy0 ((hs.sublist (List.take_sublist k l)).imp (fun {a b} hab e => by rw [e, compB_self] at hab; omega))
    rw [ho, hd] at this
    cases this
  · rintro ⟨h0, h1⟩
    have e : rdN l ((k : Int) - 1) = l[k - 1] := by rw [show ((k : Int) - 1) = ((k - 1 : Nat) : Int) by omega]; exact rdN_get l (k - 1) (by omega)
    rw [e] at h1
    have := (List.pairwise_iff_getElem.1 hs) (k - 1) k (by omega) hk (by omega)
    omega
/-! ### VfsTouches -/
theorem in_or {a q : ByteArray} : inB a q ↔ (q = a ∨ belowB a q = true) := Iff.rfl
/-- Outside of its path nothing is changed. -/
theorem Step.far {M M' : NMap} {cnt n : Nat} {c : Chg} (k : Step M cnt c M' n) (h : WF M) {q : ByteArray} {x : Nd} (hx : M q = some x) (hq : ¬ inB c.path q) : M' q = some x := by
  have hne : q ≠ c.path := fun e => hq (.inl e)
  cases k with
  | make m t hd hv hno hdir hm h2 hc =>
    unfold putM
    rw [if_neg (fun e => hne e.symm)]
    exact hx
  | write y hk hd hy h1 h3 hl hb =>
    unfold putM
    rw [if_neg (fun e => hne (by rw [← h.own _ _ hy]; exact e.symm))]
    exact hx
  | remove hk hd hy hb he =>
    unfold delM
    rw [if_neg hne]
    exact hx
  | rename hk hy hno hdir hb hv he =>
    rw [move_rest (wf_up h) hno (by rw [hx]; rfl) hq]
    exact hx
/-- What is there behind it lies at its path, at its new one, or was there. -/
theorem Step.from_ {M M' : NMap} {cnt n : Nat} {c : Chg} (k : Step M cnt c M' n) (h : WF M) {q : ByteArray} {y : Nd} (hy : M' q = some y) : inB c.path q ∨ (0 < c.dest.size ∧ inB c.dest q) ∨ ∃ x, M q = some x := by
  cases k with
  | make m t hd hv hno hdir hm h2 hc =>
    unfold putM at hy
    split at hy
    · rename_i e
      exact .inl (.inl e.symm)
    · exact .inr (.inr ⟨y, hy⟩)
  | write x hk hd hx h1 h3 hl hb =>
    unfold putM at hy
    split at hy
    · rename_i e
      have e : x.f1 = q := e
      exact .inl (.inl (by rw [← e]; exact h.own _ _ hx))
    · exact .inr (.inr ⟨y, hy⟩)
  | remove hk hd hx hb he =>
    unfold delM at hy
    split at hy
    · cases hy
    · exact .inr (.inr ⟨y, hy⟩)
  | rename hk hx hno hdir hb hv he =>
    unfold moveM at hy
    split at hy
    · rename_i e
      refine .inr (.inl ⟨?_, e.1⟩)
      have := hv c.path hx (.inl rfl)
      rw [turn_self] at this
      exact pcs_pos this
    · split at hy
      · cases hy
      · exact .inr (.inr ⟨y, hy⟩)
end Go.Proofs.YtageofdcloneoaaDoor.Fs
set_option linter.unusedVariables false
set_option linter.unusedSimpArgs false
namespace Go.Proofs.YtageofdcloneoaaDoor.Fs
open Go.RowKit Go.BigFrame Go.Maps Go.Proofs.YtageofdcloneoaaDoor.Reg Go.Proofs.YtageofdcloneoaaDoor.Rout Go.Proofs.YtageofdcloneoaaDoor.Node Go.Proofs.YtageofdcloneoaaDoor.Tree Go.Proofs.YtageofdcloneoaaDoor.Vfs Go.Proofs.YtageofdcloneoaaDoorW.PrintWords Go.Proofs.YtageofdcloneoaaDoorW.PrintLast Go.Proofs.YtageofdcloneoaaDoorW.PrintMore
attribute [local go_sem ↓] Go.wp_at_zero Go.wp_at_succ
def withinB (s a : ByteArray) : Bool := validB s && (validB a && belowB a s)
set_option maxHeartbeats 2000000 in
theorem isin_calls (s a : ByteArray) (w : World) (hs : s.size ≤ 140737488351232) (ha : a.size ≤ 140737488351232) :
    Calls Tryd.prog 18 #[.string s, .string a] w fun e w' => e = .returned (.bool (withinB s a)) ∧ Below w.heap.size w w' := by
  have H1 := Lib.hid (valid_calls s w (by omega))
  have H2 := Lib.hid (fun W => valid_calls a W (by omega))
  have HE := Lib.hid (show withinB s a = (validB s && (validB a && Lib.hasPrefix s.data.toList (a ++ slash).data.toList)) from rfl)
  cases h1 : validB s
  · rw [h1] at H1 HE
    have HR := Lib.hid (show withinB s a = false by rw [HE.out]; rfl)
    clear h1 HE
    go_enter Tryd.func18, Tryd.ntmps18
    go_wp2_with (go_at_call 21; refine H1.out.mono ?_; rintro e w1 ⟨rfl, hb1⟩)
    go_ret
    exact ⟨ret_bool HR.out.symm, hb1⟩
  · rw [h1] at H1 HE
    cases h2 : validB a
    · rw [h2] at H2 HE
      have HR := Lib.hid (show withinB s a = false by rw [HE.out]; rfl)
      clear h1 h2 HE
      go_enter Tryd.func18, Tryd.ntmps18
      go_wp2_with (first | (go_at_call 21; with_reducible refine (H2.out w1).mono ?_; rintro e w2 ⟨rfl, hb2⟩) | (go_at_call 21; with_reducible refine H1.out.mono ?_; rintro e w1 ⟨rfl, hb1⟩))
      go_ret
      exact ⟨ret_bool HR.out.symm, bgo hb1 hb2⟩
    · rw [h2] at H2 HE
      have HP := Lib.hid (fun W => Tryd.strings_HasPrefix s (a ++ slash) W)
      have hsz := valid_size a h2
      have hba : (a ++ slash).size ≤ 140737488355328 := by rw [ByteArray.size_append, show slash.size = 1 from rfl]; omega
      have hcase : ∀ B : Bool, Lib.hasPrefix s.data.toList (a ++ slash).data.toList = B → withinB s a = B := fun B h => by rw [HE.out, h]; rfl
      have HR := Lib.hid (hcase _ rfl)
      clear h1 h2 HE hcase
      unfold slash at HP hba HR
      generalize Lib.hasPrefix s.data.toList (a ++ ⟨#[47]⟩).data.toList = B at *
      go_enter Tryd.func18, Tryd.ntmps18
      go_wp2_with (first | (go_at_call 31; with_reducible refine (HP.out w2).mono ?_; rintro e w3 ⟨rfl, rfl⟩) | (go_at_call 21; with_reducible refine (H2.out w1).mono ?_; rintro e w2 ⟨rfl, hb2⟩) | (go_at_call 21; with_reducible refine H1.out.mono ?_; rintro e w1 ⟨rfl, hb1⟩))
      cases B
      all_goals
        go_wp2
        go_ret
        exact ⟨ret_bool HR.out.symm, bgo hb1 hb2⟩
/-! ### New -/
theorem size_says {w : World} {base b n : Nat} {ok : Nat → Prop} {l : List Nd} {D : DataW Value} (h : ownN w b n D) (hs : Says D w base ok (mapL l)) (T : IsTree l) (hd : (l.map Nd.f1).Nodup) : Maps.size D = l.length := by
  obtain ⟨hnd, hmem⟩ := keys_facts h
  have hlen : Maps.size D = (strKeys D).length := by
    obtain ⟨es, hD, _⟩ := World.ownsMap.entries h key9
    subst hD
    simp [Maps.size, strKeys]
  have hinj : ∀ x y : List UInt8, ofL x = ofL y → x = y := fun x y e => by rw [← ofL_list x, e, ofL_list]
  have h1 : ((strKeys D).map ofL).Nodup := List.Pairwise.map _ (fun x y hne e => hne (hinj x y e)) hnd
  have h2 : ((strKeys D).map ofL).Perm (l.map Nd.f1) := (List.perm_ext_iff_of_nodup h1 hd).2 (fun q => by
    have hq := says_has hs q
    constructor
    · intro hm
      obtain ⟨x, hx, rfl⟩ := List.mem_map.1 hm
      have hk := (hmem x).1 hx
      rw [ofL_list, hk] at hq
      obtain ⟨y, hy⟩ := Option.isSome_iff_exists.1 hq.symm
      obtain ⟨e, hyl⟩ := mapL_f1 _ _ _ hy
      exact List.mem_map.2 ⟨y, hyl, e⟩
    · intro hm
      obtain ⟨y, hy, rfl⟩ := List.mem_map.1 hm
      have hM := T.own y hy
      rw [hM] at hq
      have := (hmem y.f1.data.toList).2 hq
      refine List.mem_map.2 ⟨_, this, ?_⟩
      apply ba_ext
      rw [ofL_list])
  rw [hlen, ← List.length_map (f := ofL), h2.length_eq, List.length_map]
theorem chk_once (l : List Nd) (h : (chk l).2 = 0) : (l.map Nd.f1).Nodup := by
  have hk := (chk_ok l).1 h
  have hp := chain_pw Before before_trans l (fun k h0 h1 => (err_zero l k (hk k h1)).2.2.2.1 h0)
  refine List.pairwise_map.2 (hp.imp (fun {a b} hab e => ?_))
  unfold Before at hab
  rw [e, compB_self] at hab
  omega
/-- New, of a tree: a file system. -/
theorem new_fs (A : Option Addr) (c : Nat) (l : List Nd) (w : World) (hC : kN.C w A l.length l) (hok : ∀ x ∈ l, Ok x) (hl : l.length ≤ 140737488351232) (hb : (chk l).2 = 0) :
    Calls Tryd.prog 6 #[.slice A l.length c] w fun e w' => ∃ b, e = .returned (.tuple #[.pointer (some ⟨b + 1, 0, none⟩), .int .i64 0]) ∧ w.heap.size ≤ b ∧ Hid (FsAt w' w.heap.size (b + 1) b (.slice none 0 0) (newSt l)) ∧ Below w.heap.size w w' := by
  have T := tree_is l hb
  exact (new_good A c l w hC hok hl hb).mono fun e w' ⟨b, he, hbb, hF, hM, hb1⟩ => ⟨b, he, hbb, Lib.hid (fsNew hF hM hbb T.len (fun D h1 h2 => size_says h1 h2 T (chk_once l hb))), hb1⟩
end Go.Proofs.YtageofdcloneoaaDoor.Fs
set_option linter.unusedVariables false
set_option linter.unusedSimpArgs false
namespace Go.Proofs.YtageofdcloneoaaDoor.Tree
open Go.RowKit Go.BigFrame Go.Maps Go.Proofs.YtageofdcloneoaaDoor.Reg Go.Proofs.YtageofdcloneoaaDoor.Rout Go.Proofs.YtageofdcloneoaaDoor.Node Go.Proofs.YtageofdcloneoaaDoorW.PrintWords Go.Proofs.YtageofdcloneoaaDoorW.PrintLast Go.Proofs.YtageofdcloneoaaDoorW.PrintMore
def oneB (x y : Nd) : Bool := (x.f0 == y.f0) && (x.f1.toList == y.f1.toList) && (x.f2 == y.f2) && (x.f3 == y.f3) && (x.f4 == y.f4)
def sameB : List Nd → List Nd → Bool
  | [], [] => true
  | x :: r, y :: q => oneB x y && sameB r q
  | _, _ => false
theorem bytes_eq : ∀ xs ys : List Int, (∀ b ∈ xs, 0 ≤ b ∧ b ≤ 255) → (∀ b ∈ ys, 0 ≤ b ∧ b ≤ 255) → (Lib.bytesOf xs == Lib.bytesOf ys) = (xs == ys)
  | [], [], _, _ => rfl
  | [], b :: r, _, _ => rfl
  | a :: r, [], _, _ => rfl
  | a :: r, b :: q, hx, hy => by
    have ih := bytes_eq r q (fun c hc => hx c (by simp [hc])) (fun c hc => hy c (by simp [hc]))
    have ha := hx a (by simp)
    have hb := hy b (by simp)
    have e1 : Lib.bytesOf (a :: r) = a.toNat.toUInt8 :: Lib.bytesOf r := rfl
    have e2 : Lib.bytesOf (b :: q) = b.toNat.toUInt8 :: Lib.bytesOf q := rfl
    rw [e1, e2]
    show ((a.toNat.toUInt8 == b.toNat.toUInt8) && (Lib.bytesOf r == Lib.bytesOf q)) = ((a == b) && (r == q))
    rw [ih]
    congr 1
    rw [Bool.eq_iff_iff, beq_iff_eq, beq_iff_eq]
    constructor
    · intro h
      have := congrArg UInt8.toNat h
      simp at this
      omega
    · rintro rfl; rfl
theorem bytesIn {w : World} {A : Option Addr} {xs : List Int} (h : (Kd.int .u8).C w A xs.length xs) : Lib.BytesIn w A xs.length xs := by
  cases A with
  | none =>
    intro hn
    obtain ⟨ad, he, _⟩ := Kd.at_int h 0 (by omega) (by omega)
    cases he
  | some ad =>
    refine Lib.BytesIn.of_cells (fun i hi => ?_)
    obtain ⟨ad2, hA2, hx2⟩ := Kd.at_int h (i : Int) (by omega) (by omega)
    obtain rfl := Option.some.inj hA2
    rw [Int.toNat_natCast] at hx2
    rw [hx2]
    unfold rd
    rw [Int.toNat_natCast]
set_option maxHeartbeats 8000000 in
theorem one_calls (x y : Nd) (A B : Option Addr) (c d : Nat) (w : World) (hA : (Kd.int .u8).C w A x.f2.length x.f2) (hB : (Kd.int .u8).C w B y.f2.length y.f2) (hx : Ok x) (hy : Ok y) :
    Calls Tryd.prog 39 #[.agg #[.int .i64 x.f0, .string x.f1, .slice A x.f2.length c, .int .i64 x.f3, .int .i64 x.f4], .agg #[.int .i64 y.f0, .string y.f1, .slice B y.f2.length d, .int .i64 y.f3, .int .i64 y.f4]] w fun e w' => e = .returned (.bool (oneB x y)) ∧ Below w.heap.size w w' := by
  have HE := Lib.hid (show oneB x y = ((x.f0 == y.f0) && (x.f1.toList == y.f1.toList) && (x.f2 == y.f2) && (x.f3 == y.f3) && (x.f4 == y.f4)) from rfl)
  have hbe := bytes_eq x.f2 y.f2 hx.by_ hy.by_
  have HC := Lib.hid (fun W (h : Below w.heap.size w W) => Tryd.bytes_Equal_all A B x.f2.length c y.f2.length d x.f2 y.f2 W rfl rfl (bytesIn (Kd.C_below hA h)) (bytesIn (Kd.C_below hB h)))
  rw [hbe] at HC
  clear hA hB hx hy hbe
  cases h0 : (x.f0 == y.f0)
  · have hE := Lib.hid (show oneB x y = false by rw [HE.out, h0]; rfl)
    go_enter Tryd.func39, Tryd.ntmps39
    go_wp2
    go_ret
    exact ⟨ret_bool (by first | exact hE.out.symm | (rw [hE.out]; simp)), by repeat (first | with_reducible exact Below.refl _ _ | apply balloc)⟩
  cases h1 : (x.f1.toList == y.f1.toList)
  · have hE := Lib.hid (show oneB x y = false by rw [HE.out, h1]; simp)
    go_enter Tryd.func39, Tryd.ntmps39
    go_wp2
    go_ret
    exact ⟨ret_bool (by first | exact hE.out.symm | (rw [hE.out]; simp)), by repeat (first | with_reducible exact Below.refl _ _ | apply balloc)⟩
  cases h2 : (x.f2 == y.f2)
  · rw [h2] at HC
    have hE := Lib.hid (show oneB x y = false by rw [HE.out, h2]; simp)
    go_enter Tryd.func39, Tryd.ntmps39
    go_wp2_with (go_at_call 40; refine (HC.out _ (by repeat (first | with_reducible exact Below.refl _ _ | apply balloc))).mono ?_; rintro e1 w1 ⟨rfl, rfl⟩)
    go_ret
    exact ⟨ret_bool (by first | exact hE.out.symm | (rw [hE.out]; simp)), by repeat (first | with_reducible exact Below.refl _ _ | apply balloc)⟩
  rw [h2] at HC
  cases h3 : (x.f3 == y.f3)
  · have hE := Lib.hid (show oneB x y = false by rw [HE.out, h3]; simp)
    go_enter Tryd.func39, Tryd.ntmps39
    go_wp2_with (go_at_call 40; refine (HC.out _ (by repeat (first | with_reducible exact Below.refl _ _ | apply balloc))).mono ?_; rintro e1 w1 ⟨rfl, rfl⟩)
    go_ret
    exact ⟨ret_bool (by first | exact hE.out.symm | (rw [hE.out]; simp)), by repeat (first | with_reducible exact Below.refl _ _ | apply balloc)⟩
  cases h4 : (x.f4 == y.f4)
  · have hE := Lib.hid (show oneB x y = false by rw [HE.out, h4]; simp)
    go_enter Tryd.func39, Tryd.ntmps39
    go_wp2_with (go_at_call 40; refine (HC.out _ (by repeat (first | with_reducible exact Below.refl _ _ | apply balloc))).mono ?_; rintro e1 w1 ⟨rfl, rfl⟩)
    go_ret
    exact ⟨ret_bool (by first | exact hE.out.symm | (rw [hE.out]; simp)), by repeat (first | with_reducible exact Below.refl _ _ | apply balloc)⟩
  · have hE := Lib.hid (show oneB x y = true by rw [HE.out, h0, h1, h2, h3, h4]; rfl)
    go_enter Tryd.func39, Tryd.ntmps39
    go_wp2_with (go_at_call 40; refine (HC.out _ (by repeat (first | with_reducible exact Below.refl _ _ | apply balloc))).mono ?_; rintro e1 w1 ⟨rfl, rfl⟩)
    go_ret
    exact ⟨ret_bool (by first | exact hE.out.symm | (rw [hE.out]; simp)), by repeat (first | with_reducible exact Below.refl _ _ | apply balloc)⟩
theorem sameB_len : ∀ xs ys : List Nd, xs.length ≠ ys.length → sameB xs ys = false
  | [], [], h => absurd rfl h
  | [], _ :: _, _ => rfl
  | _ :: _, [], _ => rfl
  | x :: r, y :: q, h => by
    show (oneB x y && sameB r q) = false
    rw [sameB_len r q (by simpa using h), Bool.and_false]
theorem sameB_drop (xs ys : List Nd) (k : Nat) (h : k < xs.length) (h2 : k < ys.length) : sameB (xs.drop k) (ys.drop k) = (oneB (rdN xs k) (rdN ys k) && sameB (xs.drop (k + 1)) (ys.drop (k + 1))) := by
  rw [List.drop_eq_getElem_cons h, List.drop_eq_getElem_cons h2]
  have e1 : rdN xs (k : Int) = xs[k] := by unfold rdN; rw [Int.toNat_natCast, List.getD_eq_getElem?_getD, List.getElem?_eq_getElem h]; rfl
  have e2 : rdN ys (k : Int) = ys[k] := by unfold rdN; rw [Int.toNat_natCast, List.getD_eq_getElem?_getD, List.getElem?_eq_getElem h2]; rfl
  rw [e1, e2]
  rfl
set_option maxRecDepth 100000 in
set_option maxHeartbeats 8000000 in
theorem equal_calls (A B : Option Addr) (c d : Nat) (xs ys : List Nd) (w : World) (hA : kN.C w A xs.length xs) (hB : kN.C w B ys.length ys) (hx : ∀ x ∈ xs, Ok x) (hy : ∀ y ∈ ys, Ok y) (lx : xs.length ≤ 140737488351232) (ly : ys.length ≤ 140737488351232) :
    Calls Tryd.prog 38 #[.slice A xs.length c, .slice B ys.length d, .func (.func 39) #[] #[]] w fun e w' => e = .returned (.bool (sameB xs ys)) ∧ Below w.heap.size w w' := by
  by_cases hne : xs.length = ys.length
  · have HA := Lib.hid hA
    have HB := Lib.hid hB
    have HX := Lib.hid hx
    have HY := Lib.hid hy
    have HL := Lib.hid hne
    have hn2 : ((xs.length : Int) != (ys.length : Int)) = false := by simp; omega
    clear hA hB hx hy hne
    go_enter Tryd.func38, Tryd.ntmps38
    go_wp2
    go_loopw [7, 8, 9, 17] (fun _ _ _ i wr => ∃ k : Nat, i = .int .i64 k ∧ k ≤ xs.length ∧ Hid (sameB (xs.drop k) (ys.drop k) = sameB xs ys) ∧ Below w.heap.size w wr) (fun _ _ _ i _ => (xs.length - intOf i).toNat)
    case atStart => exact ⟨0, rfl, by omega, Lib.hid rfl, Below.refl _ _⟩
    case round =>
      obtain ⟨k, rfl, hk, he, hb⟩ := hrel
      by_cases hlt : k < xs.length
      · have hlt2 : k < ys.length := by have := HL.out; omega
        obtain ⟨ad, A2, c2, hA', a0, a1, a2, a3, a4, _, hd⟩ := atN (Kd.C_below HA.out hb) (k : Int) (by omega) (by omega)
        subst hA'
        obtain ⟨ad2, B2, d2, hB', b0, b1, b2, b3, b4, _, hd2⟩ := atN (Kd.C_below HB.out hb) (k : Int) (by omega) (by omega)
        subst hB'
        rw [Int.toNat_natCast] at a0 a1 a2 a3 a4 b0 b1 b2 b3 b4
        have hs := Lib.hid (sameB_drop xs ys k hlt hlt2)
        have hxb := World.block_lt_of_cell? wr _ b0
        have hyb := World.block_lt_of_cell? wr _ b1
        have HO := Lib.hid (fun W (h : Below wr.heap.size wr W) => one_calls (rdN xs (k : Int)) (rdN ys (k : Int)) A2 B2 c2 d2 W (Kd.C_below hd h) (Kd.C_below hd2 h) (HX.out _ (rdN_mem xs k hlt)) (HY.out _ (rdN_mem ys k hlt2)))
        clear hd hd2
        generalize rdN xs (k : Int) = x at *
        generalize rdN ys (k : Int) = y at *
        have k0 : (0 : Int) ≤ (k : Int) := by omega
        have k1 : (k : Int) < xs.length := by omega
        have k2 : (k : Int) < ys.length := by omega
        cases h1 : oneB x y
        · have HR := Lib.hid (show sameB xs ys = false by rw [← he.out, hs.out, h1]; rfl)
          rw [h1] at HO
          clear he hs h1
          go_wp2_with (go_at_call 39; refine (HO.out _ (by repeat (first | with_reducible exact Below.refl _ _ | apply balloc))).mono ?_; rintro e w1 ⟨rfl, hb1⟩)
          go_ret
          exact ⟨ret_bool HR.out.symm, bgo hb (bgo (balloc (balloc (Below.refl _ _) _) _) hb1)⟩
        · have HR := Lib.hid (show sameB (xs.drop (k + 1)) (ys.drop (k + 1)) = sameB xs ys by rw [← he.out, hs.out, h1]; rfl)
          rw [h1] at HO
          clear he hs h1
          go_wp2_with (go_at_call 39; refine (HO.out _ (by repeat (first | with_reducible exact Below.refl _ _ | apply balloc))).mono ?_; rintro e w1 ⟨rfl, hb1⟩; have HB1 := Lib.hid (bgo hb (bgo (balloc (balloc (Below.refl _ _) _) _) hb1)); clear hb1)
          go_roundw
          case rel => exact ⟨k + 1, by go_num, by omega, HR, HB1.out⟩
          case measure => simp [intOf]; omega
      · have HR := Lib.hid (show sameB xs ys = true by rw [← he.out, List.drop_of_length_le (by omega), List.drop_of_length_le (by have := HL.out; omega)]; rfl)
        clear he
        go_wp2
        go_ret
        exact ⟨ret_bool HR.out.symm, hb⟩
  · have HR := Lib.hid (sameB_len xs ys hne)
    have hn2 : ((xs.length : Int) != (ys.length : Int)) = true := by simp; omega
    clear hA hB hx hy hne
    go_enter Tryd.func38, Tryd.ntmps38
    go_wp2
    go_ret
    exact ⟨ret_bool HR.out.symm, Below.refl _ _⟩
theorem same_calls (A B : Option Addr) (c d : Nat) (xs ys : List Nd) (w : World) (hA : kN.C w A xs.length xs) (hB : kN.C w B ys.length ys) (hx : ∀ x ∈ xs, Ok x) (hy : ∀ y ∈ ys, Ok y) (lx : xs.length ≤ 140737488351232) (ly : ys.length ≤ 140737488351232) :
    Calls Tryd.prog 17 #[.slice A xs.length c, .slice B ys.length d] w fun e w' => e = .returned (.bool (sameB xs ys)) ∧ Below w.heap.size w w' := by
  have H := Lib.hid (equal_calls A B c d xs ys w hA hB hx hy lx ly)
  clear hA hB hx hy
  go_enter Tryd.func17, Tryd.ntmps17
  go_wp2_with (go_at_call 38; refine H.out.mono ?_; rintro e w1 ⟨rfl, hb1⟩)
  go_ret
  exact ⟨rfl, hb1⟩
end Go.Proofs.YtageofdcloneoaaDoor.Tree
