/- What a format keeps of a tree it keeps again. No walk in it. -/
import Derived.Test.YtoiffnoiliknnaaDoorTimPl
import Derived.Test.YtoiffnoiliknnaaDoorTreeS
set_option linter.unusedVariables false
set_option linter.unusedSimpArgs false
namespace Go.Proofs.YtoiffnoiliknnaaDoor.Tree
open Go.RowKit Go.Proofs.YtoiffnoiliknnaaDoor.Rout Go.Proofs.YtoiffnoiliknnaaDoor.Node Go.Proofs.YtoiffnoiliknnaaDoor.Tim
theorem day_late (t : Int) (h0 : -1099511627776 ≤ t) (h1 : t ≤ 1099511627776) (hy : 1980 ≤ (dayF t).y) : 86400 ≤ t := by
  obtain ⟨a, b⟩ := day_secs t h0 h1
  have hb := day_bd t h0 h1
  rcases Int.lt_or_le t 86400 with h | h
  · exfalso
    have hyd : yd (dayF t).y ≤ t / 86400 := by
      unfold secs at b
      have hc := cum_bd (dayF t).y ((dayF t).m - 1).toNat
      omega
    have : yd (dayF t).y ≥ 3652 := by unfold yd; omega
    omega
  · exact h
/-- A second less, where the second is odd: the same day, the same half. -/
theorem dosOf_less (t : Int) (ho : (dayF t).s % 2 = 1) : dosOf (dayF (t - 1)) = dosOf (dayF t) := by
  have hs : (dayF t).s = t % 86400 % 60 := by unfold dayF sixOf; split <;> rfl
  rw [hs] at ho
  have h1 : (t - 1) / 86400 = t / 86400 := by omega
  have h2 : (t - 1) % 86400 = t % 86400 - 1 := by omega
  have q1 : (t % 86400 - 1) / 3600 = t % 86400 / 3600 := by omega
  have q2 : (t % 86400 - 1) / 60 % 60 = t % 86400 / 60 % 60 := by omega
  have q3 : (t % 86400 - 1) % 60 / 2 = t % 86400 % 60 / 2 := by omega
  unfold dayF
  rw [h1, h2]
  unfold sixOf
  split
  · unfold dosOf; dsimp only; rw [q1, q2, q3]
  · unfold dosOf; dsimp only; rw [q1, q2, q3]
/-- Zip's form of a time, read, has that form again. -/
theorem zip_again (t : Int) (h0 : -1099511627776 ≤ t) (h1 : t ≤ 1099511627776) (hd : (dosF t).2.2 = 0) :
    dosF (ofDosF (dosF t).1 (dosF t).2.1).1 = dosF t ∧ -1099511627776 ≤ (ofDosF (dosF t).1 (dosF t).2.1).1 ∧ (ofDosF (dosF t).1 (dosF t).2.1).1 ≤ 1099511627776 := by
  have hF : dosF t = dosOf (dayF t) := by unfold dosF; rw [if_neg (by omega)]
  rw [hF] at hd ⊢
  have hy : 1980 ≤ (dayF t).y ∧ (dayF t).y ≤ 2107 := by
    unfold dosOf at hd
    split at hd
    · simp at hd
    · omega
  have ht := day_late t h0 h1 hy.1
  rw [ofDos_dos t h0 h1 hy.1 hy.2]
  rcases (show (dayF t).s % 2 = 0 ∨ (dayF t).s % 2 = 1 by omega) with h | h
  · rw [h]
    exact ⟨by rw [show t - 0 = t by omega]; exact hF, by omega, by omega⟩
  · rw [h]
    refine ⟨?_, by dsimp only; omega, by dsimp only; omega⟩
    have : dosF (t - 1) = dosOf (dayF (t - 1)) := by unfold dosF; rw [if_neg (by omega)]
    rw [this, dosOf_less t h]
theorem may_time (x : Nd) (h : mayB x = true) : 0 ≤ x.f3 ∧ x.f3 ≤ 4095 ∧ -1099511627776 ≤ x.f4 ∧ x.f4 ≤ 1099511627776 := by
  unfold mayB at h
  rw [Bool.and_eq_true] at h
  exact of_decide_eq_true h.1
theorem may_other (x : Nd) (m t : Int) (h : mayB x = true) (hm : 0 ≤ m ∧ m ≤ 4095) (ht : -1099511627776 ≤ t ∧ t ≤ 1099511627776) : mayB ⟨x.f0, x.f1, x.f2, m, t⟩ = true := by
  unfold mayB at h ⊢
  rw [Bool.and_eq_true] at h ⊢
  exact ⟨decide_eq_true ⟨hm.1, hm.2, ht.1, ht.2⟩, h.2⟩
theorem kept_same (x : Nd) (fmt : Int) : (keptF x fmt).1.f0 = x.f0 ∧ (keptF x fmt).1.f1 = x.f1 ∧ (keptF x fmt).1.f2 = x.f2 := by
  unfold keptF
  split
  · split <;> exact ⟨rfl, rfl, rfl⟩
  · split
    · split <;> exact ⟨rfl, rfl, rfl⟩
    · split
      · split <;> exact ⟨rfl, rfl, rfl⟩
      · exact ⟨rfl, rfl, rfl⟩
theorem kept_again (x : Nd) (fmt : Int) (hm : mayB x = true) (hk : (keptF x fmt).2 = true) : keptF (keptF x fmt).1 fmt = ((keptF x fmt).1, true) ∧ mayB (keptF x fmt).1 = true := by
  obtain ⟨m0, m1, t0, t1⟩ := may_time x hm
  by_cases f2 : fmt = 2
  · have e : ∀ z, keptF z fmt = if (dosF z.f4).2.2 = 0 then (⟨z.f0, z.f1, z.f2, z.f3, (ofDosF (dosF z.f4).1 (dosF z.f4).2.1).1⟩, true) else (z, false) := fun z => by unfold keptF; rw [if_pos f2]
    by_cases hd : (dosF x.f4).2.2 = 0
    · obtain ⟨z1, z2, z3⟩ := zip_again x.f4 t0 t1 hd
      rw [e x, if_pos hd]
      refine ⟨?_, may_other x _ _ hm ⟨m0, m1⟩ ⟨z2, z3⟩⟩
      rw [e]
      dsimp only
      rw [z1, if_pos hd]
    · rw [e x, if_neg hd] at hk
      cases hk
  by_cases f3 : fmt = 3
  · have e : ∀ z, keptF z fmt = if z.f0 = 2 ∧ (parB z.f1).2 = false ∧ 0 ≤ z.f4 ∧ z.f4 ≤ 4294967295 then (⟨z.f0, z.f1, z.f2, 420, z.f4⟩, true) else (z, false) := fun z => by unfold keptF; rw [if_neg f2, if_pos f3]
    by_cases hd : x.f0 = 2 ∧ (parB x.f1).2 = false ∧ 0 ≤ x.f4 ∧ x.f4 ≤ 4294967295
    · rw [e x, if_pos hd]
      exact ⟨by rw [e, if_pos hd], may_other x _ _ hm (by omega) ⟨t0, t1⟩⟩
    · rw [e x, if_neg hd] at hk
      cases hk
  by_cases f45 : fmt = 4 ∨ fmt = 5
  · have e : ∀ z, keptF z fmt = if z.f0 = 2 ∧ z.f1.toList = [100, 97, 116, 97] then (⟨z.f0, z.f1, z.f2, 420, 0⟩, true) else (z, false) := fun z => by unfold keptF; rw [if_neg f2, if_neg f3, if_pos f45]
    by_cases hd : x.f0 = 2 ∧ x.f1.toList = [100, 97, 116, 97]
    · rw [e x, if_pos hd]
      exact ⟨by rw [e, if_pos hd], may_other x _ _ hm (by omega) (by omega)⟩
    · rw [e x, if_neg hd] at hk
      cases hk
  · have e : ∀ z, keptF z fmt = (z, true) := fun z => by unfold keptF; rw [if_neg f2, if_neg f3, if_neg f45]
    rw [e x]
    exact ⟨e x, hm⟩
/-! ### trees -/
theorem chkN_ok (l : List Nd) : ∀ f, f ≤ l.length → ((chkN l f).2 = 0 ↔ ∀ k, l.length - f ≤ k → k < l.length → errAt l k = 0)
  | 0, _ => ⟨fun _ k h1 h2 => by omega, fun _ => rfl⟩
  | f + 1, hf => by
    have ih := chkN_ok l f (by omega)
    show (if errAt l (l.length - (f + 1)) = 0 then chkN l f else (((l.length - (f + 1) : Nat) : Int), errAt l (l.length - (f + 1)))).2 = 0 ↔ _
    by_cases h : errAt l (l.length - (f + 1)) = 0
    · rw [if_pos h, ih]
      constructor
      · intro h2 k h3 h4
        by_cases hk : k = l.length - (f + 1)
        · rw [hk]; exact h
        · exact h2 k (by omega) h4
      · exact fun h2 k h3 h4 => h2 k (by omega) h4
    · rw [if_neg h]
      exact ⟨fun h2 => absurd h2 h, fun h2 => absurd (h2 _ (Nat.le_refl _) (by omega)) h⟩
theorem chk_ok (l : List Nd) : (chk l).2 = 0 ↔ ∀ k, k < l.length → errAt l k = 0 := by
  unfold chk
  rw [chkN_ok l l.length (Nat.le_refl _)]
  exact ⟨fun h k hk => h k (by omega) hk, fun h k _ hk => h k hk⟩
theorem isDir_map (g : Nd → Nd) (hg : ∀ x, (g x).f0 = x.f0 ∧ (g x).f1 = x.f1) (p : ByteArray) (l : List Nd) : isDir (l.map g) p = isDir l p := by
  induction l using snoc_ind with
  | h0 => rfl
  | h1 l x ih => rw [List.map_append, List.map_singleton, isDir_snoc, isDir_snoc, ih, (hg x).1, (hg x).2]
theorem rdN_map (g : Nd → Nd) (l : List Nd) (k : Nat) (h : k < l.length) : rdN (l.map g) (k : Int) = g (rdN l (k : Int)) := by
  unfold rdN
  rw [Int.toNat_natCast, List.getD_eq_getElem?_getD, List.getD_eq_getElem?_getD, List.getElem?_map, List.getElem?_eq_getElem h]
  rfl
theorem errAt_may (l : List Nd) (k : Nat) (h : errAt l k = 0) : mayB (rdN l k) = true ∧ validB (rdN l k).f1 = true := by
  unfold errAt at h
  cases h1 : validB (rdN l k).f1
  · rw [if_pos h1] at h; omega
  · rw [if_neg (by rw [h1]; simp)] at h
    cases h2 : mayB (rdN l k)
    · rw [if_pos (.inl h2)] at h; omega
    · exact ⟨rfl, rfl⟩
theorem errAt_map (g : Nd → Nd) (hg : ∀ x, (g x).f0 = x.f0 ∧ (g x).f1 = x.f1) (l : List Nd) (k : Nat) (hk : k < l.length) (hm : mayB (g (rdN l k)) = mayB (rdN l k)) : errAt (l.map g) k = errAt l k := by
  unfold errAt
  rw [rdN_map g l k hk, hm, (hg _).2, ← List.map_take, isDir_map g hg]
  by_cases h0 : 0 < k
  · have e : rdN (l.map g) ((k : Int) - 1) = g (rdN l ((k : Int) - 1)) := by
      have := rdN_map g l (k - 1) (by omega)
      rwa [show ((k - 1 : Nat) : Int) = (k : Int) - 1 by omega] at this
    rw [e, (hg _).2]
  · have e1 : ∀ z : Prop, (0 < k ∧ z) = False := fun z => by simp [h0]
    simp only [e1]
theorem chk_map (g : Nd → Nd) (hg : ∀ x, (g x).f0 = x.f0 ∧ (g x).f1 = x.f1) (l : List Nd) (hm : ∀ x ∈ l, mayB x = true → mayB (g x) = true) (h : (chk l).2 = 0) : (chk (l.map g)).2 = 0 := by
  rw [chk_ok] at h ⊢
  intro k hk
  rw [List.length_map] at hk
  have hk0 := h k hk
  obtain ⟨h1, h2⟩ := errAt_may l k hk0
  rw [errAt_map g hg l k hk (by rw [h1, hm _ (rdN_mem l k hk) h1])]
  exact hk0
theorem chk_may (l : List Nd) (h : (chk l).2 = 0) (x : Nd) (hx : x ∈ l) : mayB x = true := by
  obtain ⟨k, hk, rfl⟩ := List.getElem_of_mem hx
  have := (errAt_may l k ((chk_ok l).1 h k hk)).1
  unfold rdN at this
  rw [Int.toNat_natCast, List.getD_eq_getElem?_getD, List.getElem?_eq_getElem hk] at this
  exact this
theorem proj_again (l : List Nd) (fmt : Int) (h : (projF l fmt).2 = 0) :
    (projF l fmt).1 = l.map (fun x => (keptF x fmt).1) ∧ projF (projF l fmt).1 fmt = ((projF l fmt).1, 0) ∧ (chk (projF l fmt).1).2 = 0 := by
  unfold projF at h
  by_cases h1 : fmt < 1 ∨ 6 < fmt
  · rw [if_pos h1] at h; cases h
  rw [if_neg h1] at h
  by_cases h2 : (chk l).2 ≠ 0
  · rw [if_pos h2] at h; cases h
  rw [if_neg h2] at h
  by_cases h3 : 3 ≤ fmt ∧ fmt ≤ 5 ∧ l.length ≠ 1
  · rw [if_pos h3] at h; cases h
  rw [if_neg h3] at h
  by_cases h4 : fmt = 2 ∧ 65535 < l.length
  · rw [if_pos h4] at h; cases h
  rw [if_neg h4] at h
  by_cases h5 : keepsAll l fmt = true
  · have h2' : (chk l).2 = 0 := Classical.byContradiction h2
    have e : projF l fmt = (l.map (fun x => (keptF x fmt).1), 0) := by unfold projF; rw [if_neg h1, if_neg h2, if_neg h3, if_neg h4, if_pos h5]
    rw [e]
    have hall : ∀ x ∈ l, (keptF x fmt).2 = true := fun x hx => by
      unfold keepsAll at h5
      exact List.all_eq_true.1 h5 x hx
    have hag : ∀ x ∈ l, keptF (keptF x fmt).1 fmt = ((keptF x fmt).1, true) ∧ mayB (keptF x fmt).1 = true := fun x hx => kept_again x fmt (chk_may l h2' x hx) (hall x hx)
    have hc : (chk (l.map (fun x => (keptF x fmt).1))).2 = 0 := chk_map (fun x => (keptF x fmt).1) (fun x => ⟨(kept_same x fmt).1, (kept_same x fmt).2.1⟩) l (fun x hx _ => (hag x hx).2) h2'
    refine ⟨rfl, ?_, hc⟩
    have hk2 : keepsAll (l.map (fun x => (keptF x fmt).1)) fmt = true := by
      unfold keepsAll
      rw [List.all_eq_true]
      intro y hy
      obtain ⟨x, hx, rfl⟩ := List.mem_map.1 hy
      rw [(hag x hx).1]
    have hmm : (l.map (fun x => (keptF x fmt).1)).map (fun x => (keptF x fmt).1) = l.map (fun x => (keptF x fmt).1) := by
      rw [List.map_map]
      exact List.map_congr_left (fun x hx => by show (keptF (keptF x fmt).1 fmt).1 = _; rw [(hag x hx).1])
    unfold projF
    rw [if_neg h1, if_neg (by simpa using hc), List.length_map, if_neg h3, if_neg h4, if_pos hk2, hmm]
  · rw [if_neg h5] at h; cases h
theorem oneB_refl (x : Nd) : oneB x x = true := by unfold oneB; simp
theorem sameB_refl : ∀ l, sameB l l = true
  | [] => rfl
  | x :: r => by show (oneB x x && sameB r r) = true; rw [oneB_refl, sameB_refl r]; rfl
theorem Ok.kept {x : Nd} (h : Ok x) (fmt : Int) : Ok (keptF x fmt).1 := by
  obtain ⟨_, h1, h2⟩ := kept_same x fmt
  exact ⟨by rw [h2]; exact h.by_, by rw [h1]; exact h.ps, by rw [h2]; exact h.ds⟩
/-- The law's first trial. -/
def probe : List Nd := [⟨2, ⟨#[100, 97, 116, 97]⟩, [], 0, 9⟩]
end Go.Proofs.YtoiffnoiliknnaaDoor.Tree
