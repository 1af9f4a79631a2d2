/- TarF, InvJ, RecS, TarG put together. -/
import Derived.Test.YtkmjbakiippfpaaGreatDoorMTarB
import Derived.Test.YtkmjbakiippfpaaGreatDoorMRec
import Derived.Deep.DeepCutAuto
import Derived.Deep.CutBlock
import Derived.Deep.QuietTactic
set_option linter.unusedVariables false
set_option linter.unusedSimpArgs false
namespace Go.Proofs.YtkmjbakiippfpaaGreatDoor.Tar
open Go.RowKit Go.Proofs.YtkmjbakiippfpaaGreatDoor.Reg Go.Proofs.YtkmjbakiippfpaaGreatDoorW.PrintWords Go.Proofs.YtkmjbakiippfpaaGreatDoorW.PrintLast Go.Proofs.YtkmjbakiippfpaaGreatDoorW.PrintMore
open Go.Proofs.YtkmjbakiippfpaaGreatDoor.Oct (octF octF_step octF_dig octF_pos digs octP octO octV runL isQ)
open Go.Proofs.YtkmjbakiippfpaaGreatDoor.Rec (B cut_at)
open Go.Lib (index_one)
def octS (v : Int) (ds : List Int) : Int := ds.foldl (fun v x => v * 8 + (x - 48)) v
theorem octS_ge : ∀ (ds : List Int) (v : Int), (∀ x ∈ ds, 48 ≤ x ∧ x ≤ 55) → 0 ≤ v → v ≤ octS v ds
  | [], v, _, _ => Int.le_refl _
  | x :: r, v, h, h0 => by
    have hx := h x List.mem_cons_self
    have := octS_ge r (v * 8 + (x - 48)) (fun y hy => h y (List.mem_cons_of_mem _ hy)) (by omega)
    show v ≤ octS (v * 8 + (x - 48)) r
    omega
theorem octV_all : ∀ (ds : List Int) (v : Int), (∀ x ∈ ds, 48 ≤ x ∧ x ≤ 55) → 0 ≤ v → octS v ds ≤ 576460752303423488 → octV v ds = (octS v ds, 0)
  | [], v, _, _, h => by
    have e : octS v [] = v := rfl
    rw [octV, if_neg (by omega), e]
  | x :: r, v, h, h0, hb => by
    have hx := h x List.mem_cons_self
    have hr : ∀ y ∈ r, 48 ≤ y ∧ y ≤ 55 := fun y hy => h y (List.mem_cons_of_mem _ hy)
    have e : octS v (x :: r) = octS (v * 8 + (x - 48)) r := rfl
    have g := octS_ge r (v * 8 + (x - 48)) hr (by omega)
    rw [octV, if_neg (by omega), octV_all r _ hr (by omega) (by rw [← e]; exact hb), e]
theorem octS_app (v : Int) (a b : List Int) : octS v (a ++ b) = octS (octS v a) b := List.foldl_append
theorem octS_rep : ∀ k, octS 0 (List.replicate k 48) = 0
  | 0 => rfl
  | k + 1 => by
    rw [List.replicate_succ]
    exact octS_rep k
theorem octS_F : ∀ (f n : Nat), n < 8 ^ (f + 1) → octS 0 (octF (f + 1) n) = n
  | 0, n, h => by
    rw [octF_step, if_pos (by simpa using h)]
    show (0 : Int) * 8 + (48 + (n : Int) - 48) = n
    omega
  | f + 1, n, h => by
    rw [octF_step]
    split
    · show (0 : Int) * 8 + (48 + (n : Int) - 48) = n
      omega
    · rw [octS_app, octS_F f (n / 8) (by rw [Nat.pow_succ] at h; omega)]
      show ((n / 8 : Nat) : Int) * 8 + (48 + ((n % 8 : Nat) : Int) - 48) = n
      omega
theorem run_of (q : Nat) (ds tl : List Int) (h : ∀ x ∈ ds, isQ q x = true) (ht : ∀ x r, tl = x :: r → isQ q x = false) : runL q (ds ++ tl) = ds.length := by
  unfold runL
  rw [List.takeWhile_append_of_pos h]
  cases tl with
  | nil => simp
  | cons x r => simp [List.takeWhile_cons, ht x r rfl]
theorem octO_back (k : Nat) (v : Int) (tl : List Int) (h0 : 0 ≤ v) (h1 : v ≤ 576460752303423488) (hz : ∀ x ∈ tl, x = 0 ∨ x = 32) : octO (List.replicate k 48 ++ digs v ++ tl) = (v, 0) := by
  have hd : ∀ x ∈ List.replicate k 48 ++ digs v, 48 ≤ x ∧ x ≤ 55 := by
    intro x hx
    rcases List.mem_append.1 hx with h | h
    · obtain rfl := List.eq_of_mem_replicate h
      omega
    · exact octF_dig _ _ x h
  have hne : 1 ≤ (List.replicate k (48 : Int) ++ digs v).length := by
    have h1 : 1 ≤ (digs v).length := (octF_pos 20 v.toNat).1
    rw [List.length_append]
    omega
  have hs : octS 0 (List.replicate k 48 ++ digs v) = v := by
    rw [octS_app, octS_rep]
    unfold digs
    rw [octS_F 20 v.toNat (by have : (8 : Nat) ^ (20 + 1) = 9223372036854775808 := by decide
                              omega)]
    omega
  generalize List.replicate k (48 : Int) ++ digs v = ds at *
  have r0 : runL 0 (ds ++ tl) = 0 := by
    cases ds with
    | nil => simp at hne
    | cons d r =>
      have := hd d List.mem_cons_self
      have hq : isQ 0 d = false := by simp [isQ]; omega
      unfold runL
      simp [hq]
  have r1 : runL 1 (ds ++ tl) = ds.length := run_of 1 ds tl (fun x hx => by have := hd x hx; simp [isQ]; omega) (fun x r e => by
    subst e
    have := hz x List.mem_cons_self
    simp [isQ]
    omega)
  have r2 : runL 2 tl = tl.length := by
    have := run_of 2 tl [] (fun x hx => by have := hz x hx; simpa [isQ] using this) (fun x r e => by cases e)
    rwa [List.append_nil] at this
  unfold octO
  dsimp only
  rw [r0, List.drop_zero, r1, List.drop_left, r2, if_neg (Nat.lt_irrefl _), List.take_left, octV_all ds 0 hd (by omega) (by rw [hs]; exact h1), hs]
theorem octB_back (v n : Int) (h0 : 0 ≤ v) (h1 : v ≤ 576460752303423488) (h2 : 2 ≤ n) (h64 : n ≤ 64) (hd : (digs v).length ≤ n - 1) : octO (octB v n) = (v, 0) := by
  rw [octB_eq v n h0 h2 h64 hd]
  exact octO_back _ v [0] h0 h1 (fun x hx => .inl (List.mem_singleton.1 hx))
theorem octB_back' (v n : Int) (h0 : 0 ≤ v) (h1 : v ≤ 576460752303423488) (h2 : 2 ≤ n) (h64 : n ≤ 64) (hd : (digs v).length ≤ n - 1) : octO (octB v n ++ [32]) = (v, 0) := by
  rw [octB_eq v n h0 h2 h64 hd, List.append_assoc]
  exact octO_back _ v [0, 32] h0 h1 (fun x hx => by simpa using hx)
/-! ### a field up to a byte 0 -/
def uptoF (xs : List Int) : ByteArray := B (Lib.cut (strOfNums xs).data.toList [0]).1
theorem indexByte_none (c : UInt8) : ∀ (a : List UInt8), c ∉ a → Lib.indexByte a c < 0
  | [], h => by simp [Lib.indexByte]
  | x :: a, h => by
    have h1 : ¬ x = c := fun e => h (by rw [e]; exact List.mem_cons_self)
    have h2 := indexByte_none c a (fun hm => h (List.mem_cons_of_mem _ hm))
    rw [Lib.indexByte]
    simp [h1]
    omega
theorem cut_none (c : UInt8) (a : List UInt8) (h : c ∉ a) : Lib.cut a [c] = (a, [], false) := by
  have := indexByte_none c a h
  unfold Lib.cut
  rw [index_one, if_neg (by omega)]
theorem bytesOf_data (s : ByteArray) : (bytesOf s).map (fun b : Int => UInt8.ofNat b.toNat) = s.data.toList := by
  unfold bytesOf
  rw [List.map_map]
  conv => rhs; rw [← List.map_id s.data.toList]
  refine List.map_congr_left (fun b _ => ?_)
  show UInt8.ofNat ((b.toNat : Int)).toNat = b
  simp
theorem upto_text (s : ByteArray) (n : Nat) (h0 : (0 : UInt8) ∉ s.data.toList) : uptoF (textF s n) = B (s.data.toList.take n) := by
  unfold uptoF
  have hd : (strOfNums (textF s n)).data.toList = s.data.toList.take n ++ List.replicate (n - s.size) 0 := by
    rw [strOfNums_data]
    unfold textF
    rw [List.map_append, List.map_take, bytesOf_data, List.map_replicate]
    rfl
  have ht : (0 : UInt8) ∉ s.data.toList.take n := fun h => h0 (List.mem_of_mem_take h)
  rw [hd]
  congr 1
  cases hk : n - s.size with
  | zero =>
    rw [List.replicate_zero, List.append_nil, cut_none 0 _ ht]
  | succ k =>
    rw [List.replicate_succ, cut_at 0 _ _ ht]
theorem upto_zero (k : Nat) : uptoF (List.replicate (k + 1) 0) = ⟨#[]⟩ := by
  have h := upto_text ⟨#[]⟩ (k + 1) (by simp)
  exact h
/-! ### a header's fields -/
def sub (xs : List Int) (i j : Nat) : List Int := (xs.drop i).take (j - i)
theorem sub_at (p m q : List Int) (i j : Nat) (h1 : p.length = i) (h2 : m.length = j - i) : sub (p ++ (m ++ q)) i j = m := by
  subst h1
  unfold sub
  rw [List.drop_left, ← h2, List.take_left]
theorem rd_at (p q : List Int) (k : Int) (i : Nat) (h : p.length = i) : rd (p ++ (k :: q)) (i : Int) = k := by
  subst h
  unfold rd
  simp
/-- What a header's reader finds. -/
structure Told (xs : List Int) (h : Hd) : Prop where
  len : 512 ≤ xs.length
  byte : ∀ b ∈ xs, 0 ≤ b ∧ b ≤ 255
  sum : octO (sub xs 148 156) = (totalF xs, 0)
  kind : rd xs 156 = h.kind
  magic : sub xs 257 265 = magicL
  mode : octO (sub xs 100 108) = (h.mode, 0)
  size : octO (sub xs 124 136) = (h.size, 0)
  time : octO (sub xs 136 148) = (h.time, 0)
  name : uptoF (sub xs 0 100) = h.name
  link : uptoF (sub xs 157 257) = h.link
  pre : uptoF (sub xs 345 500) = ⟨#[]⟩
theorem totN_same {xs ys : List Int} : ∀ n : Nat, (∀ k, k < n → k < 148 ∨ 156 ≤ k → rd xs (k : Int) = rd ys (k : Int)) → totN xs n = totN ys n
  | 0, _ => rfl
  | n + 1, h => by
    have ih := totN_same n (fun k hk => h k (by omega))
    unfold totN
    split
    · rename_i hc
      rw [ih, h n (by omega) hc]
    · exact ih
theorem rd_same (A S F C R : List Int) (hA : A.length = 148) (hS : S.length = 8) (hF : F.length = 8) (k : Nat) (hk : k < 148 ∨ 156 ≤ k) (hn : k < 156 + C.length) : rd (A ++ (S ++ (C ++ R))) (k : Int) = rd (A ++ (F ++ C)) (k : Int) := by
  unfold rd
  rw [Int.toNat_natCast, List.getD_eq_getElem?_getD, List.getD_eq_getElem?_getD]
  rcases hk with hk | hk
  · rw [List.getElem?_append_left (by omega), List.getElem?_append_left (by omega)]
  · have h1 : (A ++ (S ++ (C ++ R)))[k]? = C[k - 148 - 8]? := by
      rw [List.getElem?_append_right (by omega), List.getElem?_append_right (by omega), hS, hA, List.getElem?_append_left (by omega)]
    have h2 : (A ++ (F ++ C))[k]? = C[k - 148 - 8]? := by
      rw [List.getElem?_append_right (by omega), List.getElem?_append_right (by omega), hF, hA]
    rw [h1, h2]
theorem told_of (h : Hd) (F : Fit h) (hk : h.kind = 48 ∨ h.kind = 50 ∨ h.kind = 53 ∨ h.kind = 120) (hn : (0 : UInt8) ∉ h.name.data.toList) (hl : (0 : UInt8) ∉ h.link.data.toList) (R : List Int) (hR : ∀ b ∈ R, 0 ≤ b ∧ b ≤ 255) :
    Told (headB (flatF h) ++ R) ⟨B (h.name.data.toList.take 100), B (h.link.data.toList.take 100), h.mode, h.size, h.time, h.kind⟩ := by
  have hlen := flat_len h F
  have hin := flat_in h F
  have hT := totN_in hin 512 (by omega)
  have hTd : (digs (totalF (flatF h))).length ≤ 6 := digs_len 5 _ (by unfold totalF; exact Int.lt_of_le_of_lt hT.2 (by decide))
  have hT0 : 0 ≤ totalF (flatF h) := by unfold totalF; omega
  have hT1 : totalF (flatF h) ≤ 576460752303423488 := by unfold totalF; omega
  have hTb := octB_back' (totalF (flatF h)) 7 hT0 hT1 (by omega) (by omega) (by omega)
  have hTl := octB_len (totalF (flatF h)) 7 hT0 (by omega) (by omega) (by omega)
  have hTi := octB_in (totalF (flatF h)) 7
  have dm := digs_len 6 h.mode (by have := F.m1; exact Int.lt_of_lt_of_le this (by decide))
  have ds := digs_len 10 h.size (by have := F.s1; exact Int.lt_of_lt_of_le this (by decide))
  have dt := digs_len 10 h.time (by have := F.t1; exact Int.lt_of_lt_of_le this (by decide))
  have la := octB_len h.mode 8 F.m0 (by omega) (by omega) (by omega)
  have lb := octB_len 0 8 (by omega) (by omega) (by omega) (by have := digs_len 6 0 (by decide); omega)
  have lc := octB_len h.size 12 F.s0 (by omega) (by omega) (by omega)
  have ld := octB_len h.time 12 F.t0 (by omega) (by omega) (by omega)
  have ba := octB_back h.mode 8 F.m0 (by have := F.m1; omega) (by omega) (by omega) (by omega)
  have bc := octB_back h.size 12 F.s0 (by have := F.s1; omega) (by omega) (by omega) (by omega)
  have bd := octB_back h.time 12 F.t0 (by have := F.t1; omega) (by omega) (by omega) (by omega)
  have un := upto_text h.name 100 hn
  have ul := upto_text h.link 100 hl
  have l1 := textF_len h.name 100
  have l2 := textF_len h.link 100
  have l3 := textF_len ⟨#[]⟩ 8
  have l4 := textF_len ⟨#[]⟩ 64
  have l5 := textF_len ⟨#[]⟩ 167
  have hz : textF ⟨#[]⟩ 167 = List.replicate 155 0 ++ List.replicate 12 0 := rfl
  have hlm : magicL.length = 8 := rfl
  obtain ⟨S, hS⟩ : ∃ S, S = octB (totalF (flatF h)) 7 ++ [32] := ⟨_, rfl⟩
  have hSl : S.length = 8 := by rw [hS, List.length_append, hTl]; rfl
  have hSi : ∀ b ∈ S, 0 ≤ b ∧ b ≤ 255 := by
    intro b hb
    rw [hS] at hb
    rcases List.mem_append.1 hb with h | h
    · exact hTi b h
    · obtain rfl := List.mem_singleton.1 h
      omega
  rw [← hS] at hTb
  have hfl : flatF h = (textF h.name 100 ++ (octB h.mode 8 ++ (octB 0 8 ++ (octB 0 8 ++ (octB h.size 12 ++ octB h.time 12))))) ++ (textF ⟨#[]⟩ 8 ++ ([h.kind] ++ (textF h.link 100 ++ (magicL ++ (textF ⟨#[]⟩ 64 ++ (octB 0 8 ++ (octB 0 8 ++ (textF ⟨#[]⟩ 167)))))))) := by
    unfold flatF fieldsL
    simp [List.flatten_cons, List.append_assoc]
  have hX : headB (flatF h) ++ R = (textF h.name 100 ++ (octB h.mode 8 ++ (octB 0 8 ++ (octB 0 8 ++ (octB h.size 12 ++ octB h.time 12))))) ++ (S ++ (([h.kind] ++ (textF h.link 100 ++ (magicL ++ (textF ⟨#[]⟩ 64 ++ (octB 0 8 ++ (octB 0 8 ++ (textF ⟨#[]⟩ 167))))))) ++ R)) := by
    unfold headB
    rw [← hS, hSl]
    conv => lhs; rw [hfl]
    have hA : (textF h.name 100 ++ (octB h.mode 8 ++ (octB 0 8 ++ (octB 0 8 ++ (octB h.size 12 ++ octB h.time 12))))).length = 148 := by
      simp only [List.length_append, l1, la, lb, lc, ld]
      decide
    rw [List.take_left' hA, ← List.append_assoc (textF h.name 100 ++ _) (textF ⟨#[]⟩ 8), List.drop_left' (by rw [List.length_append, hA, l3])]
    simp only [List.append_assoc]
  have hbyte : ∀ b ∈ headB (flatF h) ++ R, 0 ≤ b ∧ b ≤ 255 := by
    intro b hb
    rcases List.mem_append.1 hb with hb | hb
    · unfold headB at hb
      rw [← hS] at hb
      rcases List.mem_append.1 hb with hb | hb
      · rcases List.mem_append.1 hb with hb | hb
        · exact hin b (List.mem_of_mem_take hb)
        · exact hSi b hb
      · exact hin b (List.mem_of_mem_drop hb)
    · exact hR b hb
  have hA : (textF h.name 100 ++ (octB h.mode 8 ++ (octB 0 8 ++ (octB 0 8 ++ (octB h.size 12 ++ octB h.time 12))))).length = 148 := by
    simp only [List.length_append, l1, la, lb, lc, ld]
    decide
  have hC : ([h.kind] ++ (textF h.link 100 ++ (magicL ++ (textF ⟨#[]⟩ 64 ++ (octB 0 8 ++ (octB 0 8 ++ (textF ⟨#[]⟩ 167))))))).length = 356 := by
    simp only [List.length_append, l2, lb, l4, l5, hlm, List.length_singleton]
    decide
  have htot : totalF (headB (flatF h) ++ R) = totalF (flatF h) := by
    unfold totalF
    refine totN_same 512 (fun k hk hc => ?_)
    rw [hX, hfl]
    exact rd_same _ S _ _ R hA hSl l3 k hc (by rw [hC]; omega)
  have hXl : 512 ≤ (headB (flatF h) ++ R).length := by
    rw [hX]
    simp only [List.length_append] at hA hC ⊢
    omega
  have e8 : (8 : Int).toNat = 8 := rfl
  have e12 : (12 : Int).toNat = 12 := rfl
  rw [e8] at la lb
  rw [e12] at lc ld
  refine ⟨hXl, hbyte, ?_, ?_, ?_, ?_, ?_, ?_, ?_, ?_, ?_⟩
  · rw [htot, hX, sub_at _ S _ 148 156 hA hSl, hTb]
  · rw [hX, ← List.append_assoc _ S]
    exact rd_at (_ ++ S) _ h.kind 156 (by rw [List.length_append, hA, hSl])
  all_goals rw [hX]
  all_goals generalize textF h.name 100 = a0 at *
  all_goals generalize octB h.mode 8 = a1 at *
  all_goals generalize octB 0 8 = a2 at *
  all_goals generalize octB h.size 12 = a4 at *
  all_goals generalize octB h.time 12 = a5 at *
  all_goals generalize textF h.link 100 = a8 at *
  all_goals generalize magicL = a9 at *
  all_goals generalize textF ⟨#[]⟩ 64 = a10 at *
  · rw [show (a0 ++ (a1 ++ (a2 ++ (a2 ++ (a4 ++ a5))))) ++ (S ++ (([h.kind] ++ (a8 ++ (a9 ++ (a10 ++ (a2 ++ (a2 ++ textF ⟨#[]⟩ 167)))))) ++ R)) = (a0 ++ (a1 ++ (a2 ++ (a2 ++ (a4 ++ (a5 ++ (S ++ ([h.kind] ++ a8)))))))) ++ (a9 ++ (a10 ++ (a2 ++ (a2 ++ (textF ⟨#[]⟩ 167 ++ R))))) by simp only [List.append_assoc]]
    exact sub_at _ a9 _ 257 265 (by simp only [List.length_append, l1, la, lb, lc, ld, hSl, l2, List.length_singleton]) hlm
  · rw [show (a0 ++ (a1 ++ (a2 ++ (a2 ++ (a4 ++ a5))))) ++ (S ++ (([h.kind] ++ (a8 ++ (a9 ++ (a10 ++ (a2 ++ (a2 ++ textF ⟨#[]⟩ 167)))))) ++ R)) = a0 ++ (a1 ++ (a2 ++ (a2 ++ (a4 ++ (a5 ++ (S ++ ([h.kind] ++ (a8 ++ (a9 ++ (a10 ++ (a2 ++ (a2 ++ (textF ⟨#[]⟩ 167 ++ R))))))))))))) by simp only [List.append_assoc]]
    rw [sub_at _ a1 _ 100 108 l1 la]
    exact ba
  · rw [show (a0 ++ (a1 ++ (a2 ++ (a2 ++ (a4 ++ a5))))) ++ (S ++ (([h.kind] ++ (a8 ++ (a9 ++ (a10 ++ (a2 ++ (a2 ++ textF ⟨#[]⟩ 167)))))) ++ R)) = (a0 ++ (a1 ++ (a2 ++ a2))) ++ (a4 ++ (a5 ++ (S ++ ([h.kind] ++ (a8 ++ (a9 ++ (a10 ++ (a2 ++ (a2 ++ (textF ⟨#[]⟩ 167 ++ R)))))))))) by simp only [List.append_assoc]]
    rw [sub_at _ a4 _ 124 136 (by simp only [List.length_append, l1, la, lb]) lc]
    exact bc
  · rw [show (a0 ++ (a1 ++ (a2 ++ (a2 ++ (a4 ++ a5))))) ++ (S ++ (([h.kind] ++ (a8 ++ (a9 ++ (a10 ++ (a2 ++ (a2 ++ textF ⟨#[]⟩ 167)))))) ++ R)) = (a0 ++ (a1 ++ (a2 ++ (a2 ++ a4)))) ++ (a5 ++ (S ++ ([h.kind] ++ (a8 ++ (a9 ++ (a10 ++ (a2 ++ (a2 ++ (textF ⟨#[]⟩ 167 ++ R))))))))) by simp only [List.append_assoc]]
    rw [sub_at _ a5 _ 136 148 (by simp only [List.length_append, l1, la, lb, lc]) ld]
    exact bd
  · rw [show (a0 ++ (a1 ++ (a2 ++ (a2 ++ (a4 ++ a5))))) ++ (S ++ (([h.kind] ++ (a8 ++ (a9 ++ (a10 ++ (a2 ++ (a2 ++ textF ⟨#[]⟩ 167)))))) ++ R)) = [] ++ (a0 ++ (a1 ++ (a2 ++ (a2 ++ (a4 ++ (a5 ++ (S ++ ([h.kind] ++ (a8 ++ (a9 ++ (a10 ++ (a2 ++ (a2 ++ (textF ⟨#[]⟩ 167 ++ R)))))))))))))) by simp only [List.append_assoc, List.nil_append]]
    rw [sub_at [] a0 _ 0 100 rfl l1]
    exact un
  · rw [show (a0 ++ (a1 ++ (a2 ++ (a2 ++ (a4 ++ a5))))) ++ (S ++ (([h.kind] ++ (a8 ++ (a9 ++ (a10 ++ (a2 ++ (a2 ++ textF ⟨#[]⟩ 167)))))) ++ R)) = (a0 ++ (a1 ++ (a2 ++ (a2 ++ (a4 ++ (a5 ++ (S ++ [h.kind]))))))) ++ (a8 ++ (a9 ++ (a10 ++ (a2 ++ (a2 ++ (textF ⟨#[]⟩ 167 ++ R)))))) by simp only [List.append_assoc]]
    rw [sub_at _ a8 _ 157 257 (by simp only [List.length_append, l1, la, lb, lc, ld, hSl, List.length_singleton]) l2]
    exact ul
  · rw [hz, show (a0 ++ (a1 ++ (a2 ++ (a2 ++ (a4 ++ a5))))) ++ (S ++ (([h.kind] ++ (a8 ++ (a9 ++ (a10 ++ (a2 ++ (a2 ++ (List.replicate 155 0 ++ List.replicate 12 0))))))) ++ R)) = (a0 ++ (a1 ++ (a2 ++ (a2 ++ (a4 ++ (a5 ++ (S ++ ([h.kind] ++ (a8 ++ (a9 ++ (a10 ++ (a2 ++ a2)))))))))))) ++ (List.replicate 155 0 ++ (List.replicate 12 0 ++ R)) by simp only [List.append_assoc]]
    rw [sub_at _ (List.replicate 155 0) _ 345 500 (by simp only [List.length_append, l1, la, lb, lc, ld, hSl, l2, l4, hlm, List.length_singleton]) (List.length_replicate)]
    exact upto_zero 154
end Go.Proofs.YtkmjbakiippfpaaGreatDoor.Tar
namespace Go.Proofs.YtkmjbakiippfpaaGreatDoor.InvR
open Go.RowKit Go.Proofs.YtkmjbakiippfpaaGreatDoor.Reg
theorem all_listed_any {ops : Array Oper} {listed : Array Bool} (hs : listed.size = ops.size) (hd : ∀ (i : Nat) (o : Oper), ops[i]? = some o → ∀ e ∈ o.after, Region.binds .any e = true → e.on < i) (hr : Region.ready .any ops listed = []) : listed = Array.replicate ops.size true := by
  have key : ∀ n i, i < n → i < ops.size → listed.getD i true = true := by
    intro n
    induction n with
    | zero => intro i h; omega
    | succ n ih =>
      intro i hi hlt
      cases hb : listed.getD i true with
      | true => rfl
      | false =>
        have : i ∈ Region.ready .any ops listed := by
          rw [mem_ready]
          refine ⟨hb, ops[i], Array.getElem?_eq_getElem hlt, fun e he hbi => ?_⟩
          have h1 := hd i _ (Array.getElem?_eq_getElem hlt) e he hbi
          have h2 := ih e.on (by omega) (by omega)
          have h3 : e.on < listed.size := by omega
          simp only [Array.getD, h3, dif_pos] at h2 ⊢
          exact h2
        rw [hr] at this
        cases this
  apply Array.ext
  · simp [hs]
  · intro i h1 h2
    have := key (i + 1) i (by omega) (by omega)
    unfold Array.getD at this
    rw [dif_pos h1] at this
    rw [Array.getElem_replicate]
    exact this
theorem any_inv_any {P : Program} {ops : Array Oper} {Q : Exit → Act → World → Prop} (J : Array Bool → Act → World → Prop) (hg : ∀ (i : Nat) (o : Oper), ops[i]? = some o → o.guard = none) (hd : ∀ (i : Nat) (o : Oper), ops[i]? = some o → ∀ e ∈ o.after, Region.binds .any e = true → e.on < i)
    (hstep : ∀ (i : Nat) (o : Oper), ops[i]? = some o → ∀ listed a w, listed.size = ops.size → listed.getD i true = false → (∀ e ∈ o.after, Region.binds .any e = true → listed.getD e.on false = true) → J listed a w → ∀ K : Act → World → Prop, (∀ a' w', J (listed.setIfInBounds i true) a' w' → K a' w') → wpList P #[o] (Only K) [o] a w)
    (hend : ∀ a w, J (Array.replicate ops.size true) a w → Q .normal a w) :
    ∀ (fuel : Nat) (listed : Array Bool) (a : Act) (w : World), listed.size = ops.size → listed.toList.count false ≤ fuel → J listed a w → wpAny P .any ops Q fuel listed a w
  | 0, listed, a, w, hs, hc, hJ => by
    have ht : listed = Array.replicate ops.size true := by
      apply Array.ext
      · simp [hs]
      · intro i h1 h2
        cases hb : listed[i] with
        | true => simp
        | false =>
          have : false ∈ listed.toList := by rw [← hb]; simp
          have := List.count_pos_iff.2 this
          omega
    subst ht
    refine ⟨?_, hend a w hJ⟩
    rw [List.eq_nil_iff_forall_not_mem]
    intro i hi
    have := (mem_ready.1 hi).1
    unfold Array.getD at this
    split at this
    · simp at this
    · cases this
  | fuel + 1, listed, a, w, hs, hc, hJ => by
    refine ⟨fun hr => ?_, fun i hi => ?_⟩
    · have ht := all_listed_any hs hd hr
      rw [ht] at hJ
      exact hend a w hJ
    · obtain ⟨h0, o, ho, hall⟩ := mem_ready.1 hi
      have hlt : i < listed.size := by
        have := (Array.getElem?_eq_some_iff.1 ho).1
        omega
      have hb : listed[i] = false := by
        unfold Array.getD at h0
        rw [dif_pos hlt] at h0
        exact h0
      refine list_only ho (hg i o ho) (hstep i o ho listed a w hs h0 hall hJ _ (fun a' w' hJ' => any_inv_any J hg hd hstep hend fuel _ a' w' (by simp [hs]) ?_ hJ'))
      have hcs := List.count_set (a := true) (b := false) (l := listed.toList) (i := i) (by simpa using hlt)
      have hmem : 0 < listed.toList.count false := List.count_pos_iff.2 (by rw [← hb]; simp)
      have e1 : (listed.toList[i]'(by simpa using hlt) == false) = true := by rw [Array.getElem_toList, hb]; rfl
      rw [Array.toList_setIfInBounds, hcs, if_pos e1, if_neg (show ¬ (true == false) = true by decide)]
      omega
def depsA (ops : Array Oper) : Bool := (List.range ops.size).all fun i => match ops[i]? with
  | some o => o.guard.isNone && o.after.all (fun e => !Region.binds .any e || decide (e.on < i))
  | none => true
theorem deps_any {ops : Array Oper} (h : depsA ops = true) : (∀ (i : Nat) (o : Oper), ops[i]? = some o → o.guard = none) ∧ ∀ (i : Nat) (o : Oper), ops[i]? = some o → ∀ e ∈ o.after, Region.binds .any e = true → e.on < i := by
  have key : ∀ (i : Nat) (o : Oper), ops[i]? = some o → o.guard.isNone = true ∧ ∀ e ∈ o.after, Region.binds .any e = true → e.on < i := fun i o ho => by
    have hlt := (Array.getElem?_eq_some_iff.1 ho).1
    have h1 := List.all_eq_true.1 h i (List.mem_range.2 hlt)
    rw [ho] at h1
    simp only [Bool.and_eq_true, Array.all_eq_true_iff_forall_mem, Bool.or_eq_true, Bool.not_eq_true', decide_eq_true_eq] at h1
    refine ⟨h1.1, fun e he hb => ?_⟩
    rcases h1.2 e he with h2 | h2
    · rw [hb] at h2; cases h2
    · exact h2
  exact ⟨fun i o ho => by simpa using (key i o ho).1, fun i o ho => (key i o ho).2⟩
/-- J: what is known of the world throughout; G: what an operation may do; T i v w: what is known of the value of the i-th. -/
theorem region_J {P : Program} {id : Nat} {Q : Exit → Act → World → Prop} {w : World} {ops : Array Oper} (hm : P.follows .mixedOrders = true) (J : World → Prop) (G : World → World → Prop) (frame : (Nat → Value) → Act) (T : Nat → Value → World → Prop) (us0 : Nat → Value)
    (hmono : ∀ i v w w', J w → J w' → G w w' → T i v w → T i v w')
    (hput : ∀ (i : Nat) (o : Oper), ops[i]? = some o → ∀ us v, (frame us).put o.dst v = frame (fun j => if j = i then v else us j))
    (hg : ∀ (i : Nat) (o : Oper), ops[i]? = some o → o.guard = none) (hd : ∀ (i : Nat) (o : Oper), ops[i]? = some o → ∀ e ∈ o.after, Region.binds .any e = true → e.on < i) (hj : J w.drew)
    (hstep : ∀ (i : Nat) (o : Oper), ops[i]? = some o → ∀ us w, J w → (∀ e ∈ o.after, Region.binds .any e = true → T e.on (us e.on) w) → ∀ K : Act → World → Prop, (∀ v w', J w' → G w w' → T i v w' → K ((frame us).put o.dst v) w') → wpList P #[o] (Only K) [o] (frame us) w)
    (hend : ∀ us w, J w → (∀ i, i < ops.size → T i (us i) w) → Q .normal (frame us) w) : (Code.region id ops true).wp P Q (frame us0) w := by
  refine wp_region_any hm (any_inv_any (fun listed a w => ∃ us, a = frame us ∧ J w ∧ ∀ i, listed.getD i false = true → T i (us i) w) hg hd ?_ ?_ _ _ _ _ (by simp) (by simp) ?_)
  · rintro i o ho listed a w hs _ hall ⟨us, rfl, hb, hT⟩ K hK
    refine hstep i o ho us w hb (fun e he hbi => hT e.on (hall e he hbi)) K (fun v w' hb' hG hv => hK _ _ ⟨_, hput i o ho us v, hb', fun j hj => ?_⟩)
    by_cases hji : j = i
    · subst hji
      rw [if_pos rfl]
      exact hv
    · rw [if_neg hji]
      refine hmono j _ _ _ hb hb' hG (hT j ?_)
      rwa [getD_set_ne false (fun e => hji e.symm)] at hj
  · rintro a w ⟨us, rfl, hb, hT⟩
    refine hend us w hb (fun i hi => hT i ?_)
    unfold Array.getD
    rw [dif_pos (by simpa using hi)]
    show (Array.replicate ops.size true)[i]'_ = true
    rw [Array.getElem_replicate]
  · refine ⟨us0, rfl, hj, fun i hi => ?_⟩
    unfold Array.getD at hi
    split at hi
    · rename_i hlt
      have : (Array.replicate ops.size false)[i]'hlt = true := hi
      rw [Array.getElem_replicate] at this
      cases this
    · cases hi
end Go.Proofs.YtkmjbakiippfpaaGreatDoor.InvR
set_option linter.unusedVariables false
set_option linter.unusedSimpArgs false
namespace Go.Proofs.YtkmjbakiippfpaaGreatDoor.Rec
open Go.RowKit Go.Lib Go.Proofs.YtkmjbakiippfpaaGreatDoorW.PrintWords Go.Proofs.YtkmjbakiippfpaaGreatDoorW.PrintLast Go.Proofs.YtkmjbakiippfpaaGreatDoorW.PrintMore
/-- The text in which these pairs are said. -/
def Saids : List (ByteArray × ByteArray) → List UInt8 → Prop
  | [], s => s = []
  | (k, v) :: l, s => ∃ N r, SayIs k.data.toList v.data.toList N ∧ k.data.toList ≠ [] ∧ (61 : UInt8) ∉ k.data.toList ∧ Saids l r ∧ s = decDigits N ++ tailOf k.data.toList v.data.toList ++ r
theorem saids_app : ∀ (l m : List (ByteArray × ByteArray)) (s t : List UInt8), Saids l s → Saids m t → Saids (l ++ m) (s ++ t)
  | [], m, s, t, h1, h2 => by
    rw [show s = [] from h1]
    exact h2
  | (k, v) :: l, m, s, t, ⟨N, r, a, b, c, d, e⟩, h2 => ⟨N, r ++ t, a, b, c, saids_app l m r t d h2, by rw [e, List.append_assoc]⟩
theorem rec_calls (k v : ByteArray) (s : ByteArray) (r : List UInt8) (N : Nat) (hs : s.data.toList = decDigits N ++ tailOf k.data.toList v.data.toList ++ r) (hN : SayIs k.data.toList v.data.toList N) (hk : k.data.toList ≠ []) (h61 : (61 : UInt8) ∉ k.data.toList) (hz : s.size < 4294967281) (w : World) (hL : Laid w) :
    Calls Tryz.prog 69 #[.string s] w fun e w' => e = .returned (.tuple #[.string k, .string v, .string (B r), .bool true]) ∧ Below w.heap.size w w' := by
  have h := record_calls s _ _ r N hs hN hk h61 hz w hL
  rwa [of_B, of_B] at h
theorem infoS : (Tryz.prog.info? 9).map (fun i => (i.zero, i.size, i.bytes)) = some (some (.string ⟨#[]⟩), 1, 16) := by kernel_rfl
def strLen : Value → Nat
  | .string s => s.size
  | _ => 0
theorem own_lt {e base : Nat} {W : World} {ok : Nat → Prop} {v : Value} {xs : List ByteArray} (h : Kd.string.R e W base ok v xs) : ∀ k, v.ownBlock = some k → k < W.heap.size := fun k he => ((Kd.R_bound h).1 k he).2.2.1
theorem sep_next {u v u1 v1 : Value} {a b : Nat} (h : ∀ k, u.ownBlock = some k → some k ≠ v.ownBlock) (hv : ∀ k, v.ownBlock = some k → k < a) (hu1 : u1.ownBlock = u.ownBlock ∨ ∃ g, u1.ownBlock = some g ∧ a ≤ g) (hu1b : ∀ k, u1.ownBlock = some k → k < b) (hv1 : v1.ownBlock = v.ownBlock ∨ ∃ g, v1.ownBlock = some g ∧ b ≤ g) : ∀ k, u1.ownBlock = some k → some k ≠ v1.ownBlock := by
  intro k hk he
  rcases hv1 with h1 | ⟨g, h1, h2⟩
  · rcases hu1 with h3 | ⟨g, h3, h4⟩
    · exact h k (h3.symm.trans hk) (he.trans h1)
    · have := hv k (h1.symm.trans he.symm)
      rw [hk] at h3
      obtain rfl := Option.some.inj h3
      omega
  · have := hu1b k hk
    rw [← he] at h1
    obtain rfl := Option.some.inj h1
    omega
theorem sep_mid {u v u1 : Value} {a : Nat} (h : ∀ k, u.ownBlock = some k → some k ≠ v.ownBlock) (hv : ∀ k, v.ownBlock = some k → k < a) (hu1 : u1.ownBlock = u.ownBlock ∨ ∃ g, u1.ownBlock = some g ∧ a ≤ g) : ∀ k, v.ownBlock = some k → some k ≠ u1.ownBlock := by
  intro k hk he
  rcases hu1 with h3 | ⟨g, h3, h4⟩
  · exact h k (h3.symm.trans he.symm) hk.symm
  · have := hv k hk
    rw [← he] at h3
    obtain rfl := Option.some.inj h3
    omega
set_option maxRecDepth 100000 in
set_option maxHeartbeats 4000000 in
theorem said_calls (l : List (ByteArray × ByteArray)) (s : ByteArray) (hl : Saids l s.data.toList) (hn : l.length ≤ 50) (hz : s.size < 4294967281) (w : World) (hL : Laid w) :
    Calls Tryz.prog 42 #[.string s] w fun e w' => ∃ u v, e = .returned (.tuple #[u, v, .int .i64 0]) ∧ Kd.string.R 9 w' w.heap.size (fun _ => True) u (l.map (·.1)) ∧ Kd.string.R 9 w' w.heap.size (fun _ => True) v (l.map (·.2)) ∧ Below w.heap.size w w' := by
  have HL := Lib.hid hL
  have HS := Lib.hid hl
  clear hL hl
  go_enter Tryz.func42, Tryz.ntmps42
  go_wp2
  go_loopw [0, 2, 3] (fun a u v wr => ∃ (s1 : ByteArray) (l0 l1 : List (ByteArray × ByteArray)), a = .string s1 ∧ Hid (l = l0 ++ l1) ∧ Hid (Saids l1 s1.data.toList) ∧ Hid (s1.size ≤ s.size) ∧ Hid (Kd.string.R 9 wr w.heap.size (fun _ => True) u (l0.map (·.1))) ∧ Hid (Kd.string.R 9 wr w.heap.size (fun _ => True) v (l0.map (·.2))) ∧ Hid (∀ k, u.ownBlock = some k → some k ≠ v.ownBlock) ∧ Below w.heap.size w wr) (fun a _ _ _ => strLen a)
  case atStart => exact ⟨s, [], l, rfl, Lib.hid rfl, HS, Lib.hid (Nat.le_refl _), Lib.hid (Kd.R_nil _ _ _ _ _), Lib.hid (Kd.R_nil _ _ _ _ _), Lib.hid (fun k hk => by simp [Value.ownBlock] at hk), Below.refl _ _⟩
  case round =>
    obtain ⟨s1, l0, l1, rfl, Hl, HS1, Hz1, HU, HV, Hsep, hb⟩ := hrel
    rcases l1 with _ | ⟨⟨k, v⟩, l2⟩
    · have hs0 : s1.data.toList = [] := HS1.out
      have he : s1.toList.isEmpty = true := by rw [ByteArray.toList_eq s1, hs0]; rfl
      have hll : l = l0 := by rw [Hl.out, List.append_nil]
      go_wp2
      refine bodyPost_ret (v := .tuple #[u2, u3, .int .i64 0]) (by simp [results, Tryz.results42, go_sem]) rfl ⟨_, _, rfl, by rw [hll]; exact HU.out, by rw [hll]; exact HV.out, hb⟩
    · obtain ⟨N, r, hN, hk, h61, hS2, hs⟩ := HS1.out
      have he : s1.toList.isEmpty = false := by
        rw [ByteArray.toList_eq s1, hs]
        cases hd : decDigits N
        · exact absurd hd (by have := dl_pos N; unfold dl at this; intro h; rw [h] at this; simp at this)
        · rfl
      have H1 := Lib.hid (rec_calls k v s1 r N hs hN hk h61 (by have := Hz1.out; omega) wr (HL.out.below hb))
      have HS2 := Lib.hid hS2
      have hsz : (B r).size < s1.size := by
        have h1 : s1.size = s1.data.toList.length := by rw [Array.length_toList]; rfl
        rw [B_size, h1, hs]
        simp only [List.length_append, tail_len]
        omega
      have HZ := Lib.hid hsz
      have HLN := Lib.hid (show (l0.map (·.1)).length ≤ 50 ∧ (l0.map (·.2)).length ≤ 50 by have := congrArg List.length Hl.out; simp at this ⊢; omega)
      clear hs hN hk h61 hS2 hsz
      go_upto_region 3 with (go_at_call 69; refine H1.out.mono ?_; rintro e w1 ⟨rfl, hb1⟩)
      have hbb := Reg.bgo hb hb1
      have HB1 := Lib.hid hbb
      have HU1 := Lib.hid (Kd.R_mono (Kd.R_below HU.out hb1) (fun _ _ => trivial) : Kd.string.R 9 w1 w.heap.size (fun _ => True) u2 (l0.map (·.1)))
      have HV1 := Lib.hid (Kd.R_mono (Kd.R_below HV.out hb1) (fun _ _ => trivial) : Kd.string.R 9 w1 w.heap.size (fun _ => True) u3 (l0.map (·.2)))
      clear hb hb1 hbb HU HV
      go_upto_region 5 with (fail)
      have HU1v : Hid (∀ k, u3.ownBlock = some k → k < w1.heap.size) := Lib.hid (own_lt HV1.out)
      go_wp2_with (first
        | (at_builtin; refine Kd.R_append Kd.string (w0 := w) w.heap.size rfl (.tmp 20) (.tmp 22) 71 9 (.string ⟨#[]⟩) 16 rfl Tryz.underlying71 infoS rfl (by decide) (by omega) u2 (l0.map (·.1)) k [.string k] (fun _ => True) (fun _ => False) rfl rfl rfl (fun _ hk => hk.elim) (fun _ _ => trivial) HU1.out HB1.out HB1.out.size (by have := HLN.out.1; omega) ?_; intro x1 w2 hR2 hb2 hg2 hat2)
        | (at_builtin; refine Kd.R_append Kd.string (w0 := w) w.heap.size rfl (.tmp 24) (.tmp 26) 71 9 (.string ⟨#[]⟩) 16 rfl Tryz.underlying71 infoS rfl (by decide) (by omega) u3 (l0.map (·.2)) v [.string v] (fun _ => True) (fun _ => False) rfl rfl rfl (fun _ hk => hk.elim) (fun _ _ => trivial) (Kd.R_grown2 HV1.out rfl hg2 Hsep.out) hb2 hb2.size (by have := HLN.out.2; omega) ?_; intro x2 w3 hR3 hb3 hg3 hat3))
      have hsm := sep_mid Hsep.out HU1v.out hat2
      have hR2' := Kd.R_grown2 hR2 rfl hg3 hsm
      have hsp := sep_next Hsep.out HU1v.out hat2 (own_lt hR2) hat3
      go_roundw
      case rel => exact ⟨B r, l0 ++ [(k, v)], l2, rfl, Lib.hid (by rw [Hl.out]; simp), by rw [B_data]; exact HS2, Lib.hid (by have h1 := HZ.out; have h2 := Hz1.out; omega), Lib.hid (by rw [List.map_append]; exact hR2'), Lib.hid (by rw [List.map_append]; exact hR3), Lib.hid hsp, hb3⟩
      case measure => simpa [strLen] using HZ.out
end Go.Proofs.YtkmjbakiippfpaaGreatDoor.Rec
set_option linter.unusedVariables false
set_option linter.unusedSimpArgs false
namespace Go.Proofs.YtkmjbakiippfpaaGreatDoor.Tar
open Go.RowKit Go.BigFrame Go.Maps Go.Proofs.YtkmjbakiippfpaaGreatDoor.Reg Go.Proofs.YtkmjbakiippfpaaGreatDoor.Rout Go.Proofs.YtkmjbakiippfpaaGreatDoor.Node Go.Proofs.YtkmjbakiippfpaaGreatDoor.Tree Go.Proofs.YtkmjbakiippfpaaGreatDoorW.PrintWords Go.Proofs.YtkmjbakiippfpaaGreatDoorW.PrintLast Go.Proofs.YtkmjbakiippfpaaGreatDoorW.PrintMore
open Go.Proofs.YtkmjbakiippfpaaGreatDoor.Oct (octP Tz octO octal_calls)
open Go.Proofs.YtkmjbakiippfpaaGreatDoor.Rec (Laid B)
theorem upto_calls (A : Option Addr) (c : Nat) (xs : List Int) (w : World) (hC : (Kd.int .u8).C w A xs.length xs) (hl : xs.length < 4294967281) (hL : Laid w) :
    Calls Tryz.prog 40 #[.slice A xs.length c] w fun e w' => e = .returned (.string (uptoF xs)) ∧ ∃ n, w' = w.drewN n := by
  have hcv : (convert 23 9 (.slice A xs.length c)).run Tryz.prog w = .ok (.string (strOfNums xs)) w := Kd.C_string (P := Tryz.prog) (w := w) (src := 23) (dst := 9) (e := 5) (c := c) Tryz.underlying23 Tryz.underlying5 Tryz.underlying9 hC
  obtain ⟨m, hm⟩ := hL.mx
  have H := Lib.hid (Tryz.strings_Cut_at (strOfNums xs) ⟨#[0]⟩ m w (by rw [strOfNums_size]; exact hl) hm)
  have HU := Lib.hid (show uptoF xs = ⟨(Lib.cut (strOfNums xs).data.toList [0]).1.toArray⟩ from rfl)
  clear hC hm hL
  go_enter Tryz.func40, Tryz.ntmps40
  go_wp2_with (go_at_call 68; refine H.out.mono ?_; rintro e w1 ⟨rfl, n, rfl⟩)
  go_ret
  exact ⟨by rw [HU.out]; rfl, n, rfl⟩
theorem infoI : (Tryz.prog.info? 3).map (fun i => (i.zero, i.size, i.bytes)) = some (some (.int .i64 0), 1, 8) := by kernel_rfl
def NumPost (ns : List Int) (w : World) (e : Ending) (w' : World) : Prop := ∃ (g c : Nat), e = .returned (.tuple #[.slice (some ⟨g, 0, none⟩) ns.length c, .int .i64 0]) ∧ w.heap.size ≤ g ∧ Hid ((Kd.int .i64).C w' (some ⟨g, 0, none⟩) ns.length ns) ∧ Hid (Below w.heap.size w w')
set_option maxRecDepth 100000 in
set_option maxHeartbeats 4000000 in
theorem numbers_calls (A : Option Addr) (c : Nat) (fs : List (List Int)) (w : World) (h : RowsAt w A fs) (h0 : 0 < fs.length) (hn : fs.length ≤ 8) (hlen : ∀ f ∈ fs, f.length ≤ 64) (hok : ∀ f ∈ fs, (octO f).2 = 0) :
    Calls Tryz.prog 37 #[.slice A fs.length c] w (NumPost (fs.map fun f => (octO f).1) w) := by
  have H := Lib.hid h
  have HLE := Lib.hid hlen
  have HOK := Lib.hid hok
  clear h hlen hok
  go_enter Tryz.func37, Tryz.ntmps37
  go_wp2
  go_loopw [4, 6, 7, 8, 11] (fun v _ _ _ i wr => ∃ (k : Nat) (ns : List Int) (A2 : Option Addr) (c2 : Nat), i = .int .i64 k ∧ k ≤ fs.length ∧ v = .slice A2 ns.length c2 ∧ Hid (ns = (fs.take k).map fun f => (octO f).1) ∧ Hid ((Kd.int .i64).R 3 wr w.heap.size (fun _ => True) (.slice A2 ns.length c2) ns) ∧ Hid (Below w.heap.size w wr)) (fun _ _ _ _ i _ => (fs.length - intOf i).toNat)
  case atStart => exact ⟨0, [], none, 0, rfl, by omega, rfl, Lib.hid rfl, Lib.hid (Kd.R_nil _ _ _ _ _), Lib.hid (Below.refl _ _)⟩
  case round =>
    obtain ⟨k, ns, A2, c2, rfl, hk, rfl, HN, HR, HB⟩ := hrel
    by_cases hlt : k < fs.length
    · obtain ⟨ad, e, hj⟩ := H.out (by omega)
      have hx : fs[k]? = some fs[k] := List.getElem?_eq_getElem hlt
      obtain ⟨Ai, ci, h1, h2, h3⟩ := hj k _ hx
      have h1' := bkeep HB.out h1
      have hmem : fs[k] ∈ fs := List.getElem_mem hlt
      have ho := HOK.out _ hmem
      have hl := HLE.out _ hmem
      have HO := Lib.hid (octal_calls Ai ci fs[k] wr (Kd.C_below h2 HB.out) (by omega) h3)
      rw [ho] at HO
      have HNN := Lib.hid (show ns ++ [(octO fs[k]).1] = (fs.take (k + 1)).map fun f => (octO f).1 by rw [HN.out, List.take_succ_eq_append_getElem hlt, List.map_append]; rfl)
      have hnl : ns.length ≤ 8 := by rw [HN.out, List.length_map, List.length_take]; omega
      have HNL := Lib.hid hnl
      clear hj hx h2 h1 ho hnl hmem
      generalize (octO fs[k]).1 = v at *
      generalize fs[k] = x at *
      subst e
      have k0 : (0 : Int) ≤ (k : Int) := by omega
      have k1' : (k : Int) < fs.length := by omega
      go_wp2_with (first | (go_at_call 66; refine HO.out.mono ?_; rintro e w1 ⟨rfl, hb1⟩; have HR1 := Lib.hid (Kd.R_mono (Kd.R_below HR.out hb1) (fun _ _ => trivial) : (Kd.int .i64).R 3 w1 w.heap.size (fun _ => True) (.slice A2 ns.length c2) ns); have HB1 := Lib.hid (bgo HB.out hb1); clear hb1) | (at_builtin; refine Kd.R_append (Kd.int .i64) (w0 := w) w.heap.size rfl (.tmp 22) (.tmp 24) 74 3 (.int .i64 0) 8 rfl Tryz.underlying74 infoI rfl (by decide) (by omega) (.slice A2 ns.length c2) ns v [.int .i64 v] (fun _ => True) (fun _ => False) rfl rfl rfl (fun _ hk => hk.elim) (fun _ _ => trivial) HR1.out HB1.out HB1.out.size (by have := HNL.out; omega) ?_; intro v3 w3 hR3 hb3 hg3 hat3; obtain ⟨A3, c3, rfl⟩ := Kd.R_slice hR3; have HR3 := Lib.hid hR3; have HB3 := Lib.hid hb3; clear hR3 hb3 hg3 hat3))
      go_roundw
      case rel => exact ⟨k + 1, ns ++ [v], A3, c3, by go_num, by omega, by rw [List.length_append]; rfl, HNN, HR3, HB3⟩
      case measure => simp [intOf]; omega
    · obtain rfl : k = fs.length := by omega
      have k1' : ¬ (fs.length : Int) < fs.length := by omega
      have HF := Lib.hid (show ns = fs.map (fun f => (octO f).1) by rw [HN.out, List.take_length])
      clear hlt HN
      go_wp2
      go_ret2
      have hF := HF.out
      have hR := HR.out
      have hlen : ns.length = fs.length := by rw [hF, List.length_map]
      obtain ⟨_, _, e', _, hC⟩ := Kd.R_reads hR
      injection e' with e1 e2 e3
      subst e1
      rcases (Kd.own_of_R hR).2 with ⟨_, e⟩ | ⟨g, cap, cur, e, hg, hh, h1, h2, h3, h4⟩
      · omega
      · cases e
        rw [← hF]
        exact ⟨g, _, rfl, hg, Lib.hid hC, HB⟩
end Go.Proofs.YtkmjbakiippfpaaGreatDoor.Tar
