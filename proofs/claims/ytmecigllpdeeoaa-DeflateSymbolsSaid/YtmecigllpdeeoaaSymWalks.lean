/- The walks behind hamperlaw08.DeflateSymbols: deflate.above, Symbol, Far against the printed references. -/
import Derived.Lib.Hide
import Derived.Test.YtmecigllpdeeoaaPDeflateSymbolsx1
set_option linter.unusedVariables false
namespace Go.Proofs.Ytmecigllpdeeoaa.Sym
open Go.RowKit Go.Proofs.Ytmecigllpdeeoaa.PDeflateSymbols Go.Proofs.YtmecigllpdeeoaaW.PrintWords Go.Proofs.YtmecigllpdeeoaaW.PrintLast Go.Proofs.YtmecigllpdeeoaaW.PrintMore

theorem drawn_trans {a b c : World} (h : Drawn0 a b) (k : Drawn0 b c) : Drawn0 a c := by
  obtain ⟨n, rfl⟩ := k
  exact h.step n

set_option maxHeartbeats 1000000 in
theorem above_len (frm v s0 : Int) (g : Int → Int × Int × Int) (w : World)
    (hv0 : 0 ≤ v) (hv : v ≤ 40000) (h0 : 0 ≤ s0) (h1 : s0 ≤ frm) (hf : frm ≤ 1000)
    (hlo : ∀ s, s0 < s → s ≤ frm → v < (g s).1) (hat : (g s0).1 ≤ v) (hg0 : ∀ s, s0 ≤ s → s ≤ frm → 0 ≤ (g s).1 ∧ (g s).1 ≤ 40000)
    (hc : ∀ s w, s0 ≤ s → s ≤ frm → Calls Try.prog 41 #[.int .i64 s] w fun e w' => e = .returned (.tuple #[.int .i64 (g s).1, .int .i64 (g s).2.1, .int .i64 (g s).2.2]) ∧ Drawn0 w w') :
    Calls Try.prog 40 #[.int .i64 frm, .int .i64 v, .func (.func 41) #[] #[]] w fun e w' => e = .returned (.tuple #[.int .i64 s0, .int .i64 (v - (g s0).1)]) ∧ Drawn0 w w' := by
  go_enter Try.func40, Try.ntmps40
  go_wp2
  go_loopw [8, 9, 10, 11] (fun s8 _ _ _ wr => ∃ s : Int, s0 ≤ s ∧ s ≤ frm ∧ s8 = .int .i64 s ∧ Drawn0 w wr) (fun s8 _ _ _ _ => (intOf s8 - s0).toNat)
  case atStart => exact ⟨frm, by omega, by omega, rfl, Drawn0.refl _⟩
  case round =>
    obtain ⟨s, hs0, hs1, rfl, hd⟩ := hrel
    by_cases he : s = s0
    · subst he
      have h2 := hg0 s (by omega) hs1
      have hnot : (g s).1 ≤ v := hat
      go_wp2_with (go_at_call 41; refine (hc s _ (by omega) (by omega)).mono ?_; rintro e w' ⟨rfl, hd1⟩)
      go_ret2
      exact ⟨rfl, drawn_trans hd hd1⟩
    · have hlt := hlo s (by omega) hs1
      have h2 := hg0 s hs0 hs1
      go_wp2_with (go_at_call 41; refine (hc s _ (by omega) (by omega)).mono ?_; rintro e w' ⟨rfl, hd1⟩)
      go_roundw
      case rel => exact ⟨s - 1, by omega, by omega, by go_num, drawn_trans hd hd1⟩
      case measure => simp [intOf]; omega

set_option maxHeartbeats 1000000 in
theorem above_dist (frm v s0 : Int) (g : Int → Int × Int × Int) (w : World)
    (hv0 : 0 ≤ v) (hv : v ≤ 40000) (h0 : 0 ≤ s0) (h1 : s0 ≤ frm) (hf : frm ≤ 1000)
    (hlo : ∀ s, s0 < s → s ≤ frm → v < (g s).1) (hat : (g s0).1 ≤ v) (hg0 : ∀ s, s0 ≤ s → s ≤ frm → 0 ≤ (g s).1 ∧ (g s).1 ≤ 40000)
    (hc : ∀ s w, s0 ≤ s → s ≤ frm → Calls Try.prog 43 #[.int .i64 s] w fun e w' => e = .returned (.tuple #[.int .i64 (g s).1, .int .i64 (g s).2.1, .int .i64 (g s).2.2]) ∧ Drawn0 w w') :
    Calls Try.prog 40 #[.int .i64 frm, .int .i64 v, .func (.func 43) #[] #[]] w fun e w' => e = .returned (.tuple #[.int .i64 s0, .int .i64 (v - (g s0).1)]) ∧ Drawn0 w w' := by
  go_enter Try.func40, Try.ntmps40
  go_wp2
  go_loopw [8, 9, 10, 11] (fun s8 _ _ _ wr => ∃ s : Int, s0 ≤ s ∧ s ≤ frm ∧ s8 = .int .i64 s ∧ Drawn0 w wr) (fun s8 _ _ _ _ => (intOf s8 - s0).toNat)
  case atStart => exact ⟨frm, by omega, by omega, rfl, Drawn0.refl _⟩
  case round =>
    obtain ⟨s, hs0, hs1, rfl, hd⟩ := hrel
    by_cases he : s = s0
    · subst he
      have h2 := hg0 s (by omega) hs1
      have hnot : (g s).1 ≤ v := hat
      go_wp2_with (go_at_call 43; refine (hc s _ (by omega) (by omega)).mono ?_; rintro e w' ⟨rfl, hd1⟩)
      go_ret2
      exact ⟨rfl, drawn_trans hd hd1⟩
    · have hlt := hlo s (by omega) hs1
      have h2 := hg0 s hs0 hs1
      go_wp2_with (go_at_call 43; refine (hc s _ (by omega) (by omega)).mono ?_; rintro e w' ⟨rfl, hd1⟩)
      go_roundw
      case rel => exact ⟨s - 1, by omega, by omega, by go_num, drawn_trans hd hd1⟩
      case measure => simp [intOf]; omega

/-! ### the numbers -/
def gLen (s : Int) : Int × Int × Int := (inflate_LengthOf.f 1 s).getD (0, 0, 0)
def gDist (s : Int) : Int × Int × Int := (inflate_DistanceOf.f 1 s).getD (0, 0, 0)
def lenOk (s : Int) : Bool := decide (inflate_LengthOf.f 1 s = some (gLen s)) && decide (hamperref07_LengthOf.f 1 s = some (gLen s)) && decide (0 ≤ (gLen s).1) && decide ((gLen s).1 ≤ 40000)
def distOk (s : Int) : Bool := decide (inflate_DistanceOf.f 1 s = some (gDist s)) && decide (hamperref07_DistanceOf.f 1 s = some (gDist s)) && decide (0 ≤ (gDist s).1) && decide ((gDist s).1 ≤ 40000)
theorem len_all : (List.range 29).all (fun i => lenOk (257 + (i : Int))) = true := by decide +kernel
theorem dist_all : (List.range 30).all (fun i => distOk (i : Int)) = true := by decide +kernel
theorem len_first : (gLen 257).1 = 3 := by decide +kernel
theorem dist_first : (gDist 0).1 = 1 := by decide +kernel
theorem len_at (s : Int) (h0 : 257 ≤ s) (h1 : s ≤ 285) : inflate_LengthOf.f 1 s = some (gLen s) ∧ hamperref07_LengthOf.f 1 s = some (gLen s) ∧ 0 ≤ (gLen s).1 ∧ (gLen s).1 ≤ 40000 := by
  have h := List.all_eq_true.1 len_all (s - 257).toNat (List.mem_range.2 (by omega))
  have e : 257 + (((s - 257).toNat : Nat) : Int) = s := by omega
  simp only [e] at h
  unfold lenOk at h
  simp only [Bool.and_eq_true, decide_eq_true_eq] at h
  exact ⟨h.1.1.1, h.1.1.2, h.1.2, h.2⟩
theorem dist_at (s : Int) (h0 : 0 ≤ s) (h1 : s ≤ 29) : inflate_DistanceOf.f 1 s = some (gDist s) ∧ hamperref07_DistanceOf.f 1 s = some (gDist s) ∧ 0 ≤ (gDist s).1 ∧ (gDist s).1 ≤ 40000 := by
  have h := List.all_eq_true.1 dist_all s.toNat (List.mem_range.2 (by omega))
  have e : ((s.toNat : Nat) : Int) = s := by omega
  simp only [e] at h
  unfold distOk at h
  simp only [Bool.and_eq_true, decide_eq_true_eq] at h
  exact ⟨h.1.1.1, h.1.1.2, h.1.2, h.2⟩

theorem last_below (g : Int → Int × Int × Int) (lo v : Int) (hlo : (g lo).1 ≤ v) : ∀ n : Nat, ∃ s0, lo ≤ s0 ∧ s0 ≤ lo + n ∧ (g s0).1 ≤ v ∧ ∀ s, s0 < s → s ≤ lo + n → v < (g s).1
  | 0 => ⟨lo, by omega, by omega, hlo, fun s h1 h2 => by omega⟩
  | n + 1 => by
    by_cases h : (g (lo + ((n + 1 : Nat) : Int))).1 ≤ v
    · exact ⟨lo + ((n + 1 : Nat) : Int), by omega, by omega, h, fun s h1 h2 => by omega⟩
    · obtain ⟨s0, a, b, c, d⟩ := last_below g lo v hlo n
      refine ⟨s0, a, by omega, c, fun s h1 h2 => ?_⟩
      by_cases e : s = lo + ((n + 1 : Nat) : Int)
      · subst e; omega
      · exact d s h1 (by omega)

theorem ref_len_loop (v s0 : Int) (hv0 : 0 ≤ v) (hv : v ≤ 40000) (h0 : 257 ≤ s0) (hlo : ∀ s, s0 < s → s ≤ 285 → v < (gLen s).1) (hat : (gLen s0).1 ≤ v) :
    ∀ (d : Nat) (s : Int), s0 ≤ s → s ≤ 285 → s - s0 = d → hamperref08_Symbol.l0 (d + 2) v s = some (s0, v - (gLen s0).1, 0)
  | 0, s, h1, h2, h3 => by
    obtain rfl : s = s0 := by omega
    obtain ⟨_, e, b0, b1⟩ := len_at s (by omega) h2
    simp only [hamperref08_Symbol.l0]
    rw [e]
    simp only [Option.bind_some]
    rw [if_pos hat]
    have : wrap64 (v - (gLen s).1) = v - (gLen s).1 := by unfold wrap64; omega
    rw [this]
  | d + 1, s, h1, h2, h3 => by
    obtain ⟨_, e, b0, b1⟩ := len_at s (by omega) h2
    have em : hamperref07_LengthOf.f (d + 1 + 1) s = some (gLen s) := by
      clear h3
      induction d with
      | zero => exact hamperref07_LengthOf.mono _ _ _ e
      | succ d ih => exact hamperref07_LengthOf.mono _ _ _ ih
    rw [show d + 1 + 2 = d + 1 + 1 + 1 from rfl, hamperref08_Symbol.l0]
    rw [em]
    simp only [Option.bind_some]
    have := hlo s (by omega) h2
    rw [if_neg (by omega)]
    have : wrap64 (s - 1) = s - 1 := by unfold wrap64; omega
    rw [this]
    exact ref_len_loop v s0 hv0 hv h0 hlo hat d (s - 1) (by omega) (by omega) (by omega)

theorem ref_dist_loop (v s0 : Int) (hv0 : 0 ≤ v) (hv : v ≤ 40000) (h0 : 0 ≤ s0) (hlo : ∀ s, s0 < s → s ≤ 29 → v < (gDist s).1) (hat : (gDist s0).1 ≤ v) :
    ∀ (d : Nat) (s : Int), s0 ≤ s → s ≤ 29 → s - s0 = d → hamperref08_Far.l0 (d + 2) v s = some (s0, v - (gDist s0).1, 0)
  | 0, s, h1, h2, h3 => by
    obtain rfl : s = s0 := by omega
    obtain ⟨_, e, b0, b1⟩ := dist_at s (by omega) h2
    simp only [hamperref08_Far.l0]
    rw [e]
    simp only [Option.bind_some]
    rw [if_pos hat]
    have : wrap64 (v - (gDist s).1) = v - (gDist s).1 := by unfold wrap64; omega
    rw [this]
  | d + 1, s, h1, h2, h3 => by
    obtain ⟨_, e, b0, b1⟩ := dist_at s (by omega) h2
    have em : hamperref07_DistanceOf.f (d + 1 + 1) s = some (gDist s) := by
      clear h3
      induction d with
      | zero => exact hamperref07_DistanceOf.mono _ _ _ e
      | succ d ih => exact hamperref07_DistanceOf.mono _ _ _ ih
    rw [show d + 1 + 2 = d + 1 + 1 + 1 from rfl, hamperref08_Far.l0]
    rw [em]
    simp only [Option.bind_some]
    have := hlo s (by omega) h2
    rw [if_neg (by omega)]
    have : wrap64 (s - 1) = s - 1 := by unfold wrap64; omega
    rw [this]
    exact ref_dist_loop v s0 hv0 hv h0 hlo hat d (s - 1) (by omega) (by omega) (by omega)

/-! ### Symbol and Far, both ways -/
theorem symbol_no (l : Int) (w : World) (h : l < 3 ∨ 258 < l) :
    Calls Try.prog 18 #[.int .i64 l] w fun e w' => e = .returned (.tuple #[.int .i64 0, .int .i64 0, .int .i64 2]) ∧ Drawn0 w w' := by
  by_cases h1 : l < 3
  · go_enter Try.func18, Try.ntmps18
    go_wp2
    go_ret3
    exact ⟨rfl, Drawn0.refl _⟩
  · have h2 : 258 < l := by omega
    go_enter Try.func18, Try.ntmps18
    go_wp2
    go_ret3
    exact ⟨rfl, Drawn0.refl _⟩
theorem symbol_yes (l s m : Int) (w : World) (h0 : 3 ≤ l) (h1 : l ≤ 258) (hm0 : 0 ≤ m) (hm1 : m ≤ 40000)
    (hc : ∀ w, Calls Try.prog 40 #[.int .i64 285, .int .i64 l, .func (.func 41) #[] #[]] w fun e w' => e = .returned (.tuple #[.int .i64 s, .int .i64 m]) ∧ Drawn0 w w') :
    Calls Try.prog 18 #[.int .i64 l] w fun e w' => e = .returned (.tuple #[.int .i64 s, .int .i64 m, .int .i64 0]) ∧ Drawn0 w w' := by
  go_enter Try.func18, Try.ntmps18
  go_wp2_with (go_at_call 40; refine (hc _).mono ?_; rintro e w' ⟨rfl, hd1⟩)
  go_ret3
  exact ⟨rfl, hd1⟩
theorem far_no (l : Int) (w : World) (h : l < 1 ∨ 32768 < l) :
    Calls Try.prog 20 #[.int .i64 l] w fun e w' => e = .returned (.tuple #[.int .i64 0, .int .i64 0, .int .i64 2]) ∧ Drawn0 w w' := by
  by_cases h1 : l < 1
  · go_enter Try.func20, Try.ntmps20
    go_wp2
    go_ret3
    exact ⟨rfl, Drawn0.refl _⟩
  · have h2 : 32768 < l := by omega
    go_enter Try.func20, Try.ntmps20
    go_wp2
    go_ret3
    exact ⟨rfl, Drawn0.refl _⟩
theorem far_yes (l s m : Int) (w : World) (h0 : 1 ≤ l) (h1 : l ≤ 32768) (hm0 : 0 ≤ m) (hm1 : m ≤ 40000)
    (hc : ∀ w, Calls Try.prog 40 #[.int .i64 29, .int .i64 l, .func (.func 43) #[] #[]] w fun e w' => e = .returned (.tuple #[.int .i64 s, .int .i64 m]) ∧ Drawn0 w w') :
    Calls Try.prog 20 #[.int .i64 l] w fun e w' => e = .returned (.tuple #[.int .i64 s, .int .i64 m, .int .i64 0]) ∧ Drawn0 w w' := by
  go_enter Try.func20, Try.ntmps20
  go_wp2_with (go_at_call 40; refine (hc _).mono ?_; rintro e w' ⟨rfl, hd1⟩)
  go_ret3
  exact ⟨rfl, hd1⟩

theorem ref_symbol_calls (l s m b : Int) (k : Nat) (h : hamperref08_Symbol.f k l = some (s, m, b)) (w : World) :
    Calls Try.prog 19 #[.int .i64 l] w fun e w' => e = .returned (.tuple #[.int .i64 s, .int .i64 m, .int .i64 b]) ∧ Drawn0 w w' := hamperref08_Symbol.calls k l s m b w h

/-- Both of them, at any length. -/
theorem symbols (l : Int) : ∃ s m b : Int, 0 ≤ s ∧ s ≤ 1000 ∧ 0 ≤ m ∧ m ≤ 40000 ∧ 0 ≤ b ∧ b ≤ 2 ∧
    (∀ w, Calls Try.prog 18 #[.int .i64 l] w fun e w' => e = .returned (.tuple #[.int .i64 s, .int .i64 m, .int .i64 b]) ∧ Drawn0 w w') ∧
    (∀ w, Calls Try.prog 19 #[.int .i64 l] w fun e w' => e = .returned (.tuple #[.int .i64 s, .int .i64 m, .int .i64 b]) ∧ Drawn0 w w') := by
  by_cases h : l < 3 ∨ 258 < l
  · refine ⟨0, 0, 2, by omega, by omega, by omega, by omega, by omega, by omega, fun w => symbol_no l w h, fun w => hamperref08_Symbol.calls 1 l 0 0 2 w ?_⟩
    unfold hamperref08_Symbol.f
    by_cases h1 : l < 3
    · rw [if_pos h1]; simp [hamperref08_Symbol.j0]
    · rw [if_neg h1]; simp only [hamperref08_Symbol.j0]; rw [if_pos (by simp; omega)]
  · obtain ⟨s0, a1, a2, a3, a4⟩ := last_below gLen 257 l (by rw [len_first]; omega) 28
    have a2' : s0 ≤ 285 := by omega
    obtain ⟨e1, e2, b1, b2⟩ := len_at s0 a1 a2'
    have ha : ∀ w, Calls Try.prog 40 #[.int .i64 285, .int .i64 l, .func (.func 41) #[] #[]] w fun e w' => e = .returned (.tuple #[.int .i64 s0, .int .i64 (l - (gLen s0).1)]) ∧ Drawn0 w w' := fun w =>
      above_len 285 l s0 gLen w (by omega) (by omega) (by omega) a2' (by omega) (fun s x y => a4 s x (by omega)) a3
        (fun s x y => ⟨(len_at s (by omega) y).2.2.1, (len_at s (by omega) y).2.2.2⟩)
        (fun s w x y => inflate_LengthOf.calls 1 s _ _ _ w (len_at s (by omega) y).1)
    refine ⟨s0, l - (gLen s0).1, 0, by omega, by omega, by omega, by omega, by omega, by omega, fun w => symbol_yes l s0 _ w (by omega) (by omega) (by omega) (by omega) ha, ?_⟩
    refine fun w => hamperref08_Symbol.calls ((285 - s0).toNat + 3) l _ _ _ w ?_
    unfold hamperref08_Symbol.f
    rw [if_neg (by omega)]
    simp only [hamperref08_Symbol.j0]
    rw [if_neg (by simp; omega)]
    exact ref_len_loop l s0 (by omega) (by omega) (by omega) (fun s x y => a4 s x (by omega)) a3 (285 - s0).toNat 285 (by omega) (by omega) (by omega)

theorem fars (l : Int) : ∃ s m b : Int, 0 ≤ s ∧ s ≤ 1000 ∧ 0 ≤ m ∧ m ≤ 40000 ∧ 0 ≤ b ∧ b ≤ 2 ∧
    (∀ w, Calls Try.prog 20 #[.int .i64 l] w fun e w' => e = .returned (.tuple #[.int .i64 s, .int .i64 m, .int .i64 b]) ∧ Drawn0 w w') ∧
    (∀ w, Calls Try.prog 21 #[.int .i64 l] w fun e w' => e = .returned (.tuple #[.int .i64 s, .int .i64 m, .int .i64 b]) ∧ Drawn0 w w') := by
  by_cases h : l < 1 ∨ 32768 < l
  · refine ⟨0, 0, 2, by omega, by omega, by omega, by omega, by omega, by omega, fun w => far_no l w h, fun w => hamperref08_Far.calls 1 l 0 0 2 w ?_⟩
    unfold hamperref08_Far.f
    by_cases h1 : l < 1
    · rw [if_pos h1]; simp [hamperref08_Far.j0]
    · rw [if_neg h1]; simp only [hamperref08_Far.j0]; rw [if_pos (by simp; omega)]
  · obtain ⟨s0, a1, a2, a3, a4⟩ := last_below gDist 0 l (by rw [dist_first]; omega) 29
    have a2' : s0 ≤ 29 := by omega
    obtain ⟨e1, e2, b1, b2⟩ := dist_at s0 a1 a2'
    have ha : ∀ w, Calls Try.prog 40 #[.int .i64 29, .int .i64 l, .func (.func 43) #[] #[]] w fun e w' => e = .returned (.tuple #[.int .i64 s0, .int .i64 (l - (gDist s0).1)]) ∧ Drawn0 w w' := fun w =>
      above_dist 29 l s0 gDist w (by omega) (by omega) (by omega) a2' (by omega) (fun s x y => a4 s x (by omega)) a3
        (fun s x y => ⟨(dist_at s (by omega) y).2.2.1, (dist_at s (by omega) y).2.2.2⟩)
        (fun s w x y => inflate_DistanceOf.calls 1 s _ _ _ w (dist_at s (by omega) y).1)
    refine ⟨s0, l - (gDist s0).1, 0, by omega, by omega, by omega, by omega, by omega, by omega, fun w => far_yes l s0 _ w (by omega) (by omega) (by omega) (by omega) ha, ?_⟩
    refine fun w => hamperref08_Far.calls ((29 - s0).toNat + 3) l _ _ _ w ?_
    unfold hamperref08_Far.f
    rw [if_neg (by omega)]
    simp only [hamperref08_Far.j0]
    rw [if_neg (by simp; omega)]
    exact ref_dist_loop l s0 (by omega) (by omega) (by omega) (fun s x y => a4 s x (by omega)) a3 (29 - s0).toNat 29 (by omega) (by omega) (by omega)

/-! ### the law -/
set_option maxHeartbeats 1000000 in
theorem law (l d : Int) (w : World) :
    Calls Try.prog 6 #[.int .i64 l, .int .i64 d] w fun e w' => e = .returned (.bool true) ∧ Drawn0 w w' := by
  obtain ⟨s, m, b, hs0, hs1, hm0, hm1, hb0, hb1, c1, c2⟩ := symbols l
  obtain ⟨t, n, z, ht0, ht1, hn0, hn1, hz0, hz1, c3, c4⟩ := fars d
  have H1 := Lib.hid c1; clear c1
  have H2 := Lib.hid c2; clear c2
  have H3 := Lib.hid c3; clear c3
  have H4 := Lib.hid c4; clear c4
  go_enter Try.func6, Try.ntmps6
  go_wp2_with (first
    | (go_at_call 18; refine (H1.out _).mono ?_; rintro e w1 ⟨rfl, hd1⟩)
    | (go_at_call 19; refine (H2.out _).mono ?_; rintro e w2 ⟨rfl, hd2⟩)
    | (go_at_call 20; refine (H3.out _).mono ?_; rintro e w3 ⟨rfl, hd3⟩)
    | (go_at_call 21; refine (H4.out _).mono ?_; rintro e w4 ⟨rfl, hd4⟩))
  go_ret
  exact ⟨rfl, drawn_trans (drawn_trans (drawn_trans hd1 hd2) hd3) hd4⟩
theorem walk (l d : Int) (w : World) (_ : (Lit.int .i64 l).wf = true) (_ : (Lit.int .i64 d).wf = true) :
    Calls Try.prog 6 #[.int .i64 l, .int .i64 d] w fun e w' => e = .returned (.bool true) ∧ Below w.heap.size w w' :=
  (law l d w).mono fun _ _ ⟨h, k⟩ => ⟨h, k.below⟩
end Go.Proofs.Ytmecigllpdeeoaa.Sym
