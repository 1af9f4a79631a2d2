/- FsM, FsG, FsS, FsY put together. -/
import Derived.Test.YtageofdcloneoaaDoorMFsP
import Derived.StillTailTactics
import Derived.Deep.DeepCutAuto
import Derived.Deep.RegionHeld3
import Derived.Test.YtageofdcloneoaaDoorFsShelf
import Derived.LoopN
import Derived.BigRegion
import Derived.RegionTactic
import Derived.ChangeAlike
set_option linter.unusedVariables false
set_option linter.unusedSimpArgs false
namespace Go.Proofs.YtageofdcloneoaaDoor.Fs
open Go.RowKit Go.BigFrame Go.Maps Go.Proofs.YtageofdcloneoaaDoor.Reg Go.Proofs.YtageofdcloneoaaDoor.Rout Go.Proofs.YtageofdcloneoaaDoor.Node Go.Proofs.YtageofdcloneoaaDoor.Tree Go.Proofs.YtageofdcloneoaaDoor.Vfs Go.Proofs.YtageofdcloneoaaDoorW.PrintWords Go.Proofs.YtageofdcloneoaaDoorW.PrintLast Go.Proofs.YtageofdcloneoaaDoorW.PrintMore
attribute [local go_sem ↓] Go.wp_at_zero Go.wp_at_succ
/-- The world's box of a node. -/
abbrev nbox (w : World) (x : Nd) (A2 : Option Addr) (c2 : Nat) : World := w.alloc (.cells #[.int .i64 x.f0, .string x.f1, .slice A2 x.f2.length c2, .int .i64 x.f3, .int .i64 x.f4] 33)
theorem FsAt.len {w : World} {base g b : Nat} {lv : Value} {s : St} (h : FsAt w base g b lv s) (ty : TypeId) : (Builtin.len_ #[54] ty #[.map (some b)]).run Tryd.prog w = .ok (.int .i64 s.cnt) w := by
  obtain ⟨D, h1, h2, _⟩ := h.map
  rw [← h2]
  exact h1.len Tryd.underlying54 ty
theorem _root_.Go.Proofs.YtageofdcloneoaaDoor.Vfs.NodeV.form {w : World} {o : Option Nd} {V : Value} (h : NodeV w o V) : ∃ (k0 : Int) (t1 : ByteArray) (A : Option Addr) (n c : Nat) (m tm : Int), V = .agg #[.int .i64 k0, .string t1, .slice A n c, .int .i64 m, .int .i64 tm] := by
  cases o with
  | none => exact ⟨0, ⟨#[]⟩, none, 0, 0, 0, 0, h⟩
  | some x =>
    obtain ⟨A, c, rfl, _, _⟩ := h
    exact ⟨_, _, _, _, _, _, _, rfl⟩
theorem keepQ {P : Program} {f : FuncId} {args : Array Value} {v : Ending} {w0 W : World} {Q : World → Prop} (hQ : ∀ W, Below w0.heap.size w0 W → Q W) (h : Calls P f args W fun e w' => e = v ∧ Below W.heap.size W w') (hb : Below w0.heap.size w0 W) : Calls P f args W fun e w' => e = v ∧ Hid (Below w0.heap.size w0 w') ∧ Q w' :=
  h.mono fun _ _ ⟨he, hb2⟩ => ⟨he, Lib.hid (bgo hb hb2), hQ _ (bgo hb hb2)⟩
/-- A node's box, cell by cell. -/
def Box5 (k : Nat) (v0 v1 v2 v3 v4 : Value) (W : World) : Prop := W.cell? ⟨k, 0, none⟩ = some v0 ∧ W.cell? ⟨k, 1, none⟩ = some v1 ∧ W.cell? ⟨k, 2, none⟩ = some v2 ∧ W.cell? ⟨k, 3, none⟩ = some v3 ∧ W.cell? ⟨k, 4, none⟩ = some v4
def aloneN (x : Nd) : Nd := ⟨x.f0, ⟨#[110]⟩, x.f2, x.f3, x.f4⟩
theorem chk_alone (x : Nd) : chk [aloneN x] = (0, if mayB x = true then 0 else 21) := by
  have hv : validB ⟨#[110]⟩ = true := by kernel_rfl
  have hp : (parB ⟨#[110]⟩).2 = false := by kernel_rfl
  have hm : mayB (aloneN x) = mayB x := rfl
  have he : errAt [aloneN x] 0 = if mayB x = true then 0 else 21 := by
    unfold errAt
    rw [show rdN [aloneN x] ((0 : Nat) : Int) = aloneN x from rfl, if_neg (show ¬ validB (aloneN x).f1 = false by show ¬ validB ⟨#[110]⟩ = false; rw [hv]; simp), hm]
    cases hmx : mayB x
    · rw [if_pos (.inl rfl)]; rfl
    · rw [if_neg (by simp), if_neg (by omega), if_neg (fun h => by have := h.1; rw [show (aloneN x).f1 = ⟨#[110]⟩ from rfl, hp] at this; cases this)]; rfl
  show (if errAt [aloneN x] (1 - (0 + 1)) = 0 then chkN [aloneN x] 0 else (((1 - (0 + 1) : Nat) : Int), errAt [aloneN x] (1 - (0 + 1)))) = _
  rw [show 1 - (0 + 1) = 0 from rfl, he]
  cases mayB x
  · rw [if_neg (by simp)]; rfl
  · rw [if_pos (by simp)]; rfl
theorem alone_in (W : World) (g : Nat) (x : Nd) {A2 : Option Addr} {c2 : Nat} (l2 : x.f2.length ≤ c2) (hd : (Kd.int .u8).C W A2 x.f2.length x.f2) (h : ∀ k : Nat, W.cell? ⟨g, k, none⟩ = #[Value.int .i64 x.f0, .string ⟨#[110]⟩, .slice A2 x.f2.length c2, .int .i64 x.f3, .int .i64 x.f4][k]?) : kN.C W (some ⟨g, 0, none⟩) [aloneN x].length [aloneN x] := by
  refine ⟨rfl, (show 1 ≤ 9223372036854775807 by decide), fun _ => ⟨⟨g, 0, none⟩, rfl, fun j p hp => ?_⟩⟩
  cases j with
  | zero =>
    obtain rfl : aloneN x = p := by simpa using hp
    refine ⟨_, rfl, kN_mk W (aloneN x) (A2 := A2) (c2 := c2) l2 hd, fun i u hu => ?_⟩
    rw [add_plain, show 0 * kN.sz + i = i by omega, h, ← hu]
    match i, hu with
    | 0, _ => rfl
    | 1, _ => rfl
    | 2, _ => rfl
    | 3, _ => rfl
    | 4, _ => rfl
    | i + 5, hu => simp at hu
  | succ j => simp at hp
theorem alone_ok (x : Nd) (h : Ok x) : ∀ y ∈ [aloneN x], Ok y := by
  intro y hy
  obtain rfl := List.mem_singleton.1 hy
  exact ⟨h.by_, (by decide : (⟨#[110]⟩ : ByteArray).size ≤ _), h.ds⟩
theorem change_same (s : St) (c : Chg) : (s.change c).1.M = s.M ∧ (s.change c).1.cnt = s.cnt ∧ (s.change c).1.room = s.room := by
  have h := St.fault_M s
  unfold St.change
  split
  · exact ⟨h.1, h.2.1, h.2.2.2⟩
  · exact ⟨h.1, h.2.1, h.2.2.2⟩
theorem realT_M (M : NMap) (s : ByteArray) (h : (realT M s).2.2 = 0) : (realT M s).2.1 = M (realT M s).1 := by
  unfold realT at *
  by_cases h0 : s.size = 0
  · rw [if_pos h0] at h; cases h
  rw [if_neg h0] at *
  by_cases h1 : (realF M s).2 = 0
  · rw [if_pos h1]
  · rw [if_neg h1] at h; exact absurd h h1
/-- A cell of a node's box is written. -/
theorem FsAt.far {w : World} {base g b : Nat} {lv : Value} {s : St} (h : FsAt w base g b lv s) {k : Nat} (hk : ∃ cells, w.heap[k]? = some (.cells cells 33 (0, 0))) (i : Nat) (v : Value) : FsAt (w.setCell ⟨k, i, none⟩ v) base g b lv s := by
  obtain ⟨cells, hc⟩ := hk
  have hm : Mod (fun q => q = k) w (w.setCell ⟨k, i, none⟩ v) := Mod.of_setCell w _ v rfl
  refine h.kept hm (hm.bmove (fun j hj cs he => by subst hj; rw [hc] at he; cases he)) (fun j hj e => ?_)
  subst e
  rcases h.typed j hj _ cells hc with e | e <;> cases e
theorem far4 {w : World} {base k : Nat} {ok : Nat → Prop} {v u0 u1 u2 u3 : Value} {xs : List Int} (h : (Kd.int .u8).R 5 w base ok v xs) (hok : ∀ q, ok q → q ≠ k) :
    (Kd.int .u8).R 5 ((((w.setCell ⟨k, 0, none⟩ u0).setCell ⟨k, 1, none⟩ u1).setCell ⟨k, 2, none⟩ u2).setCell ⟨k, 3, none⟩ u3) base ok v xs :=
  Kd.R_far (p := ⟨k, 3, none⟩) (Kd.R_far (p := ⟨k, 2, none⟩) (Kd.R_far (p := ⟨k, 1, none⟩) (Kd.R_far (p := ⟨k, 0, none⟩) h hok u0) hok u1) hok u2) hok u3
set_option maxRecDepth 100000 in
set_option maxHeartbeats 8000000 in
theorem make_calls (base g b : Nat) (lv : Value) (s : St) (x : Nd) (A2 : Option Addr) (c2 : Nat) (w : World) (h : FsAt w base g b lv s) (hC : ∀ W, Mod (ownS g b lv) w W → (Kd.int .u8).C W A2 x.f2.length x.f2) (hl2 : x.f2.length ≤ c2) (hok : Ok x) (hF : Fine s.M) (hlog : (s.log.length + 1) * 64 ≤ 140737488355328) :
    Calls Tryd.prog 10 #[.pointer (some ⟨g, 0, none⟩), .agg #[.int .i64 x.f0, .string x.f1, .slice A2 x.f2.length c2, .int .i64 x.f3, .int .i64 x.f4]] w (OpPost base g b lv w (s.exec (makeP s.M s.cnt s.room x))) := by
  obtain ⟨w0, hw0⟩ : ∃ w0, w.alloc (.cells #[.int .i64 x.f0, .string x.f1, .slice A2 x.f2.length c2, .int .i64 x.f3, .int .i64 x.f4] 33) = w0 := ⟨_, rfl⟩
  have HW0 := Lib.hid hw0
  have hB0 : Below w.heap.size w w0 := by rw [← hw0]; exact balloc (Below.refl _ _) _
  have hs0 : w0.heap.size = w.heap.size + 1 := by rw [← hw0, World.size_alloc]
  have hbx : w0.heap[w.heap.size]? = some (.cells #[.int .i64 x.f0, .string x.f1, .slice A2 x.f2.length c2, .int .i64 x.f3, .int .i64 x.f4] 33 (0, 0)) := by rw [← hw0]; exact heap_alloc_new w _
  have HH0 := Lib.hid (fun W (hb : Below w0.heap.size w0 W) => (h.below (bgo hB0 hb) : FsAt W base g b lv s))
  have HC0 := Lib.hid (fun W (hb : Below w0.heap.size w0 W) => hC W (Mod.of_below (bgo hB0 hb)))
  have HCM := Lib.hid hC
  have HW := Lib.hid h
  have HBW := Lib.hid hB0
  have HBX := Lib.hid hbx
  have HQ := Lib.hid (fun W (hb : Below w0.heap.size w0 W) => show Box5 w.heap.size (.int .i64 x.f0) (.string x.f1) (.slice A2 x.f2.length c2) (.int .i64 x.f3) (.int .i64 x.f4) W by
    have h1 := (hb.block _ (by omega : w.heap.size < w0.heap.size)).trans hbx
    refine ⟨?_, ?_, ?_, ?_, ?_⟩ <;> simp [World.cell?, h1])
  have hps := hok.ps
  have HOK := Lib.hid hok
  have HN := Lib.hid (fun W (hb : Below w0.heap.size w0 W) => none_calls g b W (HH0.out W hb).c0)
  have HV := Lib.hid (fun W (hb : Below w0.heap.size w0 W) => keepQ HQ.out (valid_calls x.f1 W (by omega)) hb)
  have HB0 := Lib.hid (Below.refl w0.heap.size w0)
  have HX := Lib.hid (show s.exec (makeP s.M s.cnt s.room x) = s.exec (makeP s.M s.cnt s.room x) from rfl)
  have HPO := Lib.hid (fun (W : World) (hb : Below w0.heap.size w0 W) (e : Int) (he : makeP s.M s.cnt s.room x = .inl e) => show OpPost base g b lv w (s.exec (makeP s.M s.cnt s.room x)) (.returned (.int .i64 e)) W by
    rw [he]
    exact ⟨lv, rfl, HH0.out W hb, Mod.of_below (bgo hB0 hb), .inl rfl⟩)
  have HMP := Lib.hid (show makeP s.M s.cnt s.room x = if validB x.f1 = false then .inl 20 else if mayB x = false then .inl 21 else if x.f0 = 2 ∧ 0 < x.f2.length then .inl 2 else
    if (realT s.M x.f1).2.2 ≠ 0 then .inl (realT s.M x.f1).2.2 else if (realT s.M x.f1).2.1.isSome = true then .inl 30 else
    if validB (realT s.M x.f1).1 = false then .inl 20 else if 65536 ≤ s.cnt then .inl 3 else
    .inr (⟨x.f0, (realT s.M x.f1).1, emp, x.f2⟩, putM s.M ⟨x.f0, (realT s.M x.f1).1, x.f2, x.f3, x.f4⟩, s.cnt + 1, s.room) from rfl)
  clear hbx h hC hok hw0 hB0
  cases hv : validB x.f1
  · rw [hv] at HV
    have HR := Lib.hid (fun W hb => HPO.out W hb 20 (by rw [HMP.out, if_pos hv]))
    clear hv
    go_enter Tryd.func10, Tryd.ntmps10
    go_upto_region 1 with (fail)
    rw [HW0.out]
    obtain ⟨z0, z1, z2, z3, z4⟩ := HQ.out _ HB0.out
    go_wp2_with (first | (go_at_call 26; refine (HN.out _ HB0.out).mono ?_; rintro e w' ⟨rfl, rfl⟩) | (go_at_call 21; refine (HV.out _ HB0.out).mono ?_; rintro e w1 ⟨rfl, HB1, a0, a1, a2, a3, a4⟩))
    go_ret
    exact HR.out _ HB1.out
  rw [hv] at HV
  have HCK := Lib.hid (fun W (hb : Below w0.heap.size w0 W) => show Calls Tryd.prog 7 #[.slice (some ⟨W.heap.size + 1, 0, none⟩) 1 1] ((W.alloc (.cells #[.int .i64 x.f0, .string ⟨#[110]⟩, .slice A2 x.f2.length c2, .int .i64 x.f3, .int .i64 x.f4] 33)).alloc (.cells #[.int .i64 x.f0, .string ⟨#[110]⟩, .slice A2 x.f2.length c2, .int .i64 x.f3, .int .i64 x.f4] 33)) fun e w' => e = .returned (.tuple #[.int .i64 0, .int .i64 (if mayB x = true then 0 else 21)]) ∧ Hid (Below w0.heap.size w0 w') ∧ Box5 w.heap.size (.int .i64 x.f0) (.string x.f1) (.slice A2 x.f2.length c2) (.int .i64 x.f3) (.int .i64 x.f4) w' from by
    have h1 := check_calls (some ⟨W.heap.size + 1, 0, none⟩) 1 [aloneN x] ((W.alloc (.cells #[.int .i64 x.f0, .string ⟨#[110]⟩, .slice A2 x.f2.length c2, .int .i64 x.f3, .int .i64 x.f4] 33)).alloc (.cells #[.int .i64 x.f0, .string ⟨#[110]⟩, .slice A2 x.f2.length c2, .int .i64 x.f3, .int .i64 x.f4] 33)) (alone_in _ _ x hl2 (HC0.out _ (balloc (balloc hb _) _)) (fun k => World.cell?_alloc_at _ _ _ _ (by rw [World.size_alloc]))) (alone_ok x HOK.out) (by show 1 ≤ _; omega)
    rw [chk_alone] at h1
    exact keepQ HQ.out h1 (balloc (balloc hb _) _))
  cases hm : mayB x
  · rw [hm] at HCK
    have HR := Lib.hid (fun W hb => HPO.out W hb 21 (by rw [HMP.out, if_neg (by rw [hv]; simp), if_pos hm]))
    clear hv hm
    go_enter Tryd.func10, Tryd.ntmps10
    go_upto_region 1 with (fail)
    rw [HW0.out]
    obtain ⟨z0, z1, z2, z3, z4⟩ := HQ.out _ HB0.out
    go_wp2_with (first | (go_at_call 26; refine (HN.out _ HB0.out).mono ?_; rintro e w' ⟨rfl, rfl⟩) | (go_at_call 21; refine (HV.out _ HB0.out).mono ?_; rintro e w1 ⟨rfl, HB1, a0, a1, a2, a3, a4⟩) | (go_at_call 7; refine (HCK.out _ HB1.out).mono ?_; rintro e w2 ⟨rfl, HB2, b0, b1, b2, b3, b4⟩))
    go_ret
    exact HR.out _ HB2.out
  rw [hm] at HCK
  by_cases hk : x.f0 = 2 ∧ 0 < x.f2.length
  · have HR := Lib.hid (fun W hb => HPO.out W hb 2 (by rw [HMP.out, if_neg (by rw [hv]; simp), if_neg (by rw [hm]; simp), if_pos hk]))
    obtain ⟨hk1, hk2⟩ := hk
    have hk1b : (x.f0 == 2) = true := beq_iff_eq.mpr hk1
    have hk2b : (0 : Int) < (x.f2.length : Int) := by omega
    clear hv hm hk1 hk2
    go_enter Tryd.func10, Tryd.ntmps10
    go_upto_region 1 with (fail)
    rw [HW0.out]
    obtain ⟨z0, z1, z2, z3, z4⟩ := HQ.out _ HB0.out
    go_wp2_with (first | (go_at_call 26; refine (HN.out _ HB0.out).mono ?_; rintro e w' ⟨rfl, rfl⟩) | (go_at_call 21; refine (HV.out _ HB0.out).mono ?_; rintro e w1 ⟨rfl, HB1, a0, a1, a2, a3, a4⟩) | (go_at_call 7; refine (HCK.out _ HB1.out).mono ?_; rintro e w2 ⟨rfl, HB2, b0, b1, b2, b3, b4⟩))
    go_ret
    exact HR.out _ HB2.out
  have hps2 := realF_size s.M hF x.f1 (by omega)
  have hpt : (realT s.M x.f1).1.size ≤ 140737488351232 := by
    unfold realT
    split
    · exact (by decide : emp.size ≤ 140737488351232)
    split
    · exact hps2
    · exact (by decide : emp.size ≤ 140737488351232)
  have HRL := Lib.hid (fun W (hb : Below w0.heap.size w0 W) => show Calls Tryd.prog 28 #[.pointer (some ⟨g, 0, none⟩), .string x.f1] W fun e w' => ∃ (k0 : Int) (t1 : ByteArray) (A : Option Addr) (n c : Nat) (m tm : Int), e = .returned (.tuple #[.string (realT s.M x.f1).1, .agg #[.int .i64 k0, .string t1, .slice A n c, .int .i64 m, .int .i64 tm], .bool (realT s.M x.f1).2.1.isSome, .int .i64 (realT s.M x.f1).2.2]) ∧ Hid (Below w0.heap.size w0 w') ∧ Box5 w.heap.size (.int .i64 x.f0) (.string x.f1) (.slice A2 x.f2.length c2) (.int .i64 x.f3) (.int .i64 x.f4) w' from by
    refine (real_calls g base b s.cnt _ s.M x.f1 W (HH0.out W hb).c0 (HH0.out W hb).mapAt hF (by omega)).mono fun e w' ⟨V, he, hV, hb2⟩ => ?_
    obtain ⟨k0, t1, A, n, c, m, tm, rfl⟩ := hV.form
    exact ⟨k0, t1, A, n, c, m, tm, he, Lib.hid (bgo hb hb2), HQ.out _ (bgo hb hb2)⟩)
  have HVP := Lib.hid (fun W (hb : Below w0.heap.size w0 W) => keepQ HQ.out (valid_calls (realT s.M x.f1).1 W (by omega)) hb)
  have HLEN := Lib.hid (fun W (hb : Below w0.heap.size w0 W) => (HH0.out W hb).len)
  have HMQ := Lib.hid (show makeP s.M s.cnt s.room x = if (realT s.M x.f1).2.2 ≠ 0 then .inl (realT s.M x.f1).2.2 else if (realT s.M x.f1).2.1.isSome = true then .inl 30 else
    if validB (realT s.M x.f1).1 = false then .inl 20 else if 65536 ≤ s.cnt then .inl 3 else
    .inr (⟨x.f0, (realT s.M x.f1).1, emp, x.f2⟩, putM s.M ⟨x.f0, (realT s.M x.f1).1, x.f2, x.f3, x.f4⟩, s.cnt + 1, s.room) by rw [HMP.out, if_neg (by rw [hv]; simp), if_neg (by rw [hm]; simp), if_neg hk])
  have HTM := Lib.hid (realT_M s.M x.f1)
  clear HMP hv hm hps2
  generalize realT s.M x.f1 = T at *
  obtain ⟨p, o, er⟩ := T
  dsimp only at HRL HVP HMQ hpt HTM
  go_enter Tryd.func10, Tryd.ntmps10
  go_upto_region 1 with (fail)
  rw [HW0.out]
  obtain ⟨z0, z1, z2, z3, z4⟩ := HQ.out _ HB0.out
  have hk1 := hk
  clear hk
  by_cases hf0 : x.f0 = 2
  all_goals
    first
      | (have hk2b : ¬ (0 : Int) < (x.f2.length : Int) := (by have := fun h => hk1 ⟨hf0, h⟩; omega); have hk1b : (x.f0 == 2) = true := beq_iff_eq.mpr hf0; clear hk1 hf0; go_upto_region 12 with (first | (go_at_call 26; refine (HN.out _ HB0.out).mono ?_; rintro e w' ⟨rfl, rfl⟩) | (go_at_call 21; refine (HV.out _ HB0.out).mono ?_; rintro e w1 ⟨rfl, HB1, a0, a1, a2, a3, a4⟩) | (go_at_call 7; refine (HCK.out _ HB1.out).mono ?_; rintro e w2 ⟨rfl, HB2, b0, b1, b2, b3, b4⟩)); clear hk1b hk2b)
      | (have hk1b : (x.f0 == 2) = false := beq_eq_false_iff_ne.mpr hf0; clear hk1 hf0; go_upto_region 12 with (first | (go_at_call 26; refine (HN.out _ HB0.out).mono ?_; rintro e w' ⟨rfl, rfl⟩) | (go_at_call 21; refine (HV.out _ HB0.out).mono ?_; rintro e w1 ⟨rfl, HB1, a0, a1, a2, a3, a4⟩) | (go_at_call 7; refine (HCK.out _ HB1.out).mono ?_; rintro e w2 ⟨rfl, HB2, b0, b1, b2, b3, b4⟩)); clear hk1b)
  all_goals
    clear HN HV HCK a0 a1 a2 a3 a4 z0 z1 z2 z3 z4
    by_cases her : er = 0
    · subst her
      cases ho : o.isSome
      · rw [ho] at HRL HMQ
        cases hvp : validB p
        · rw [hvp] at HVP
          have HR := Lib.hid (fun W hb => HPO.out W hb 20 (by rw [HMQ.out, if_neg (by simp), if_neg (by simp), if_pos hvp]))
          clear ho hvp
          go_wp2_with (first | (go_at_call 28; refine (HRL.out _ HB2.out).mono ?_; rintro e w3 ⟨k0, t1, A4, n4, c4, m4, tm4, rfl, HB3, d0, d1, d2, d3, d4⟩) | (go_at_call 21; refine (HVP.out _ (balloc HB3.out _)).mono ?_; rintro e w5 ⟨rfl, HB5, f0, f1, f2, f3, f4⟩))
          go_ret
          exact HR.out _ HB5.out
        · rw [hvp] at HVP
          go_upto_region 19 with (first | (go_at_call 28; refine (HRL.out _ HB2.out).mono ?_; rintro e w3 ⟨k0, t1, A4, n4, c4, m4, tm4, rfl, HB3, d0, d1, d2, d3, d4⟩) | (go_at_call 21; refine (HVP.out _ (balloc HB3.out _)).mono ?_; rintro e w5 ⟨rfl, HB5, f0, f1, f2, f3, f4⟩))
          have hc5 := (HH0.out _ HB5.out).c0
          have hlen := HLEN.out _ HB5.out
          by_cases hcnt : 65536 ≤ s.cnt
          · have HR := Lib.hid (fun W hb => HPO.out W hb 3 (by rw [HMQ.out, if_neg (by simp), if_neg (by simp), if_neg (by rw [hvp]; simp), if_pos hcnt]))
            have hcb : (65536 : Int) ≤ (s.cnt : Int) := by omega
            clear ho hvp hcnt
            go_wp2
            go_ret
            exact HR.out _ HB5.out
          · have HMR := Lib.hid (show makeP s.M s.cnt s.room x = .inr (⟨x.f0, p, emp, x.f2⟩, putM s.M ⟨x.f0, p, x.f2, x.f3, x.f4⟩, s.cnt + 1, s.room) by rw [HMQ.out, if_neg (by simp), if_neg (by simp), if_neg (by rw [hvp]; simp), if_neg hcnt])
            have hcb : ¬ (65536 : Int) ≤ (s.cnt : Int) := by omega
            clear hvp HMQ HPO HRL HVP HLEN d0 d1 d2 d3 d4
            go_upto_region 21 with (fail)
            have HBC := Lib.hid (fun W (hb : Below w0.heap.size w0 W) => show Calls Tryd.prog 20 #[.slice A2 x.f2.length c2] W fun e w' => ∃ A3 c3, e = .returned (.slice A3 x.f2.length c3) ∧ Box5 w.heap.size (.int .i64 x.f0) (.string x.f1) (.slice A2 x.f2.length c2) (.int .i64 x.f3) (.int .i64 x.f4) w' ∧ Hid ((Kd.int .u8).R 5 w' w0.heap.size (fun q => W.heap.size ≤ q) (.slice A3 x.f2.length c3) x.f2) ∧ Hid (Below w0.heap.size w0 w') ∧ (∀ b o, b < W.heap.size → w'.cell? ⟨b, o, none⟩ = W.cell? ⟨b, o, none⟩) ∧ (∀ b o, b < W.heap.size → w'.frozen? ⟨b, o, none⟩ = W.frozen? ⟨b, o, none⟩) from by
              refine (bclone_calls A2 c2 x.f2 W (HC0.out W hb) (by have := HOK.out.ds; omega)).mono fun e w' ⟨v, he, hR, hb2⟩ => ?_
              obtain ⟨A3, c3, rfl, _, _⟩ := Kd.R_reads hR
              exact ⟨A3, c3, he, HQ.out _ (bgo hb hb2), Lib.hid (Kd.R_mono (Kd.R_lower (Kd.R_bound hR) hb.size) (fun q hq => hq.2.1)), Lib.hid (bgo hb hb2), (bcell hb2).1, (bcell hb2).2⟩)
            have g0 := f0
            have g2 := f2
            clear f1 f3 f4
            have hne5 : w.heap.size ≠ w5.heap.size := by have := HB5.out.size; omega
            have hne6 : w5.heap.size ≠ w.heap.size := fun e => hne5 e.symm
            go_cut [12] (fun v wc => ∃ q A3 c3, v = .pointer (some ⟨q, 0, none⟩) ∧ Hid (Below w0.heap.size w0 wc) ∧ (wc.cell? ⟨q, 0, none⟩ = some (.int .i64 x.f0) ∧ wc.cell? ⟨q, 1, none⟩ = some (.string p) ∧ wc.cell? ⟨q, 2, none⟩ = some (.string ⟨#[]⟩) ∧ wc.cell? ⟨q, 3, none⟩ = some (.slice A3 x.f2.length c3)) ∧ Hid ((Kd.int .u8).R 5 wc w0.heap.size (fun _ => True) (.slice A3 x.f2.length c3) x.f2))
            case first =>
              go_region_held3 (fun w' => w'.cell? ⟨w.heap.size, 0, none⟩ = some (.int .i64 x.f0) ∧ w'.cell? ⟨w.heap.size, 2, none⟩ = some (.slice A2 x.f2.length c2)) (go_keep) ((go_at_call 20; refine (HBC.out _ (by first | exact bdrew HB5.out | exact bdrew (balloc HB5.out _))).mono ?_; rintro e w6 ⟨A3, c3, rfl, ⟨i0, i1, i2, i3, i4⟩, HR6, HB6, hcc, hff⟩))
              all_goals
                go_wp2_with fail
                go_meet
                first
                  | exact ⟨w6.heap.size, A3, c3, rfl, Lib.hid (balloc HB6.out _), ⟨by simp, by simp, by simp, by simp⟩, Lib.hid (Kd.R_mono (Kd.R_below HR6.out (balloc (Below.refl _ _) _)) (fun _ _ => trivial))⟩
                  | exact ⟨w5.heap.size, A3, c3, rfl, Lib.hid ((((HB6.out.setCell (p := ⟨w5.heap.size, 0, none⟩) HB5.out.size _).setCell (p := ⟨w5.heap.size, 1, none⟩) HB5.out.size _).setCell (p := ⟨w5.heap.size, 2, none⟩) HB5.out.size _).setCell (p := ⟨w5.heap.size, 3, none⟩) HB5.out.size _), ⟨by go_simp, by go_simp, by go_simp, by go_simp⟩, Lib.hid (Kd.R_mono (far4 HR6.out (fun q hq => by simp at hq; omega)) (fun _ _ => trivial))⟩
            case rest =>
              obtain ⟨q, A3, c3, rfl, HBc, ⟨j0, j1, j2, j3⟩, HRc⟩ := hcut
              clear HBC g0 g2
              have HCH := Lib.hid (show Calls Tryd.prog 29 #[.pointer (some ⟨g, 0, none⟩), .agg #[.int .i64 x.f0, .string p, .string ⟨#[]⟩, .slice A3 x.f2.length c3]] wc (OpPost base g b lv wc (s.change ⟨x.f0, p, emp, x.f2⟩)) from change_calls base w0.heap.size g b lv (.slice A3 x.f2.length c3) (fun _ => True) s ⟨x.f0, p, emp, x.f2⟩ wc (HH0.out wc HBc.out) (by have := HW.out.gb; have := HW.out.glt; omega) HRc.out hlog)
              have HEX := Lib.hid (show s.exec (makeP s.M s.cnt s.room x) = if (s.change ⟨x.f0, p, emp, x.f2⟩).2 = 0 then ({ (s.change ⟨x.f0, p, emp, x.f2⟩).1 with M := putM s.M ⟨x.f0, p, x.f2, x.f3, x.f4⟩, cnt := s.cnt + 1, room := s.room }, 0) else s.change ⟨x.f0, p, emp, x.f2⟩ by rw [HMR.out]; rfl)
              have HCS := Lib.hid (change_same s ⟨x.f0, p, emp, x.f2⟩)
              clear HMR HRc
              generalize s.change ⟨x.f0, p, emp, x.f2⟩ = SC at *
              obtain ⟨s7, e7⟩ := SC
              dsimp only at HCH HEX HCS
              by_cases he7 : e7 = 0
              · subst he7
                go_upto_region 23 with (go_at_call 29; refine HCH.out.mono ?_; rintro e w7 ⟨lv7, rfl, H7, hm7, hat7⟩)
                have HM7 := Lib.hid ((Mod.of_below (S := ownS g b lv) (bgo HBW.out HBc.out)).then_ hm7 (fun i _ e => e))
                have hk7 : w7.heap[w.heap.size]? = some (.cells #[.int .i64 x.f0, .string x.f1, .slice A2 x.f2.length c2, .int .i64 x.f3, .int .i64 x.f4] 33 (0, 0)) := (hm7.block _ (by have := HBc.out.size; omega) (fun e => by
                  rcases e with e | e | e
                  · have := HW.out.glt; omega
                  · have := HW.out.blt; omega
                  · have := (HW.out.logT _ e).1; omega)).trans ((HBc.out.block _ (by omega)).trans HBX.out)
                have hs7 : w.heap.size < w7.heap.size := (Array.getElem?_eq_some_iff.1 hk7).1
                have HC8 := Lib.hid (show Calls Tryd.prog 20 #[.slice A2 x.f2.length c2] w7 fun e w' => ∃ A8 c8, e = .returned (.slice A8 x.f2.length c8) ∧ Box5 w.heap.size (.int .i64 x.f0) (.string x.f1) (.slice A2 x.f2.length c2) (.int .i64 x.f3) (.int .i64 x.f4) w' ∧ (∀ i, w'.frozen? ⟨w.heap.size, i, none⟩ = false) ∧ Hid (∃ cells, w'.heap[w.heap.size]? = some (.cells cells 33 (0, 0))) ∧ Hid ((Kd.int .u8).R 5 w' w7.heap.size (fun q => w7.heap.size ≤ q) (.slice A8 x.f2.length c8) x.f2) ∧ Hid (Below w7.heap.size w7 w') from by
                  refine (bclone_calls A2 c2 x.f2 w7 (HCM.out w7 HM7.out) (by have := HOK.out.ds; omega)).mono fun e w' ⟨v, he, hR, hb2⟩ => ?_
                  obtain ⟨A8, c8, rfl, _, _⟩ := Kd.R_reads hR
                  have hk8 := (hb2.block _ hs7).trans hk7
                  exact ⟨A8, c8, he, ⟨by simp [World.cell?, hk8], by simp [World.cell?, hk8], by simp [World.cell?, hk8], by simp [World.cell?, hk8], by simp [World.cell?, hk8]⟩, fun i => frozen_of_row _ _ i _ _ hk8, Lib.hid ⟨_, hk8⟩, Lib.hid (Kd.R_mono (Kd.R_bound hR) (fun q hq => hq.2.1)), Lib.hid hb2⟩)
                have a70 : w7.cell? ⟨w.heap.size, 0, none⟩ = some (.int .i64 x.f0) := by simp [World.cell?, hk7]
                have a71 : w7.cell? ⟨w.heap.size, 1, none⟩ = some (.string x.f1) := by simp [World.cell?, hk7]
                have a72 : w7.cell? ⟨w.heap.size, 2, none⟩ = some (.slice A2 x.f2.length c2) := by simp [World.cell?, hk7]
                have H7H := Lib.hid H7
                have HAT := Lib.hid hat7
                clear H7 hm7 hat7 hk7 HCH b0 b1 b2 b3 b4 f0 f2 j0 j1 j2 j3
                go_upto_region 26 with (go_at_call 20; refine HC8.out.mono ?_; rintro e w8 ⟨A8, c8, rfl, ⟨i0, i1, i2, i3, i4⟩, hfz, HK8, HR8, HB8⟩)
                have HF9 := Lib.hid (((H7H.out.below HB8.out).far HK8.out 1 (.string p)).far (k := w.heap.size) (by
                  obtain ⟨cells, hc⟩ := HK8.out
                  exact ⟨_, heap_setCell_same w8 w.heap.size 1 cells _ (.string p) hc⟩) 2 (.slice A8 x.f2.length c8))
                have HR9 := Lib.hid (Kd.R_far (p := ⟨w.heap.size, 2, none⟩) (Kd.R_far (p := ⟨w.heap.size, 1, none⟩) HR8.out (fun q hq => by show q ≠ w.heap.size; omega) (.string p)) (fun q hq => by show q ≠ w.heap.size; omega) (.slice A8 x.f2.length c8))
                have HM9 := Lib.hid (show Mod (ownS g b lv) w ((w8.setCell ⟨w.heap.size, 1, none⟩ (.string p)).setCell ⟨w.heap.size, 2, none⟩ (.slice A8 x.f2.length c8)) from
                  (HM7.out.then_ (S' := fun q => w.heap.size ≤ q) ((Mod.of_below HB8.out).then_ (S' := fun q => w.heap.size ≤ q) (Mod.trans (S := fun q => w.heap.size ≤ q) (Mod.of_setCell (S := fun q => w.heap.size ≤ q) w8 ⟨w.heap.size, 1, none⟩ _ (Nat.le_refl _)) (Mod.of_setCell (S := fun q => w.heap.size ≤ q) _ ⟨w.heap.size, 2, none⟩ _ (Nat.le_refl _))) (fun i _ e => e)) (fun i hi e => by omega)))
                refine wp_world ?_
                intro w9 hw9
                rw [← hw9] at HF9 HR9 HM9
                have p0 : w9.cell? ⟨w.heap.size, 0, none⟩ = some (.int .i64 x.f0) := by rw [hw9]; go_simp
                have p1 : w9.cell? ⟨w.heap.size, 1, none⟩ = some (.string p) := by rw [hw9]; go_simp
                have p2 : w9.cell? ⟨w.heap.size, 2, none⟩ = some (.slice A8 x.f2.length c8) := by rw [hw9]; go_simp
                have p3 : w9.cell? ⟨w.heap.size, 3, none⟩ = some (.int .i64 x.f3) := by rw [hw9]; go_simp
                have p4 : w9.cell? ⟨w.heap.size, 4, none⟩ = some (.int .i64 x.f4) := by rw [hw9]; go_simp
                have pg := HF9.out.c0
                clear hw9 i0 i1 i2 i3 i4 hfz a70 a71 a72
                obtain ⟨D, hown, hsz, hsays⟩ := HF9.out.map
                have HSY := Lib.hid hsays
                have HSZ := Lib.hid hsz
                have HOW := Lib.hid hown
                clear hsays hsz
                go_still_tail 6, (by kernel_rfl)
                go_wp2_with (at_mapUpdate; refine wpList_mapUpdate_own _ rfl _ _ _ 54 rfl 9 33 key9 Tryd.underlying54 _ b s7.cnt D rfl hown (by have := HF9.out.cntB; unfold maxLen; omega) _ (.agg #[.int .i64 x.f0, .string p, .slice A8 x.f2.length c8, .int .i64 x.f3, .int .i64 x.f4]) _ rfl rfl (Go.WideMaps.keyOf_string_mk Tryd.underlying9 (by unfold maxLen; omega)) _ [] rfl ?_; intro w10 hown10 hgr10)
                go_ret
                rw [HEX.out, if_pos trivial]
                have hle : base ≤ w7.heap.size := by have := HF9.out.gb; have := H7H.out.glt; omega
                have hno : (s7.M p).isSome = false := by rw [HCS.out.1, ← HTM.out trivial]; exact ho
                obtain ⟨hF, hM10⟩ := HF9.out.putNode HOW.out HSZ.out HSY.out (⟨x.f0, p, x.f2, x.f3, x.f4⟩ : Nd) _ hown10 hgr10 rfl (kN_mkM w9 base _ (⟨x.f0, p, x.f2, x.f3, x.f4⟩ : Nd) (Kd.R_mono (Kd.R_lower HR9.out hle) (fun _ _ => trivial))) (s.cnt + 1) (by rw [hno, HCS.out.2.1]; rfl) (by omega)
                rw [HCS.out.1] at hF
                refine ⟨lv7, rfl, ?_, HM9.out.then_ hM10 (fun i _ e => .inr (.inl e)), ?_⟩
                · have e1 := HCS.out.2.2
                  rw [← e1]
                  exact hF
                · have := HBc.out.size
                  rcases HAT.out with e | ⟨q, e, hq⟩
                  · exact .inl e
                  · exact .inr ⟨q, e, by omega⟩
              · have he71 : (e7 != 0) = true := by simpa using he7
                have HEY := Lib.hid (HEX.out.trans (if_neg he7))
                clear he7 HEX
                go_wp2_with (go_at_call 29; refine HCH.out.mono ?_; rintro e w7 ⟨lv7, rfl, H7, hm7, hat7⟩)
                go_ret
                rw [HEY.out]
                exact ⟨lv7, rfl, H7, (Mod.of_below (bgo HBW.out HBc.out)).then_ hm7 (fun i _ e => e), hat7.imp id (fun ⟨q, e, hq⟩ => ⟨q, e, by have := HBc.out.size; omega⟩)⟩
      · have HR := Lib.hid (fun W hb => HPO.out W hb 30 (by rw [HMQ.out, if_neg (by simp), if_pos ho]))
        rw [ho] at HRL
        clear ho
        go_wp2_with (go_at_call 28; refine (HRL.out _ HB2.out).mono ?_; rintro e w3 ⟨k0, t1, A4, n4, c4, m4, tm4, rfl, HB3, d0, d1, d2, d3, d4⟩)
        go_ret
        exact HR.out _ (balloc HB3.out _)
    · have her1 : (er != 0) = true := by simpa using her
      have HR := Lib.hid (fun W hb => HPO.out W hb er (by rw [HMQ.out, if_pos her]))
      clear her
      go_wp2_with (go_at_call 28; refine (HRL.out _ HB2.out).mono ?_; rintro e w3 ⟨k0, t1, A4, n4, c4, m4, tm4, rfl, HB3, d0, d1, d2, d3, d4⟩)
      go_ret
      exact HR.out _ (balloc HB3.out _)
end Go.Proofs.YtageofdcloneoaaDoor.Fs
set_option linter.unusedVariables false
set_option linter.unusedSimpArgs false
namespace Go.Proofs.YtageofdcloneoaaDoor.Fs
open Go.RowKit Go.BigFrame Go.Maps Go.Proofs.YtageofdcloneoaaDoor.Reg Go.Proofs.YtageofdcloneoaaDoor.Rout Go.Proofs.YtageofdcloneoaaDoor.Node Go.Proofs.YtageofdcloneoaaDoor.Tree Go.Proofs.YtageofdcloneoaaDoor.Vfs Go.Proofs.YtageofdcloneoaaDoorW.PrintWords Go.Proofs.YtageofdcloneoaaDoorW.PrintLast Go.Proofs.YtageofdcloneoaaDoorW.PrintMore
attribute [local go_sem ↓] Go.wp_at_zero Go.wp_at_succ
theorem infoU : (Tryd.prog.info? 5).map (fun i => (i.zero, i.size, i.bytes)) = some (some (.int .u8 0), 1, 1) := by kernel_rfl
theorem grow_calls' (n : Nat) (w : World) (hn : n ≤ 140737488355328) :
    Calls Tryd.prog 49 #[.slice none 0 0, .int .i64 n] w fun e w' => ∃ v, e = .returned v ∧ (Kd.int .u8).R 5 w' w.heap.size (fun q => w.heap.size ≤ q) v [] ∧ Below w.heap.size w w' := by
  by_cases h0 : n = 0
  · subst h0
    refine (Any8.slices_Grow_room Tryd.laysGrow none 0 0 0 w (by omega) (by omega) (by omega) (by omega)).mono ?_
    rintro e w' ⟨rfl, rfl⟩
    exact ⟨_, rfl, Kd.R_nil _ _ _ _ _, Below.refl _ _⟩
  · obtain ⟨i0, hi, hzz⟩ := Option.map_eq_some_iff.1 infoU
    simp only [Prod.mk.injEq] at hzz
    obtain ⟨hz0, hz1, hz2⟩ := hzz
    refine (Any8.slices_Grow_grow Tryd.laysGrow i0 (.int .u8 0) hi hz0 (by omega) none 0 0 n [] w (by omega) (by omega) (by rw [hz2]; omega) (by omega) (by simp) (fun _ => rfl) (fun a h => by cases h)).mono ?_
    rintro e w' ⟨rfl, rfl⟩
    have hge := grownCap_ge w (0 + n) 0 (Tryd.laysGrow_ren.t 25)
    have hle := grownCap_le_maxLen w (0 + n) 0 (Tryd.laysGrow_ren.t 25) (by unfold maxLen; omega)
    generalize grownCap w (0 + n) 0 (Tryd.laysGrow_ren.t 25) = G at *
    refine ⟨_, rfl, Kd.R_of_own (xs := []) ⟨rfl, .inr ⟨w.heap.size, _, _, rfl, Nat.le_refl _, heap_alloc_new w.drew _, by simp, hle, ?_, rfl⟩⟩ (fun k hk => ?_), balloc (bdrew (Below.refl _ _)) _⟩
    · simp only [Array.size_append, List.size_toArray, List.length_nil, size_zeroCells, Value.cells]
      simp
      omega
    · have : w.heap.size = k := by simpa [Value.ownBlock] using hk
      omega
set_option maxRecDepth 100000 in
set_option maxHeartbeats 4000000 in
theorem concat_calls (k : Nat) (A1 A2 : Option Addr) (c1 c2 : Nat) (xs ys : List Int) (w : World) (h0 : w.cell? ⟨k, 0, none⟩ = some (.slice A1 xs.length c1)) (h1 : w.cell? ⟨k, 1, none⟩ = some (.slice A2 ys.length c2))
    (hx : (Kd.int .u8).C w A1 xs.length xs) (hy : (Kd.int .u8).C w A2 ys.length ys) (hl : xs.length + ys.length ≤ 140737488355328) :
    Calls Tryd.prog 30 #[.slice (some ⟨k, 0, none⟩) 2 2] w fun e w' => ∃ v, e = .returned v ∧ (Kd.int .u8).R 5 w' w.heap.size (fun _ => True) v (xs ++ ys) ∧ Below w.heap.size w w' := by
  have HX := Lib.hid hx
  have HY := Lib.hid hy
  have hs1 : wrap64 ((xs.length : Int) + (ys.length : Int)) = (((xs.length + ys.length : Nat) : Nat) : Int) := by unfold wrap64; omega
  have hn1 : ¬ ((xs.length : Int) < 0) := by omega
  have hn2 : ¬ ((((xs.length + ys.length : Nat) : Nat) : Int) < 0) := by omega
  have HG := Lib.hid (grow_calls' (xs.length + ys.length) w (by omega))
  clear hx hy
  go_enter Tryd.func30, Tryd.ntmps30
  go_wp2
  refine wp_loop_rounds 3 ?_
  rw [rounds_succ]
  go_wp2
  rw [rounds_succ]
  go_wp2
  rw [rounds_succ]
  go_wp2_with (go_at_call 49; refine HG.out.mono ?_; rintro e w1 ⟨v1, rfl, hR1, hb1⟩)
  have h10 := bkeep hb1 h0
  have h11 := bkeep hb1 h1
  have HR1 := Lib.hid (Kd.R_mono hR1 (fun _ _ => trivial) (ok' := fun _ => True))
  have HB1 := Lib.hid hb1
  have HX1 := Lib.hid (Kd.C_below HX.out hb1)
  have HK := Lib.hid (fun W (hb : Below w.heap.size w W) => show W.cell? ⟨k, 1, none⟩ = some (.slice A2 ys.length c2) from bkeep hb h1)
  clear hR1 hb1 h0 h1
  refine wp_loop_rounds 3 ?_
  rw [rounds_succ]
  go_wp2_with (at_builtin; refine Kd.R_append_row (Value.int .u8) 0 (w0 := w) w.heap.size rfl (.tmp 31) (.tmp 32) 31 5 (.int .u8 0) 1 rfl Tryd.underlying31 infoU rfl (by omega) _ [] xs A1 xs.length c1 (fun _ => True) rfl rfl (fun _ _ => trivial) HR1.out HX1.out HB1.out HB1.out.size (by simp; omega) ?_; intro v2 w2 hR2 hb2 hg2 hat2; rw [List.nil_append] at hR2; have h21 := HK.out _ hb2; have HR2 := Lib.hid hR2; have HB2 := Lib.hid hb2; clear hR2 hb2 hg2 hat2)
  have HY2 := Lib.hid (Kd.C_below HY.out HB2.out)
  rw [rounds_succ]
  go_wp2_with (at_builtin; refine Kd.R_append_row (Value.int .u8) 0 (w0 := w) w.heap.size rfl (.tmp 31) (.tmp 32) 31 5 (.int .u8 0) 1 rfl Tryd.underlying31 infoU rfl (by omega) _ xs ys A2 ys.length c2 (fun _ => True) rfl rfl (fun _ _ => trivial) HR2.out HY2.out HB2.out HB2.out.size (by omega) ?_; intro v3 w3 hR3 hb3 hg3 hat3; have HR3 := Lib.hid hR3; have HB3 := Lib.hid hb3; clear hR3 hb3 hg3 hat3)
  rw [rounds_succ]
  go_wp2
  go_ret
  exact ⟨_, rfl, HR3.out, HB3.out⟩
end Go.Proofs.YtageofdcloneoaaDoor.Fs
set_option linter.unusedVariables false
set_option linter.unusedSimpArgs false
namespace Go.Proofs.YtageofdcloneoaaDoor.Fs
open Go.RowKit Go.BigFrame Go.Maps Go.Proofs.YtageofdcloneoaaDoor.Reg Go.Proofs.YtageofdcloneoaaDoor.Rout Go.Proofs.YtageofdcloneoaaDoor.Node Go.Proofs.YtageofdcloneoaaDoor.Tree Go.Proofs.YtageofdcloneoaaDoor.Vfs Go.Proofs.YtageofdcloneoaaDoorW.PrintWords Go.Proofs.YtageofdcloneoaaDoorW.PrintLast Go.Proofs.YtageofdcloneoaaDoorW.PrintMore
attribute [local go_sem ↓] Go.wp_at_zero Go.wp_at_succ
def NodeM (w : World) (base : Nat) (ok : Nat → Prop) (o : Option Nd) (V : Value) : Prop := match o with
  | none => V = zeroNode
  | some x => ∃ A2 c2, V = .agg #[.int .i64 x.f0, .string x.f1, .slice A2 x.f2.length c2, .int .i64 x.f3, .int .i64 x.f4] ∧ x.f2.length ≤ c2 ∧ (Kd.int .u8).R 5 w base ok (.slice A2 x.f2.length c2) x.f2
theorem look_allM {w : World} {base b n : Nat} {ok : Nat → Prop} {M : NMap} (h : MapAt w base b n ok M) (p : ByteArray) (hp : p.size ≤ 140737488351232) (x : Nd) (hx : M p = some x) :
    ∃ A2 c2, x.f2.length ≤ c2 ∧ ∀ W, Below w.heap.size w W → (Kd.int .u8).R 5 W base ok (.slice A2 x.f2.length c2) x.f2 ∧ (Instr.lookup 54 (.map (some b)) (.string p) true).run Tryd.prog W = .ok (.tuple #[.agg #[.int .i64 x.f0, .string x.f1, .slice A2 x.f2.length c2, .int .i64 x.f3, .int .i64 x.f4], .bool true]) W := by
  obtain ⟨D, h1, hq⟩ := h
  obtain ⟨g1, cs, g2, g3⟩ := (hq p).2 x hx
  obtain ⟨v2, rfl, d2⟩ := kN_openM g3
  obtain ⟨A2, c2, rfl, l2, _⟩ := Kd.R_reads d2
  refine ⟨A2, c2, l2, fun W hW => ⟨Kd.R_step d2 (fun k _ hk => hW.block k hk), ?_⟩⟩
  obtain ⟨v, ps, hrun, hv⟩ := (h1.kept (row := none) (grownBy_of_below hW) (by simp)).look_ok (z := zeroNode) (zd := .held zeroNode) (zp := []) key9 Tryd.underlying54 (zeroN W) rfl (Go.WideMaps.keyOf_string_mk (s := p) Tryd.underlying9 (by unfold maxLen; omega))
  unfold rawR at hv
  simp only [Option.some.injEq, Prod.mk.injEq] at hv
  rw [g2] at hv
  rw [hrun, g1, show v = Value.agg _ from DataW.held.inj hv.1]
set_option maxRecDepth 100000 in
set_option maxHeartbeats 4000000 in
theorem realM_calls (g base b n : Nat) (ok : Nat → Prop) (M : NMap) (s : ByteArray) (w : World) (hg : w.cell? ⟨g, 0, none⟩ = some (.map (some b))) (hM : MapAt w base b n ok M) (hF : Fine M) (hs : s.size ≤ 140737488351232) :
    Calls Tryd.prog 28 #[.pointer (some ⟨g, 0, none⟩), .string s] w fun e w' => ∃ V, e = .returned (.tuple #[.string (realT M s).1, V, .bool (realT M s).2.1.isSome, .int .i64 (realT M s).2.2]) ∧ NodeM w' base ok (realT M s).2.1 V ∧ Below w.heap.size w w' := by
  by_cases h0 : s.size = 0
  · have h1 := toList_nil s h0
    have HR := Lib.hid (show realT M s = (emp, none, 20) by unfold realT; rw [if_pos h0])
    clear h0
    go_enter Tryd.func28, Tryd.ntmps28
    go_wp2
    go_region
    all_goals
      go_wp2
      rw [HR.out]
      exact bodyPost_ret (v := .tuple #[.string ⟨#[]⟩, zeroNode, .bool false, .int .i64 20]) (by simp [results, Tryd.results28, go_sem, zeroNode]) rfl ⟨_, rfl, rfl, bdrew (balloc (Below.refl _ _) _)⟩
  have h1 := toList_ne s h0
  have hsz := realF_size M hF s hs
  have HRC := Lib.hid (Vfs.Real_calls g base b n ok M s (zbox w) (bkeep (balloc (Below.refl _ _) _) hg) (hM.below (balloc (Below.refl _ _) _)) hF hs)
  by_cases hz : (realF M s).2 = 0
  · have HR := Lib.hid (show realT M s = ((realF M s).1, M (realF M s).1, 0) by unfold realT; rw [if_neg h0, if_pos hz])
    rw [hz] at HRC
    have HM := Lib.hid hM
    clear h0 hz hM hF
    generalize (realF M s).1 = p at *
    cases hn : M p with
    | none =>
      rw [hn] at HR
      go_enter Tryd.func28, Tryd.ntmps28
      go_upto_region 6 with (go_at_call 47; refine HRC.out.mono ?_; rintro e w1 ⟨rfl, hb1⟩)
      have HB1 := Lib.hid (bgo (balloc (Below.refl w.heap.size w) (.cells #[.int .i64 0, .string ⟨#[]⟩, .slice none 0 0, .int .i64 0, .int .i64 0] 33)) hb1)
      have hgw := bkeep HB1.out hg
      have hlk := ((HM.out.below HB1.out).look p hsz).1 hn
      unfold zeroNode at hlk
      have n0 : w1.cell? ⟨w.heap.size, 0, none⟩ = some (.int .i64 0) := bkeep hb1 (by simp)
      have n1 : w1.cell? ⟨w.heap.size, 1, none⟩ = some (.string ⟨#[]⟩) := bkeep hb1 (by simp)
      have n2 : w1.cell? ⟨w.heap.size, 2, none⟩ = some (.slice none 0 0) := bkeep hb1 (by simp)
      have n3 : w1.cell? ⟨w.heap.size, 3, none⟩ = some (.int .i64 0) := bkeep hb1 (by simp)
      have n4 : w1.cell? ⟨w.heap.size, 4, none⟩ = some (.int .i64 0) := bkeep hb1 (by simp)
      have nf : ∀ i, w1.frozen? ⟨w.heap.size, i, none⟩ = false := fun i => (hb1.frozen (p := ⟨w.heap.size, i, none⟩) (by simp)).trans (by simp)
      clear hb1
      go_wp2
      refine wp_world ?_
      intro w2 hw2
      have m0 : w2.cell? ⟨w.heap.size, 0, none⟩ = some (.int .i64 0) := by rw [hw2]; go_simp
      have m1 : w2.cell? ⟨w.heap.size, 1, none⟩ = some (.string ⟨#[]⟩) := by rw [hw2]; go_simp
      have m2 : w2.cell? ⟨w.heap.size, 2, none⟩ = some (.slice none 0 0) := by rw [hw2]; go_simp
      have m3 : w2.cell? ⟨w.heap.size, 3, none⟩ = some (.int .i64 0) := by rw [hw2]; go_simp
      have m4 : w2.cell? ⟨w.heap.size, 4, none⟩ = some (.int .i64 0) := by rw [hw2]; go_simp
      have mf : ∀ i, w2.frozen? ⟨w.heap.size, i, none⟩ = false := fun i => by rw [hw2]; simp [nf]
      have HB2 := Lib.hid (show Below w.heap.size w w2 by rw [hw2]; exact ((((HB1.out.setCell (by simp) _).setCell (by simp) _).setCell (by simp) _).setCell (by simp) _).setCell (by simp) _)
      clear hw2 n0 n1 n2 n3 n4 nf hgw hlk
      go_region
      all_goals
        go_wp2
        rw [HR.out]
        generalize hW' : World.drew _ = W3
        have hW := hW'.symm
        clear hW'
        have k0 : W3.cell? ⟨w.heap.size, 0, none⟩ = some (.int .i64 0) := by rw [hW]; go_simp
        have k1 : W3.cell? ⟨w.heap.size, 1, none⟩ = some (.string ⟨#[]⟩) := by rw [hW]; go_simp
        have k2 : W3.cell? ⟨w.heap.size, 2, none⟩ = some (.slice none 0 0) := by rw [hW]; go_simp
        have k3 : W3.cell? ⟨w.heap.size, 3, none⟩ = some (.int .i64 0) := by rw [hW]; go_simp
        have k4 : W3.cell? ⟨w.heap.size, 4, none⟩ = some (.int .i64 0) := by rw [hW]; go_simp
        have HB3 : Below w.heap.size w W3 := by rw [hW]; exact bdrew ((((((HB2.out.setCell (by simp) _).setCell (by simp) _).setCell (by simp) _).setCell (by simp) _).setCell (by simp) _))
        clear hW
        exact bodyPost_ret (v := .tuple #[.string p, .agg #[.int .i64 0, .string ⟨#[]⟩, .slice none 0 0, .int .i64 0, .int .i64 0], .bool false, .int .i64 0]) (by simp [results, Tryd.results28, go_sem, k0, k1, k2, k3, k4]) rfl ⟨_, rfl, rfl, HB3⟩
    | some x =>
      rw [hn] at HR
      obtain ⟨A2, c2, l2, hL⟩ := look_allM HM.out p hsz x hn
      have HL := Lib.hid hL
      clear hL
      go_enter Tryd.func28, Tryd.ntmps28
      go_upto_region 6 with (go_at_call 47; refine HRC.out.mono ?_; rintro e w1 ⟨rfl, hb1⟩)
      have HB1 := Lib.hid (bgo (balloc (Below.refl w.heap.size w) (.cells #[.int .i64 0, .string ⟨#[]⟩, .slice none 0 0, .int .i64 0, .int .i64 0] 33)) hb1)
      have hgw := bkeep HB1.out hg
      have hlk := (HL.out _ HB1.out).2
      have n0 : w1.cell? ⟨w.heap.size, 0, none⟩ = some (.int .i64 0) := bkeep hb1 (by simp)
      have n1 : w1.cell? ⟨w.heap.size, 1, none⟩ = some (.string ⟨#[]⟩) := bkeep hb1 (by simp)
      have n2 : w1.cell? ⟨w.heap.size, 2, none⟩ = some (.slice none 0 0) := bkeep hb1 (by simp)
      have n3 : w1.cell? ⟨w.heap.size, 3, none⟩ = some (.int .i64 0) := bkeep hb1 (by simp)
      have n4 : w1.cell? ⟨w.heap.size, 4, none⟩ = some (.int .i64 0) := bkeep hb1 (by simp)
      have nf : ∀ i, w1.frozen? ⟨w.heap.size, i, none⟩ = false := fun i => (hb1.frozen (p := ⟨w.heap.size, i, none⟩) (by simp)).trans (by simp)
      clear hb1
      go_wp2
      refine wp_world ?_
      intro w2 hw2
      have m0 : w2.cell? ⟨w.heap.size, 0, none⟩ = some (.int .i64 x.f0) := by rw [hw2]; go_simp
      have m1 : w2.cell? ⟨w.heap.size, 1, none⟩ = some (.string x.f1) := by rw [hw2]; go_simp
      have m2 : w2.cell? ⟨w.heap.size, 2, none⟩ = some (.slice A2 x.f2.length c2) := by rw [hw2]; go_simp
      have m3 : w2.cell? ⟨w.heap.size, 3, none⟩ = some (.int .i64 x.f3) := by rw [hw2]; go_simp
      have m4 : w2.cell? ⟨w.heap.size, 4, none⟩ = some (.int .i64 x.f4) := by rw [hw2]; go_simp
      have mf : ∀ i, w2.frozen? ⟨w.heap.size, i, none⟩ = false := fun i => by rw [hw2]; simp [nf]
      have HB2 := Lib.hid (show Below w.heap.size w w2 by rw [hw2]; exact ((((HB1.out.setCell (by simp) _).setCell (by simp) _).setCell (by simp) _).setCell (by simp) _).setCell (by simp) _)
      clear hw2 n0 n1 n2 n3 n4 nf hgw hlk
      go_region
      all_goals
        go_wp2
        rw [HR.out]
        generalize hW' : World.drew _ = W3
        have hW := hW'.symm
        clear hW'
        have k0 : W3.cell? ⟨w.heap.size, 0, none⟩ = some (.int .i64 x.f0) := by rw [hW]; go_simp
        have k1 : W3.cell? ⟨w.heap.size, 1, none⟩ = some (.string x.f1) := by rw [hW]; go_simp
        have k2 : W3.cell? ⟨w.heap.size, 2, none⟩ = some (.slice A2 x.f2.length c2) := by rw [hW]; go_simp
        have k3 : W3.cell? ⟨w.heap.size, 3, none⟩ = some (.int .i64 x.f3) := by rw [hW]; go_simp
        have k4 : W3.cell? ⟨w.heap.size, 4, none⟩ = some (.int .i64 x.f4) := by rw [hW]; go_simp
        have HB3 : Below w.heap.size w W3 := by rw [hW]; exact bdrew ((((((HB2.out.setCell (by simp) _).setCell (by simp) _).setCell (by simp) _).setCell (by simp) _).setCell (by simp) _))
        clear hW
        exact bodyPost_ret (v := .tuple #[.string p, .agg #[.int .i64 x.f0, .string x.f1, .slice A2 x.f2.length c2, .int .i64 x.f3, .int .i64 x.f4], .bool true, .int .i64 0]) (by simp [results, Tryd.results28, go_sem, k0, k1, k2, k3, k4]) rfl ⟨_, rfl, ⟨A2, c2, rfl, l2, (HL.out _ HB3).1⟩, HB3⟩
  · have HR := Lib.hid (show realT M s = (emp, none, (realF M s).2) by unfold realT; rw [if_neg h0, if_neg hz])
    have hz1 : ((realF M s).2 != 0) = true := by simpa using hz
    clear h0 hz hM hF
    generalize (realF M s).1 = p at *
    generalize (realF M s).2 = er at *
    skip
    go_enter Tryd.func28, Tryd.ntmps28
    go_upto_region 5 with (go_at_call 47; refine HRC.out.mono ?_; rintro e w1 ⟨rfl, hb1⟩)
    have HB1 := Lib.hid (bgo (balloc (Below.refl w.heap.size w) (.cells #[.int .i64 0, .string ⟨#[]⟩, .slice none 0 0, .int .i64 0, .int .i64 0] 33)) hb1)
    have hgw := HB1
    have hlk := HB1
    have n0 : w1.cell? ⟨w.heap.size, 0, none⟩ = some (.int .i64 0) := bkeep hb1 (by simp)
    have n1 : w1.cell? ⟨w.heap.size, 1, none⟩ = some (.string ⟨#[]⟩) := bkeep hb1 (by simp)
    have n2 : w1.cell? ⟨w.heap.size, 2, none⟩ = some (.slice none 0 0) := bkeep hb1 (by simp)
    have n3 : w1.cell? ⟨w.heap.size, 3, none⟩ = some (.int .i64 0) := bkeep hb1 (by simp)
    have n4 : w1.cell? ⟨w.heap.size, 4, none⟩ = some (.int .i64 0) := bkeep hb1 (by simp)
    have nf : ∀ i, w1.frozen? ⟨w.heap.size, i, none⟩ = false := fun i => (hb1.frozen (p := ⟨w.heap.size, i, none⟩) (by simp)).trans (by simp)
    clear hb1
    refine wp_world ?_
    intro w2 hw2
    have m0 : w2.cell? ⟨w.heap.size, 0, none⟩ = some (.int .i64 0) := by rw [hw2]; go_simp
    have m1 : w2.cell? ⟨w.heap.size, 1, none⟩ = some (.string ⟨#[]⟩) := by rw [hw2]; go_simp
    have m2 : w2.cell? ⟨w.heap.size, 2, none⟩ = some (.slice none 0 0) := by rw [hw2]; go_simp
    have m3 : w2.cell? ⟨w.heap.size, 3, none⟩ = some (.int .i64 0) := by rw [hw2]; go_simp
    have m4 : w2.cell? ⟨w.heap.size, 4, none⟩ = some (.int .i64 0) := by rw [hw2]; go_simp
    have mf : ∀ i, w2.frozen? ⟨w.heap.size, i, none⟩ = false := fun i => by rw [hw2]; simp [nf]
    have HB2 := Lib.hid (show Below w.heap.size w w2 by rw [hw2]; exact HB1.out)
    clear hw2 n0 n1 n2 n3 n4 nf hgw hlk
    go_region
    all_goals
      go_wp2
      rw [HR.out]
      generalize hW' : World.drew _ = W3
      have hW := hW'.symm
      clear hW'
      have k0 : W3.cell? ⟨w.heap.size, 0, none⟩ = some (.int .i64 0) := by rw [hW]; go_simp
      have k1 : W3.cell? ⟨w.heap.size, 1, none⟩ = some (.string ⟨#[]⟩) := by rw [hW]; go_simp
      have k2 : W3.cell? ⟨w.heap.size, 2, none⟩ = some (.slice none 0 0) := by rw [hW]; go_simp
      have k3 : W3.cell? ⟨w.heap.size, 3, none⟩ = some (.int .i64 0) := by rw [hW]; go_simp
      have k4 : W3.cell? ⟨w.heap.size, 4, none⟩ = some (.int .i64 0) := by rw [hW]; go_simp
      have HB3 : Below w.heap.size w W3 := by rw [hW]; exact bdrew ((((((HB2.out.setCell (by simp) _).setCell (by simp) _).setCell (by simp) _).setCell (by simp) _).setCell (by simp) _))
      clear hW
      exact bodyPost_ret (v := .tuple #[.string ⟨#[]⟩, .agg #[.int .i64 0, .string ⟨#[]⟩, .slice none 0 0, .int .i64 0, .int .i64 0], .bool false, .int .i64 er]) (by simp [results, Tryd.results28, go_sem, k0, k1, k2, k3, k4]) rfl ⟨_, rfl, rfl, HB3⟩
end Go.Proofs.YtageofdcloneoaaDoor.Fs
set_option linter.unusedVariables false
set_option linter.unusedSimpArgs false
namespace Go.Proofs.YtageofdcloneoaaDoor.Fs
open Go.RowKit Go.BigFrame Go.Maps Go.Proofs.YtageofdcloneoaaDoor.Reg Go.Proofs.YtageofdcloneoaaDoor.Rout Go.Proofs.YtageofdcloneoaaDoor.Node Go.Proofs.YtageofdcloneoaaDoor.Tree Go.Proofs.YtageofdcloneoaaDoor.Vfs Go.Proofs.YtageofdcloneoaaDoorW.PrintWords Go.Proofs.YtageofdcloneoaaDoorW.PrintLast Go.Proofs.YtageofdcloneoaaDoorW.PrintMore
attribute [local go_sem ↓] Go.wp_at_zero Go.wp_at_succ
theorem NodeM.form {w : World} {base : Nat} {ok : Nat → Prop} {o : Option Nd} {V : Value} (h : NodeM w base ok o V) : ∃ (k0 : Int) (t1 : ByteArray) (A : Option Addr) (n c : Nat) (m tm : Int), V = .agg #[.int .i64 k0, .string t1, .slice A n c, .int .i64 m, .int .i64 tm] := by
  cases o with
  | none => exact ⟨0, ⟨#[]⟩, none, 0, 0, 0, 0, h⟩
  | some x =>
    obtain ⟨A, c, rfl, _, _⟩ := h
    exact ⟨_, _, _, _, _, _, _, rfl⟩
/-- What writeP says behind the first looks. -/
theorem writeP_at (M : NMap) (cnt : Nat) (room : Int) (path : ByteArray) (b : List Int) (hv : validB path = true) (hl : ¬ 1048576 < b.length) : writeP M cnt room path b =
    if (realT M path).2.2 ≠ 0 then .inl (realT M path).2.2 else match (realT M path).2.1 with
    | none => .inl 31
    | some x => if x.f0 = 1 then .inl 32 else if x.f0 = 3 then .inl 2 else if 268435456 < x.f2.length + b.length then .inl 3 else if 0 ≤ room ∧ room < b.length then .inl 35 else
      .inr (⟨4, (realT M path).1, emp, b⟩, putM M ⟨x.f0, x.f1, x.f2 ++ b, x.f3, x.f4⟩, cnt, if 0 ≤ room then room - b.length else room) := by
  unfold writeP
  rw [if_neg (by rw [hv]; simp), if_neg hl]
  rfl
set_option maxRecDepth 100000 in
set_option maxHeartbeats 8000000 in
theorem write_calls (base g b : Nat) (lv : Value) (s : St) (path : ByteArray) (xs : List Int) (A2 : Option Addr) (c2 : Nat) (w : World) (h : FsAt w base g b lv s) (hC : ∀ W, Mod (ownS g b lv) w W → (Kd.int .u8).C W A2 xs.length xs) (hps : path.size ≤ 140737488351232) (hxl : xs.length ≤ 140737488351232) (hF : Fine s.M) (hown : ∀ p x, s.M p = some x → x.f1 = p) (hlog : (s.log.length + 1) * 64 ≤ 140737488355328) :
    Calls Tryd.prog 11 #[.pointer (some ⟨g, 0, none⟩), .string path, .slice A2 xs.length c2] w (OpPost base g b lv w (s.exec (writeP s.M s.cnt s.room path xs))) := by
  have HW := Lib.hid h
  have HH0 := Lib.hid (fun W (hb : Below w.heap.size w W) => (h.below hb : FsAt W base g b lv s))
  have HCM := Lib.hid hC
  have HN := Lib.hid (none_calls g b w h.c0)
  have HV := Lib.hid (valid_calls path w (by omega))
  have HPO := Lib.hid (fun (W : World) (hb : Below w.heap.size w W) (e : Int) (he : writeP s.M s.cnt s.room path xs = .inl e) => show OpPost base g b lv w (s.exec (writeP s.M s.cnt s.room path xs)) (.returned (.int .i64 e)) W by
    rw [he]
    exact ⟨lv, rfl, HH0.out W hb, Mod.of_below hb, .inl rfl⟩)
  clear h hC
  cases hv : validB path
  · rw [hv] at HV
    have HR := Lib.hid (fun W hb => HPO.out W hb 20 (by unfold writeP; rw [if_pos hv]))
    clear hv
    go_enter Tryd.func11, Tryd.ntmps11
    go_wp2_with (first | (go_at_call 26; refine HN.out.mono ?_; rintro e w' ⟨rfl, rfl⟩) | (go_at_call 21; refine HV.out.mono ?_; rintro e w1 ⟨rfl, HB1⟩))
    go_ret
    exact HR.out _ HB1
  rw [hv] at HV
  by_cases hbig : 1048576 < xs.length
  · have HR := Lib.hid (fun W hb => HPO.out W hb 3 (by unfold writeP; rw [if_neg (by rw [hv]; simp), if_pos hbig]))
    have hb1 : (1048576 : Int) < (xs.length : Int) := by omega
    clear hv hbig
    go_enter Tryd.func11, Tryd.ntmps11
    go_wp2_with (first | (go_at_call 26; refine HN.out.mono ?_; rintro e w' ⟨rfl, rfl⟩) | (go_at_call 21; refine HV.out.mono ?_; rintro e w1 ⟨rfl, HB1⟩))
    go_ret
    exact HR.out _ HB1
  have HMP := Lib.hid (writeP_at s.M s.cnt s.room path xs hv hbig)
  have hb1 : ¬ (1048576 : Int) < (xs.length : Int) := by omega
  have hps2 := realF_size s.M hF path (by omega)
  have hpt : (realT s.M path).1.size ≤ 140737488351232 := by
    unfold realT
    split
    · exact (by decide : emp.size ≤ 140737488351232)
    split
    · exact hps2
    · exact (by decide : emp.size ≤ 140737488351232)
  have HRL := Lib.hid (fun W (hb : Below w.heap.size w W) => show Calls Tryd.prog 28 #[.pointer (some ⟨g, 0, none⟩), .string path] W fun e w' => ∃ (k0 : Int) (t1 : ByteArray) (A : Option Addr) (n c : Nat) (m tm : Int), e = .returned (.tuple #[.string (realT s.M path).1, .agg #[.int .i64 k0, .string t1, .slice A n c, .int .i64 m, .int .i64 tm], .bool (realT s.M path).2.1.isSome, .int .i64 (realT s.M path).2.2]) ∧ Hid (Below w.heap.size w w') ∧ Hid (NodeM w' base (fun _ => True) (realT s.M path).2.1 (.agg #[.int .i64 k0, .string t1, .slice A n c, .int .i64 m, .int .i64 tm])) from by
    refine (realM_calls g base b s.cnt _ s.M path W (HH0.out W hb).c0 (HH0.out W hb).mapAt hF hps).mono fun e w' ⟨V, he, hV, hb2⟩ => ?_
    obtain ⟨k0, t1, A, n, c, m, tm, rfl⟩ := hV.form
    exact ⟨k0, t1, A, n, c, m, tm, he, Lib.hid (bgo hb hb2), Lib.hid hV⟩)
  have HTM := Lib.hid (realT_M s.M path)
  clear hv hbig hps2
  generalize realT s.M path = T at *
  obtain ⟨p, o, er⟩ := T
  dsimp only at HRL HMP hpt HTM
  go_enter Tryd.func11, Tryd.ntmps11
  go_upto_region 8 with (first | (go_at_call 26; refine HN.out.mono ?_; rintro e w' ⟨rfl, rfl⟩) | (go_at_call 21; refine HV.out.mono ?_; rintro e w1 ⟨rfl, HB1⟩) | (go_at_call 28; refine (HRL.out _ HB1).mono ?_; rintro e w3 ⟨k0, t1, A4, n4, c4, m4, tm4, rfl, HB3, HV3⟩))
  clear HN HV HRL
  by_cases her : er = 0
  case neg =>
    have her1 : (er != 0) = true := by simpa using her
    have HR := Lib.hid (fun W hb => HPO.out W hb er (by rw [HMP.out, if_pos her]))
    clear her
    go_wp2
    go_ret
    exact HR.out _ (balloc HB3.out _)
  subst her
  have hof : p.size ≤ 140737488351232 := hpt
  cases o with
  | none =>
    have HR := Lib.hid (fun W hb => HPO.out W hb 31 (by rw [HMP.out]; rfl))
    go_wp2
    go_ret
    exact HR.out _ (balloc HB3.out _)
  | some x =>
    obtain ⟨A5, c5, heq, l5, hR3⟩ := HV3.out
    injection heq with heq
    simp only [Array.mk.injEq, List.cons.injEq, Value.int.injEq, Value.string.injEq, Value.slice.injEq, and_true, true_and] at heq
    obtain ⟨rfl, rfl, ⟨rfl, rfl, rfl⟩, rfl, rfl⟩ := heq
    have HR3 := Lib.hid hR3
    have hx : s.M p = some x := (HTM.out rfl).symm
    have hxp := hown p x hx
    have hdl := hF.data p x hx
    have HMQ := Lib.hid (show writeP s.M s.cnt s.room path xs = if x.f0 = 1 then .inl 32 else if x.f0 = 3 then .inl 2 else if 268435456 < x.f2.length + xs.length then .inl 3 else if 0 ≤ s.room ∧ s.room < xs.length then .inl 35 else
      .inr (⟨4, p, emp, xs⟩, putM s.M ⟨x.f0, x.f1, x.f2 ++ xs, x.f3, x.f4⟩, s.cnt, if 0 ≤ s.room then s.room - xs.length else s.room) from HMP.out)
    clear HMP HV3 hR3 HTM hF hown
    refine wp_world ?_
    intro w4 hw4
    have n0 : w4.cell? ⟨w3.heap.size, 0, none⟩ = some (.int .i64 x.f0) := by rw [hw4]; simp
    have n1 : w4.cell? ⟨w3.heap.size, 1, none⟩ = some (.string x.f1) := by rw [hw4]; simp
    have n2 : w4.cell? ⟨w3.heap.size, 2, none⟩ = some (.slice A4 x.f2.length c4) := by rw [hw4]; simp
    have n3 : w4.cell? ⟨w3.heap.size, 3, none⟩ = some (.int .i64 x.f3) := by rw [hw4]; simp
    have n4 : w4.cell? ⟨w3.heap.size, 4, none⟩ = some (.int .i64 x.f4) := by rw [hw4]; simp
    have HB4 := Lib.hid (show Below w.heap.size w w4 by rw [hw4]; exact balloc HB3.out _)
    have HK4 := Lib.hid (show w4.heap[w3.heap.size]? = some (.cells #[.int .i64 x.f0, .string x.f1, .slice A4 x.f2.length c4, .int .i64 x.f3, .int .i64 x.f4] 33 (0, 0)) by rw [hw4]; exact heap_alloc_new _ _)
    have HR4 := Lib.hid (show (Kd.int .u8).R 5 w4 base (fun _ => True) (.slice A4 x.f2.length c4) x.f2 by rw [hw4]; exact Kd.R_below HR3.out (balloc (Below.refl _ _) _))
    clear hw4 HR3
    have hwr : wrap64 ((268435456 : Int) - (x.f2.length : Int)) = 268435456 - (x.f2.length : Int) := by unfold wrap64; omega
    by_cases hk1 : x.f0 = 1
    · have HR := Lib.hid (fun W hb => HPO.out W hb 32 (by rw [HMQ.out, if_pos hk1]))
      have hk1b : (x.f0 == 1) = true := beq_iff_eq.mpr hk1
      clear hk1 hx hxp
      go_wp2
      go_ret
      exact HR.out _ HB4.out
    have hk1b : (x.f0 == 1) = false := beq_eq_false_iff_ne.mpr hk1
    by_cases hk3 : x.f0 = 3
    · have HR := Lib.hid (fun W hb => HPO.out W hb 2 (by rw [HMQ.out, if_neg hk1, if_pos hk3]))
      have hk3b : (x.f0 == 3) = true := beq_iff_eq.mpr hk3
      clear hk1 hk3 hx hxp
      go_wp2
      go_ret
      exact HR.out _ HB4.out
    have hk3b : (x.f0 == 3) = false := beq_eq_false_iff_ne.mpr hk3
    by_cases hsz : 268435456 < x.f2.length + xs.length
    · have HR := Lib.hid (fun W hb => HPO.out W hb 3 (by rw [HMQ.out, if_neg hk1, if_neg hk3, if_pos hsz]))
      have hszb : (268435456 : Int) - (x.f2.length : Int) < (xs.length : Int) := by omega
      clear hk1 hk3 hsz hx hxp
      go_wp2
      go_ret
      exact HR.out _ HB4.out
    have hszb : ¬ (268435456 : Int) - (x.f2.length : Int) < (xs.length : Int) := by omega
    have c5_ := (HH0.out _ HB4.out).c5
    have HMR := Lib.hid (show writeP s.M s.cnt s.room path xs = if 0 ≤ s.room ∧ s.room < xs.length then .inl 35 else
      .inr (⟨4, p, emp, xs⟩, putM s.M ⟨x.f0, x.f1, x.f2 ++ xs, x.f3, x.f4⟩, s.cnt, if 0 ≤ s.room then s.room - xs.length else s.room) by rw [HMQ.out, if_neg hk1, if_neg hk3, if_neg hsz])
    clear hk1 hk3 hsz HMQ
    by_cases hr : 0 ≤ s.room ∧ s.room < xs.length
    · have HR := Lib.hid (fun W hb => HPO.out W hb 35 (by rw [HMR.out, if_pos hr]))
      obtain ⟨hr0, hr1⟩ := hr
      clear hx hxp
      go_wp2
      go_ret
      exact HR.out _ HB4.out
    subst hxp
    have HXM := Lib.hid hx
    have HBC := Lib.hid (show Calls Tryd.prog 20 #[.slice A2 xs.length c2] w4 fun e w' => ∃ A3 c3, e = .returned (.slice A3 xs.length c3) ∧ Hid ((Kd.int .u8).R 5 w' w.heap.size (fun _ => True) (.slice A3 xs.length c3) xs) ∧ Hid (Below w4.heap.size w4 w') from by
      refine (bclone_calls A2 c2 xs w4 (HCM.out w4 (Mod.of_below HB4.out)) (by omega)).mono fun e w' ⟨v, he, hR, hb2⟩ => ?_
      obtain ⟨A3, c3, rfl, _, _⟩ := Kd.R_reads hR
      exact ⟨A3, c3, he, Lib.hid (Kd.R_mono (Kd.R_lower hR HB4.out.size) (fun _ _ => trivial)), Lib.hid hb2⟩)
    have hgw : base ≤ w.heap.size := by have := HW.out.gb; have := HW.out.glt; omega
    have HCH := Lib.hid (fun W (hb : Below w.heap.size w W) A3 c3 (hR : (Kd.int .u8).R 5 W w.heap.size (fun _ => True) (.slice A3 xs.length c3) xs) => show Calls Tryd.prog 29 #[.pointer (some ⟨g, 0, none⟩), .agg #[.int .i64 4, .string x.f1, .string ⟨#[]⟩, .slice A3 xs.length c3]] W (OpPost base g b lv W (s.change ⟨4, x.f1, emp, xs⟩)) from change_calls base w.heap.size g b lv (.slice A3 xs.length c3) (fun _ => True) s ⟨4, x.f1, emp, xs⟩ W (HH0.out W hb) hgw hR hlog)
    have HEX := Lib.hid (show s.exec (writeP s.M s.cnt s.room path xs) = if (s.change ⟨4, x.f1, emp, xs⟩).2 = 0 then ({ (s.change ⟨4, x.f1, emp, xs⟩).1 with M := putM s.M ⟨x.f0, x.f1, x.f2 ++ xs, x.f3, x.f4⟩, cnt := s.cnt, room := if 0 ≤ s.room then s.room - xs.length else s.room }, 0) else s.change ⟨4, x.f1, emp, xs⟩ by rw [HMR.out, if_neg hr]; rfl)
    have HCS := Lib.hid (change_same s ⟨4, x.f1, emp, xs⟩)
    clear HMR hx
    generalize s.change ⟨4, x.f1, emp, xs⟩ = SC at *
    obtain ⟨s7, e7⟩ := SC
    dsimp only at HCH HEX HCS
    by_cases hr0 : 0 ≤ s.room
    all_goals
      first
        | (have hr1 : ¬ s.room < xs.length := fun e => hr ⟨hr0, e⟩; clear hr)
        | clear hr
      go_upto_region 21 with (first | (go_at_call 20; refine HBC.out.mono ?_; rintro e w6 ⟨A3, c3, rfl, HR6, HB6⟩) | (go_at_call 29; refine (HCH.out _ (bgo HB4.out HB6.out) A3 c3 HR6.out).mono ?_; rintro e w7 ⟨lv7, rfl, H7, hm7, hat7⟩))
      by_cases he7 : e7 = 0
      case neg =>
        have he71 : (e7 != 0) = true := by simpa using he7
        have HEY := Lib.hid (HEX.out.trans (if_neg he7))
        clear he7 HEX
        go_wp2
        go_ret
        rw [HEY.out]
        exact ⟨lv7, rfl, H7, (Mod.of_below (bgo HB4.out (bgo HB6.out (Below.refl _ _)))).then_ hm7 (fun i _ e => e), hat7.imp id (fun ⟨q, e, hq⟩ => ⟨q, e, by have := HB4.out.size; have := HB6.out.size; omega⟩)⟩
      have HEY := Lib.hid (HEX.out.trans (if_pos he7))
      subst he7
      have HM7 := Lib.hid ((Mod.of_below (S := ownS g b lv) (bgo HB4.out HB6.out)).then_ hm7 (fun i _ e => e))
      have hq3 : w.heap.size ≤ w3.heap.size := HB3.out.size
      have hk6 := (HB6.out.block w3.heap.size (Array.getElem?_eq_some_iff.1 HK4.out).1).trans HK4.out
      have hk7 : w7.heap[w3.heap.size]? = some (.cells #[.int .i64 x.f0, .string x.f1, .slice A4 x.f2.length c4, .int .i64 x.f3, .int .i64 x.f4] 33 (0, 0)) := (hm7.block _ (Array.getElem?_eq_some_iff.1 hk6).1 (fun e => by
        rcases e with e | e | e
        · have := HW.out.glt; omega
        · have := HW.out.blt; omega
        · have := (HW.out.logT _ e).1; omega)).trans hk6
      have hs7 : w3.heap.size < w7.heap.size := (Array.getElem?_eq_some_iff.1 hk7).1
      have HR7 := Lib.hid ((HH0.out _ (bgo HB4.out HB6.out)).rowKept hm7 (Kd.R_below HR4.out HB6.out) (by decide) (by decide))
      have HX7 := Lib.hid (HCM.out w7 HM7.out)
      obtain ⟨ys, hys⟩ : ∃ ys, x.f2 ++ xs = ys := ⟨_, rfl⟩
      rw [hys] at HEY
      have hyl : ys.length ≤ 140737488351232 := by rw [← hys, List.length_append]; omega
      have HC8 := Lib.hid (show Calls Tryd.prog 30 #[.slice (some ⟨w7.heap.size, 0, none⟩) 2 2] (w7.alloc (.cells #[.slice A4 x.f2.length c4, .slice A2 xs.length c2] 31)) fun e w' => ∃ A8 c8, e = .returned (.slice A8 ys.length c8) ∧ Box5 w3.heap.size (.int .i64 x.f0) (.string x.f1) (.slice A4 x.f2.length c4) (.int .i64 x.f3) (.int .i64 x.f4) w' ∧ (∀ i, w'.frozen? ⟨w3.heap.size, i, none⟩ = false) ∧ Hid (∃ cells, w'.heap[w3.heap.size]? = some (.cells cells 33 (0, 0))) ∧ Hid ((Kd.int .u8).R 5 w' w7.heap.size (fun q => w7.heap.size ≤ q) (.slice A8 ys.length c8) ys) ∧ Hid (Below w7.heap.size w7 w') from by
        have hal := balloc (Below.refl w7.heap.size w7) (.cells #[.slice A4 x.f2.length c4, .slice A2 xs.length c2] 31)
        obtain ⟨_, _, he4, _, hC4⟩ := Kd.R_reads HR7.out
        injection he4 with ha4 _ hc4
        subst ha4
        refine (concat_calls w7.heap.size A4 A2 c4 c2 x.f2 xs _ (by simp) (by simp) (Kd.C_below hC4 hal) (Kd.C_below HX7.out hal) (by omega)).mono fun e w' ⟨v, he, hR, hb2⟩ => ?_
        rw [hys] at hR
        obtain ⟨A8, c8, rfl, _, _⟩ := Kd.R_reads hR
        have hb3 : Below w7.heap.size w7 w' := bgo hal hb2
        have hk8 := (hb3.block _ hs7).trans hk7
        exact ⟨A8, c8, he, ⟨by simp [World.cell?, hk8], by simp [World.cell?, hk8], by simp [World.cell?, hk8], by simp [World.cell?, hk8], by simp [World.cell?, hk8]⟩, fun i => frozen_of_row _ _ i _ _ hk8, Lib.hid ⟨_, hk8⟩, Lib.hid (Kd.R_mono (Kd.R_lower (Kd.R_bound hR) (by simp)) (fun q hq => by have := hq.2.1; simp at this; omega)), Lib.hid hb3⟩)
      have a70 : w7.cell? ⟨w3.heap.size, 0, none⟩ = some (.int .i64 x.f0) := by simp [World.cell?, hk7]
      have a72 : w7.cell? ⟨w3.heap.size, 2, none⟩ = some (.slice A4 x.f2.length c4) := by simp [World.cell?, hk7]
      have H7H := Lib.hid H7
      have HAT := Lib.hid hat7
      clear H7 hm7 hat7 hk7 hk6 HCH n0 n1 n2 n3 n4 hys HEX HR4 HR7 HX7 hgw
      go_upto_region 24 with (go_at_call 30; refine HC8.out.mono ?_; rintro e w8 ⟨A8, c8, rfl, ⟨i0, i1, i2, i3, i4⟩, hfz, HK8, HR8, HB8⟩)
      have HF9 := Lib.hid ((H7H.out.below HB8.out).far HK8.out 2 (.slice A8 ys.length c8))
      have HR9 := Lib.hid (Kd.R_far (p := ⟨w3.heap.size, 2, none⟩) HR8.out (fun q hq => by show q ≠ w3.heap.size; omega) (.slice A8 ys.length c8))
      have HM9 := Lib.hid (show Mod (ownS g b lv) w (w8.setCell ⟨w3.heap.size, 2, none⟩ (.slice A8 ys.length c8)) from
        (HM7.out.then_ (S' := fun q => w.heap.size ≤ q) ((Mod.of_below HB8.out).then_ (S' := fun q => w.heap.size ≤ q) (Mod.of_setCell (S := fun q => w.heap.size ≤ q) w8 ⟨w3.heap.size, 2, none⟩ _ hq3) (fun i _ e => e)) (fun i hi e => by omega)))
      refine wp_world ?_
      intro w9 hw9
      rw [← hw9] at HF9 HR9 HM9
      have p0 : w9.cell? ⟨w3.heap.size, 0, none⟩ = some (.int .i64 x.f0) := by rw [hw9]; go_simp
      have p1 : w9.cell? ⟨w3.heap.size, 1, none⟩ = some (.string x.f1) := by rw [hw9]; go_simp
      have p2 : w9.cell? ⟨w3.heap.size, 2, none⟩ = some (.slice A8 ys.length c8) := by rw [hw9]; go_simp
      have p3 : w9.cell? ⟨w3.heap.size, 3, none⟩ = some (.int .i64 x.f3) := by rw [hw9]; go_simp
      have p4 : w9.cell? ⟨w3.heap.size, 4, none⟩ = some (.int .i64 x.f4) := by rw [hw9]; go_simp
      have pg := HF9.out.c0
      clear hw9 i0 i1 i2 i3 i4 hfz a70 a72
      obtain ⟨D, hown, hsz, hsays⟩ := HF9.out.map
      have HSY := Lib.hid hsays
      have HSZ := Lib.hid hsz
      have HOW := Lib.hid hown
      clear hsays hsz
      go_still_tail 6, (by kernel_rfl)
      go_upto_region 25 with (at_mapUpdate; refine wpList_mapUpdate_own _ rfl _ _ _ 54 rfl 9 33 key9 Tryd.underlying54 _ b s7.cnt D rfl hown (by have := HF9.out.cntB; unfold maxLen; omega) _ (.agg #[.int .i64 x.f0, .string x.f1, .slice A8 ys.length c8, .int .i64 x.f3, .int .i64 x.f4]) _ rfl rfl (Go.WideMaps.keyOf_string_mk Tryd.underlying9 (by unfold maxLen; omega)) _ [] rfl ?_; intro w10 hown10 hgr10)
      have hle : base ≤ w7.heap.size := by have := HF9.out.gb; have := H7H.out.glt; omega
      have hyes : (s7.M x.f1).isSome = true := by rw [HCS.out.1, HXM.out]; rfl
      obtain ⟨hF, hM10⟩ := HF9.out.putNode HOW.out HSZ.out HSY.out (⟨x.f0, x.f1, ys, x.f3, x.f4⟩ : Nd) _ hown10 hgr10 rfl (kN_mkM w9 base _ (⟨x.f0, x.f1, ys, x.f3, x.f4⟩ : Nd) (Kd.R_mono (Kd.R_lower HR9.out hle) (fun _ _ => trivial))) s.cnt (by rw [hyes, HCS.out.2.1]; rfl) HW.out.cntB
      rw [HCS.out.1] at hF
      have HF := Lib.hid hF
      have HM10 := Lib.hid (HM9.out.then_ hM10 (S := ownS g b lv) (fun i _ e => .inr (.inl e)))
      have HAT2 := Lib.hid (show lv7.ownBlock = lv.ownBlock ∨ ∃ q, lv7.ownBlock = some q ∧ w.heap.size ≤ q by
        have := HB4.out.size
        have := HB6.out.size
        rcases HAT.out with e | ⟨q, e, hq⟩
        · exact .inl e
        · exact .inr ⟨q, e, by omega⟩)
      have q5 := HF.out.c5
      have qf := HF.out.free 5
      dsimp only at q5
      rw [HCS.out.2.2] at q5
      have hrm := HW.out.room
      have hwr2 : wrap64 (s.room - (xs.length : Int)) = s.room - (xs.length : Int) := by unfold wrap64; omega
      clear hF hM10 hown10 hgr10 hown p0 p1 p2 p3 p4 pg HAT hyes hwr hk1b hk3b hb1
      first
        | (have HZ := Lib.hid (HF.out.put (s' := { s7 with M := putM s.M ⟨x.f0, x.f1, ys, x.f3, x.f4⟩, cnt := s.cnt, room := s.room - xs.length }) 5 (.int .i64 (s.room - xs.length)) rfl rfl rfl rfl HF.out.due (by show -1 ≤ s.room - (xs.length : Int) ∧ s.room - (xs.length : Int) ≤ 9223372036854775807; omega))
           go_wp2
           go_ret
           rw [HEY.out, if_pos (show 0 ≤ s.room by omega)]
           exact ⟨lv7, rfl, HZ.out, HM10.out.then_ (Mod.of_setCell (S := ownS g b lv) _ ⟨g, 5, none⟩ _ (.inl rfl)) (fun i _ e => e), HAT2.out⟩)
        | (have HZ := Lib.hid (show FsAt w10 base g b lv7 { s7 with M := putM s.M ⟨x.f0, x.f1, ys, x.f3, x.f4⟩, cnt := s.cnt, room := s.room } from HCS.out.2.2 ▸ HF.out)
           go_wp2
           go_ret
           rw [HEY.out, if_neg (show ¬ 0 ≤ s.room by omega)]
           exact ⟨lv7, rfl, HZ.out, HM10.out, HAT2.out⟩)
end Go.Proofs.YtageofdcloneoaaDoor.Fs
