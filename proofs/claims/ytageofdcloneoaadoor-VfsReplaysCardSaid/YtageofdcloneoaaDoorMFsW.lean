/- FsW, FsD, FsE, FsA, FsB put together. -/
import Derived.Test.YtageofdcloneoaaDoorMFsP
import Derived.Maps.RangeWalk
import Derived.Test.YtageofdcloneoaaDoorMFsM
import Derived.Test.YtageofdcloneoaaDoorMVfsP
set_option linter.unusedVariables false
set_option linter.unusedSimpArgs false
namespace Go.Proofs.YtageofdcloneoaaDoor.Fs
open Go.RowKit Go.BigFrame Go.Maps Go.Proofs.YtageofdcloneoaaDoor.Reg Go.Proofs.YtageofdcloneoaaDoor.Rout Go.Proofs.YtageofdcloneoaaDoor.Node Go.Proofs.YtageofdcloneoaaDoor.Tree Go.Proofs.YtageofdcloneoaaDoor.Vfs Go.Proofs.YtageofdcloneoaaDoorW.PrintWords Go.Proofs.YtageofdcloneoaaDoorW.PrintLast Go.Proofs.YtageofdcloneoaaDoorW.PrintMore
theorem key_inv {key : Value} {kl : Lit} (h : keyOf Tryd.prog 9 key = some kl) : ∃ s : ByteArray, key = .string s ∧ kl = .string s.data.toList ∧ s.size ≤ maxLen := by
  cases key <;> simp [keyOf, Tryd.underlying9, mapKey] at h
  exact ⟨_, rfl, h.2.symm, h.1⟩
theorem raw_inv (v : Value) (y : DataW Value × List MemPlace) (h : rawR v = some y) : y = (.held v, []) := by
  unfold rawR at h; injection h with h; exact h.symm
theorem same_self (a : ByteArray) : (Lit.string a.data.toList).sameKey (.string a.data.toList) = true := WideAt.sameKey_self (by trivial)
theorem same_ne {a b : ByteArray} (h : a ≠ b) : (Lit.string a.data.toList).sameKey (.string b.data.toList) = false := Maps.sameKey_ne (fun e => h (ba_ext (by injection e)))
theorem belowB_is (p a : ByteArray) : Lib.hasPrefix p.data.toList (a ++ slash).data.toList = belowB a p := rfl
theorem prefixOf_calls (p a : ByteArray) (w : World) : Calls Tryd.prog 31 #[.string p, .string (a ++ slash)] w fun e w' => e = .returned (.bool (belowB a p)) ∧ w = w' :=
  (Tryd.strings_HasPrefix p (a ++ slash) w).mono fun e w' h => ⟨by rw [h.1, belowB_is], h.2.symm⟩
theorem prefixLit_calls (p a : ByteArray) (w : World) : Calls Tryd.prog 31 #[.string p, .string (a ++ ⟨#[47]⟩)] w fun e w' => e = .returned (.bool (belowB a p)) ∧ w = w' := by
  have h := prefixOf_calls p a w
  unfold slash at h
  exact h
/-- What within tells: the paths, each once. -/
def Inside (M : NMap) (path : ByteArray) (ss : List ByteArray) : Prop := ss.Nodup ∧ ∀ q, q ∈ ss ↔ ((M q).isSome = true ∧ inB path q)
def WithinPost (M : NMap) (path : ByteArray) (w : World) (e : Ending) (w' : World) : Prop :=
  ∃ v ss, e = .returned v ∧ Kd.string.R 9 w' w.heap.size (fun _ => True) v ss ∧ Inside M path ss ∧ ss.length ≤ 65536 ∧ Below w.heap.size w w'
/-- A loop over the map's keys, under way: what has been found. -/
structure Found (w wr : World) (b n : Nat) (D : DataW Value) (path : ByteArray) (left : Lit → Bool) (cnt : Nat) (v : Value) (ss : List ByteArray) : Prop where
  rg : wr.ranges Tryd.prog 9 rawR b w.heap.size n D left cnt
  row : Kd.string.R 9 wr w.heap.size (fun _ => True) v ss
  nd : ss.Nodup
  mem : ∀ q : ByteArray, q ∈ ss ↔ (Maps.has D (.string q.data.toList) = true ∧ left (.string q.data.toList) = false ∧ inB path q)
  cnt : ss.length + cnt ≤ 65536
  below : Below w.heap.size w wr
/-- A round: path x has come. -/
structure NextAt (w wr w2 : World) (b n : Nat) (D : DataW Value) (path : ByteArray) (left : Lit → Bool) (cnt cnt2 : Nat) (v : Value) (ss : List ByteArray) (x : ByteArray) : Prop where
  old : Found w wr b n D path left cnt v ss
  rg : w2.ranges Tryd.prog 9 rawR b w.heap.size n D (fun z => left z && !z.sameKey (.string x.data.toList)) cnt2
  lt : cnt2 < cnt
  gr : wr.grownBy w2 (some w.heap.size)
  has : Maps.has D (.string x.data.toList) = true
  lk : left (.string x.data.toList) = true
section
variable {w wr w2 : World} {b n : Nat} {D : DataW Value} {path : ByteArray} {left : Lit → Bool} {cnt cnt2 : Nat} {v : Value} {ss : List ByteArray} {x : ByteArray}
theorem iter_at {r : Nat} (h : wr.ranges Tryd.prog 9 rawR b r n D left cnt) : ∀ cells q, wr.heap[r]? ≠ some (.cells cells q (0, 0)) := by
  obtain ⟨es, clock, since, seen, c0, _, _, _, _, hr, _⟩ := h
  intro cells q e
  rw [hr] at e; cases e
theorem NextAt.row (h : NextAt w wr w2 b n D path left cnt cnt2 v ss x) : Kd.string.R 9 w2 w.heap.size (fun _ => True) v ss :=
  R_mod h.old.row (Mod.of_grown (S := fun k => k = w.heap.size) h.gr (fun i e => by injection e with e; exact e.symm)) (fun i hi q cells hc => by subst hi; exact absurd hc (iter_at h.old.rg cells q))
theorem NextAt.below (h : NextAt w wr w2 b n D path left cnt cnt2 v ss x) : Below w.heap.size w w2 := h.old.below.grown h.gr h.old.below.size (fun k e => by injection e with e; omega)
theorem NextAt.len (h : NextAt w wr w2 b n D path left cnt cnt2 v ss x) : ss.length + 1 ≤ 65536 := by have := h.old.cnt; have := h.lt; omega
theorem NextAt.skip (h : NextAt w wr w2 b n D path left cnt cnt2 v ss x) (hx : ¬ inB path x) : Found w w2 b n D path (fun z => left z && !z.sameKey (.string x.data.toList)) cnt2 v ss := by
  refine ⟨h.rg, h.row, h.old.nd, fun q => ?_, by have := h.old.cnt; have := h.lt; omega, h.below⟩
  rw [h.old.mem q]
  by_cases hq : q = x
  · subst hq
    exact ⟨fun k => absurd k.2.2 hx, fun k => absurd k.2.2 hx⟩
  · rw [same_ne hq]; simp
theorem NextAt.take (h : NextAt w wr w2 b n D path left cnt cnt2 v ss x) {v3 : Value} {w3 : World} (hR : Kd.string.R 9 w3 w.heap.size (fun _ => True) v3 (ss ++ [x])) (hb : Below w.heap.size w w3) (hg : w2.grownBy w3 v.ownBlock) (hx : inB path x) (hl : ss.length + 1 ≤ 65536) : Found w w3 b n D path (fun z => left z && !z.sameKey (.string x.data.toList)) cnt2 v3 (ss ++ [x]) := by
  have hnot : x ∉ ss := fun k => by have := ((h.old.mem x).1 k).2.1; rw [h.lk] at this; cases this
  have hown := h.rg.owns
  refine ⟨h.rg.kept hg (fun e => ?_) (fun e => ?_), hR, ?_, fun q => ?_, by rw [List.length_append, List.length_singleton]; have := h.old.cnt; have := h.lt; omega, hb⟩
  · obtain ⟨_, inner, ho, _⟩ := h.row
    obtain ⟨cells, hc⟩ := own_typed ho b e.symm
    obtain ⟨es, clock, h1, _⟩ := hown
    rw [hc] at h1; cases h1
  · obtain ⟨_, inner, ho, _⟩ := h.row
    obtain ⟨cells, hc⟩ := own_typed ho w.heap.size e.symm
    exact iter_at h.rg cells _ hc
  · exact List.nodup_append.2 ⟨h.old.nd, by simp, fun a ha c hc e => by simp at hc; subst hc; subst e; exact hnot ha⟩
  · rw [List.mem_append, List.mem_singleton, h.old.mem q]
    by_cases hq : q = x
    · subst hq
      rw [same_self]
      simp [h.has, hx]
    · rw [same_ne hq]; simp [hq]
end
set_option maxRecDepth 100000 in
set_option maxHeartbeats 4000000 in
theorem within_calls (base g b : Nat) (lv : Value) (s : St) (path : ByteArray) (w : World) (h : FsAt w base g b lv s) (hp : path.size ≤ 140737488351232) :
    Calls Tryd.prog 32 #[.pointer (some ⟨g, 0, none⟩), .string path] w (WithinPost s.M path w) := by
  obtain ⟨D, hown, hsz, hsays⟩ := h.map
  have c0 := h.c0
  have hcb := h.cntB
  have HH := Lib.hid h
  have hhas : ∀ q : ByteArray, Maps.has D (.string q.data.toList) = (s.M q).isSome := fun q => by
    cases hq : s.M q with
    | none => exact (hsays q).1 hq
    | some x => exact ((hsays q).2 x hq).1
  have HAS := Lib.hid hhas
  clear h hsays hhas
  go_enter Tryd.func32, Tryd.ntmps32
  go_wp2_with (at_range; refine wpList_range_own _ rfl _ 54 rfl 9 33 key9 Tryd.underlying54 rawR b s.cnt D rfl hown ?_; intro w1 hrg1 hg1 hs1)
  go_frame
  have HF1 := Lib.hid (show Found w w1 b s.cnt D path (Maps.has D) (Maps.size D) (.slice none 0 0) [] from ⟨hrg1, Kd.R_nil _ _ _ _ _, List.nodup_nil, fun q => ⟨fun h => by simp at h, fun ⟨h1, h2, _⟩ => by rw [h1] at h2; cases h2⟩, by simp; omega, ⟨hg1.os, hg1.tape, hg1.output, hg1.size, fun i hi => hg1.block i hi (by simp)⟩⟩)
  clear hrg1 hg1 hs1 hown
  go_loopw [5, 6] (fun v _ wr => ∃ left cnt ss, Hid (Found w wr b s.cnt D path left cnt v ss) ∧ ∃ A c, v = .slice A ss.length c) (fun _ _ wr => wr.rangeLeft b w.heap.size)
  case atStart => exact ⟨_, _, _, HF1, none, 0, rfl⟩
  case round =>
    obtain ⟨left, cnt, ss, hF, A, c, rfl⟩ := hrel
    clear HF1
    go_wp2_with (at_next; refine wpList_next_ranges _ rfl _ rfl 9 key9 rawR Value.string (fun v : Value => v) (fun key kl hk => by obtain ⟨s, rfl, _⟩ := key_inv hk; exact ⟨s, rfl⟩) (fun v y _ => ⟨v, rfl⟩) b w.heap.size s.cnt D left cnt rfl hF.out.rg ?_ ?_)
    · intro hc0 hl0
      have HR := Lib.hid (show WithinPost s.M path w (.returned (.slice A ss.length c)) wr from ⟨_, ss, rfl, hF.out.row, ⟨hF.out.nd, fun q => by rw [hF.out.mem q, HAS.out q, hl0]; simp⟩, by have := hF.out.cnt; omega, hF.out.below⟩)
      go_wp2
      go_ret
      exact HR.out
    · intro x cv kl y1 y2 w2 cnt2 hkey hlk hy hat hrg2 hlt2 hg2 hs2 hen
      obtain ⟨x', ex, rfl, hxm⟩ := key_inv hkey
      obtain rfl : x = x' := by injection ex
      have HFX := Lib.hid (show NextAt w wr w2 b s.cnt D path left cnt cnt2 (.slice A ss.length c) ss x from ⟨hF.out, hrg2, hlt2, hg2, Maps.has_true_of_atKey hat, hlk⟩)
      clear ex hkey hlk hat hrg2 hlt2 hg2 hs2
      have HPX := Lib.hid (fun W => prefixLit_calls x path W)
      by_cases hx : x = path
      · have hx1 : (x.toList == path.toList) = true := by rw [hx]; exact beq_self_eq_true _
        have HX := Lib.hid hx
        clear hx
        go_wp2_with (at_builtin; refine Kd.R_append Kd.string (w0 := w) w.heap.size rfl (.tmp 25) (.tmp 27) 71 9 (.string ⟨#[]⟩) 16 rfl Tryd.underlying71 infoS rfl (show 0 < 1 by decide) (by omega) (.slice A ss.length c) ss x [.string x] (fun _ => True) (fun _ => False) rfl rfl rfl (fun _ h => h.elim) (fun _ _ => trivial) HFX.out.row HFX.out.below HFX.out.below.size (by have := HFX.out.len; omega) ?_; intro v3 w3 hR3 hb3 hg3 hat3)
        have HF3 := Lib.hid (HFX.out.take hR3 hb3 hg3 (.inl HX.out) (by have := HFX.out.len; omega))
        have hlt := HFX.out.lt
        obtain ⟨ss3, hss3⟩ : ∃ l, ss ++ [x] = l := ⟨_, rfl⟩
        rw [hss3] at HF3 hR3
        obtain ⟨A3, c3, rfl⟩ := Kd.R_slice hR3
        clear hR3 hb3 hg3 hat3 hss3
        go_wp2
        go_roundw
        case rel => exact ⟨_, _, ss3, HF3, A3, c3, rfl⟩
        case measure => rw [HF3.out.rg.left_eq, hF.out.rg.left_eq]; exact hlt
      have hx1 : (x.toList == path.toList) = false := beq_eq_false_iff_ne.mpr (fun e => hx (ba_ext (by rw [← toList_data, ← toList_data]; exact e)))
      cases hbl : belowB path x
      · rw [hbl] at HPX
        have HF3 := Lib.hid (HFX.out.skip (fun h => h.elim hx (fun e => by rw [hbl] at e; cases e)))
        have hlt := HFX.out.lt
        clear hbl
        go_wp2_with (go_at_call 31; refine (HPX.out _).mono ?_; rintro e w' ⟨rfl, rfl⟩)
        go_roundw
        case rel => exact ⟨_, _, ss, HF3, A, c, rfl⟩
        case measure => rw [HF3.out.rg.left_eq, hF.out.rg.left_eq]; exact hlt
      · rw [hbl] at HPX
        have HBL := Lib.hid hbl
        clear hbl
        go_wp2_with (first | (go_at_call 31; refine (HPX.out _).mono ?_; rintro e w' ⟨rfl, rfl⟩) | (at_builtin; refine Kd.R_append Kd.string (w0 := w) w.heap.size rfl (.tmp 25) (.tmp 27) 71 9 (.string ⟨#[]⟩) 16 rfl Tryd.underlying71 infoS rfl (show 0 < 1 by decide) (by omega) (.slice A ss.length c) ss x [.string x] (fun _ => True) (fun _ => False) rfl rfl rfl (fun _ h => h.elim) (fun _ _ => trivial) HFX.out.row HFX.out.below HFX.out.below.size (by have := HFX.out.len; omega) ?_; intro v3 w3 hR3 hb3 hg3 hat3))
        have HF3 := Lib.hid (HFX.out.take hR3 hb3 hg3 (.inr HBL.out) (by have := HFX.out.len; omega))
        have hlt := HFX.out.lt
        obtain ⟨ss3, hss3⟩ : ∃ l, ss ++ [x] = l := ⟨_, rfl⟩
        rw [hss3] at HF3 hR3
        obtain ⟨A3, c3, rfl⟩ := Kd.R_slice hR3
        clear hR3 hb3 hg3 hat3 hss3
        go_wp2
        go_roundw
        case rel => exact ⟨_, _, ss3, HF3, A3, c3, rfl⟩
        case measure => rw [HF3.out.rg.left_eq, hF.out.rg.left_eq]; exact hlt
end Go.Proofs.YtageofdcloneoaaDoor.Fs
set_option linter.unusedVariables false
set_option linter.unusedSimpArgs false
namespace Go.Proofs.YtageofdcloneoaaDoor.Fs
open Go.RowKit Go.BigFrame Go.Maps Go.Proofs.YtageofdcloneoaaDoor.Reg Go.Proofs.YtageofdcloneoaaDoor.Rout Go.Proofs.YtageofdcloneoaaDoor.Node Go.Proofs.YtageofdcloneoaaDoor.Tree Go.Proofs.YtageofdcloneoaaDoor.Vfs Go.Proofs.YtageofdcloneoaaDoorW.PrintWords Go.Proofs.YtageofdcloneoaaDoorW.PrintLast Go.Proofs.YtageofdcloneoaaDoorW.PrintMore
attribute [local go_sem ↓] Go.wp_at_zero Go.wp_at_succ
theorem below_size {a q : ByteArray} (h : belowB a q = true) : a.size + 1 ≤ q.size := by
  have h1 : (a ++ slash).data.toList <+: q.data.toList := List.isPrefixOf_iff_prefix.1 h
  have h2 := h1.length_le
  rw [size_data, size_data, ByteArray.size_append] at h2
  exact h2
theorem below_irr (a : ByteArray) : belowB a a = false := by
  cases h : belowB a a
  · rfl
  · have := below_size h; omega
/-- More than one path within: something lies below. -/
theorem inside_more {M : NMap} {p : ByteArray} {ss : List ByteArray} (h : Inside M p ss) (hp : (M p).isSome = true) : 1 < ss.length ↔ ∃ q, (M q).isSome = true ∧ belowB p q = true := by
  obtain ⟨hn, hm⟩ := h
  have hps : p ∈ ss := (hm p).2 ⟨hp, .inl rfl⟩
  constructor
  · intro hl
    by_cases hall : ∀ q ∈ ss, q = p
    · match ss, hl with
      | a :: c :: r, _ =>
        have e1 := hall a (by simp)
        have e2 := hall c (by simp)
        rw [e1, e2] at hn
        simp at hn
    · simp only [Classical.not_forall] at hall
      obtain ⟨q, hq, hne⟩ := hall
      obtain ⟨h1, h2⟩ := (hm q).1 hq
      rcases h2 with h2 | h2
      · exact absurd h2 hne
      · exact ⟨q, h1, h2⟩
  · rintro ⟨q, h1, h2⟩
    have hq : q ∈ ss := (hm q).2 ⟨h1, .inr h2⟩
    have hne : q ≠ p := by rintro rfl; rw [below_irr] at h2; cases h2
    match ss, hps, hq with
    | [a], hps, hq =>
      simp at hps hq
      exact absurd (hq.trans hps.symm) hne
    | a :: c :: r, _, _ => simp
set_option maxRecDepth 100000 in
set_option maxHeartbeats 8000000 in
open Classical in
theorem remove_calls (base g b : Nat) (lv : Value) (s : St) (path : ByteArray) (w : World) (h : FsAt w base g b lv s) (hps : path.size ≤ 140737488351232) (hF : Fine s.M) (hlog : (s.log.length + 1) * 64 ≤ 140737488355328) :
    Calls Tryd.prog 13 #[.pointer (some ⟨g, 0, none⟩), .string path] w (OpPost base g b lv w (s.exec (removeP s.M s.cnt s.room path))) := by
  have HW := Lib.hid h
  have HH0 := Lib.hid (fun W (hb : Below w.heap.size w W) => (h.below hb : FsAt W base g b lv s))
  have HN := Lib.hid (none_calls g b w h.c0)
  have HPO := Lib.hid (fun (W : World) (hb : Below w.heap.size w W) (e : Int) (he : removeP s.M s.cnt s.room path = .inl e) => show OpPost base g b lv w (s.exec (removeP s.M s.cnt s.room path)) (.returned (.int .i64 e)) W by
    rw [he]
    exact ⟨lv, rfl, HH0.out W hb, Mod.of_below hb, .inl rfl⟩)
  have hps2 := realF_size s.M hF path (by omega)
  have hpt : (realT s.M path).1.size ≤ 140737488351232 := by
    unfold realT
    split
    · exact (by decide : emp.size ≤ 140737488351232)
    split
    · exact hps2
    · exact (by decide : emp.size ≤ 140737488351232)
  have HRL := Lib.hid (show Calls Tryd.prog 28 #[.pointer (some ⟨g, 0, none⟩), .string path] w fun e w' => ∃ (k0 : Int) (t1 : ByteArray) (A : Option Addr) (n c : Nat) (m tm : Int), e = .returned (.tuple #[.string (realT s.M path).1, .agg #[.int .i64 k0, .string t1, .slice A n c, .int .i64 m, .int .i64 tm], .bool (realT s.M path).2.1.isSome, .int .i64 (realT s.M path).2.2]) ∧ Hid (Below w.heap.size w w') from by
    refine (realM_calls g base b s.cnt _ s.M path w h.c0 h.mapAt hF hps).mono fun e w' ⟨V, he, hV, hb2⟩ => ?_
    obtain ⟨k0, t1, A, n, c, m, tm, rfl⟩ := hV.form
    exact ⟨k0, t1, A, n, c, m, tm, he, Lib.hid hb2⟩)
  have HTM := Lib.hid (realT_M s.M path)
  have HMP := Lib.hid (show removeP s.M s.cnt s.room path = if (realT s.M path).2.2 ≠ 0 then .inl (realT s.M path).2.2 else if (realT s.M path).2.1.isSome = false then .inl 31 else
    if ∃ q, (s.M q).isSome = true ∧ belowB (realT s.M path).1 q = true then .inl 32 else
    .inr (⟨6, (realT s.M path).1, emp, []⟩, delM s.M (realT s.M path).1, s.cnt - 1, s.room) from rfl)
  clear h hps2
  generalize realT s.M path = T at *
  obtain ⟨p, o, er⟩ := T
  dsimp only at HRL HMP hpt HTM
  go_enter Tryd.func13, Tryd.ntmps13
  go_upto_region 4 with (first | (go_at_call 26; refine HN.out.mono ?_; rintro e w' ⟨rfl, rfl⟩) | (go_at_call 28; refine HRL.out.mono ?_; rintro e w3 ⟨k0, t1, A4, n4, c4, m4, tm4, rfl, HB3⟩))
  clear HN HRL
  by_cases her : er = 0
  case neg =>
    have her1 : (er != 0) = true := by simpa using her
    have HR := Lib.hid (fun W hb => HPO.out W hb er (by rw [HMP.out, if_pos her]))
    clear her
    go_wp2
    go_ret
    exact HR.out _ (balloc HB3.out _)
  subst her
  cases o with
  | none =>
    have HR := Lib.hid (fun W hb => HPO.out W hb 31 (by rw [HMP.out]; rfl))
    go_wp2
    go_ret
    exact HR.out _ (balloc HB3.out _)
  | some x =>
    have HXM := Lib.hid (show s.M p = some x from (HTM.out rfl).symm)
    have HMQ := Lib.hid (show removeP s.M s.cnt s.room path = if ∃ q, (s.M q).isSome = true ∧ belowB p q = true then .inl 32 else
      .inr (⟨6, p, emp, []⟩, delM s.M p, s.cnt - 1, s.room) by rw [HMP.out, if_neg (by simp), if_neg (by simp)])
    clear HMP HTM
    refine wp_world ?_
    intro w4 hw4
    have HB4 := Lib.hid (show Below w.heap.size w w4 by rw [hw4]; exact balloc HB3.out _)
    clear hw4
    have HWI := Lib.hid (show Calls Tryd.prog 32 #[.pointer (some ⟨g, 0, none⟩), .string p] w4 fun e w' => ∃ A5 n5 c5, e = .returned (.slice A5 n5 c5) ∧ Hid (1 < n5 ↔ ∃ q, (s.M q).isSome = true ∧ belowB p q = true) ∧ Hid (n5 ≤ 65536) ∧ Hid (Below w.heap.size w w') from by
      refine (within_calls base g b lv s p w4 (HH0.out _ HB4.out) hpt).mono fun e w' ⟨v, ss, he, hR, hI, hl, hb⟩ => ?_
      obtain ⟨A5, c5, rfl, _, _⟩ := Kd.R_reads hR
      exact ⟨A5, _, c5, he, Lib.hid (inside_more hI (by rw [HXM.out]; rfl)), Lib.hid hl, Lib.hid (bgo HB4.out hb)⟩)
    by_cases hlow : ∃ q, (s.M q).isSome = true ∧ belowB p q = true
    · have HR := Lib.hid (fun W hb => HPO.out W hb 32 (by rw [HMQ.out, if_pos hlow]))
      have HWJ := Lib.hid (HWI.out.mono fun e w' ⟨A5, n5, c5, he, hi, _, hb⟩ => (⟨A5, n5, c5, he, (by have := hi.out.2 hlow; omega), hb⟩ : ∃ (A5 : Option Addr) (n5 c5 : Nat), e = Ending.returned (.slice A5 n5 c5) ∧ (1 : Int) < (n5 : Int) ∧ Hid (Below w.heap.size w w')))
      clear hlow HMQ HWI
      go_wp2_with (go_at_call 32; refine HWJ.out.mono ?_; rintro e w5 ⟨A5, n5, c5, rfl, hgt, HB5⟩)
      go_ret
      exact HR.out _ HB5.out
    have HWJ := Lib.hid (HWI.out.mono fun e w' ⟨A5, n5, c5, he, hi, _, hb⟩ => (⟨A5, n5, c5, he, (fun hgt => hlow (hi.out.1 (by omega))), hb⟩ : ∃ (A5 : Option Addr) (n5 c5 : Nat), e = Ending.returned (.slice A5 n5 c5) ∧ ¬ (1 : Int) < (n5 : Int) ∧ Hid (Below w.heap.size w w')))
    have hgw : base ≤ w.heap.size := by have := HW.out.gb; have := HW.out.glt; omega
    have HCH := Lib.hid (fun W (hb : Below w.heap.size w W) => show Calls Tryd.prog 29 #[.pointer (some ⟨g, 0, none⟩), .agg #[.int .i64 6, .string p, .string ⟨#[]⟩, .slice none 0 0]] W (OpPost base g b lv W (s.change ⟨6, p, emp, []⟩)) from change_calls base w.heap.size g b lv (.slice none 0 0) (fun _ => True) s ⟨6, p, emp, []⟩ W (HH0.out W hb) hgw (Kd.R_nil _ _ _ _ _) hlog)
    have HEX := Lib.hid (show s.exec (removeP s.M s.cnt s.room path) = if (s.change ⟨6, p, emp, []⟩).2 = 0 then ({ (s.change ⟨6, p, emp, []⟩).1 with M := delM s.M p, cnt := s.cnt - 1, room := s.room }, 0) else s.change ⟨6, p, emp, []⟩ by rw [HMQ.out, if_neg hlow]; rfl)
    have HCS := Lib.hid (change_same s ⟨6, p, emp, []⟩)
    clear HMQ hlow HWI hgw
    generalize s.change ⟨6, p, emp, []⟩ = SC at *
    obtain ⟨s7, e7⟩ := SC
    dsimp only at HCH HEX HCS
    go_upto_region 11 with (first | (go_at_call 32; refine HWJ.out.mono ?_; rintro e w5 ⟨A5, n5, c5, rfl, hgt, HB5⟩) | (go_at_call 29; refine (HCH.out _ HB5.out).mono ?_; rintro e w7 ⟨lv7, rfl, H7, hm7, hat7⟩))
    have HM7 := Lib.hid ((Mod.of_below (S := ownS g b lv) HB5.out).then_ hm7 (fun i _ e => e))
    have HAT2 := Lib.hid (show lv7.ownBlock = lv.ownBlock ∨ ∃ q, lv7.ownBlock = some q ∧ w.heap.size ≤ q by
      have := HB5.out.size
      rcases hat7 with e | ⟨q, e, hq⟩
      · exact .inl e
      · exact .inr ⟨q, e, by omega⟩)
    by_cases he7 : e7 = 0
    case neg =>
      have he71 : (e7 != 0) = true := by simpa using he7
      have HEY := Lib.hid (HEX.out.trans (if_neg he7))
      clear he7 HEX
      go_wp2
      go_ret
      rw [HEY.out]
      exact ⟨lv7, rfl, H7, HM7.out, HAT2.out⟩
    have HEY := Lib.hid (HEX.out.trans (if_pos he7))
    subst he7
    have HF7 := Lib.hid H7
    have pg := H7.c0
    obtain ⟨D, hown, hsz, hsays⟩ := H7.map
    have HSY := Lib.hid hsays
    have HSZ := Lib.hid hsz
    have HOW := Lib.hid hown
    clear hsays hsz H7 hm7 hat7
    go_upto_region 14 with (at_delete; refine wpList_delete_own _ rfl _ _ 54 9 rfl 33 key9 Tryd.underlying54 _ b s7.cnt D rfl hown _ _ rfl (Go.WideMaps.keyOf_string_mk Tryd.underlying9 (by unfold maxLen; omega)) ?_; intro w10 hown10 hgr10)
    have hc1 : 1 ≤ s.cnt := by
      have h1 := says_has HSY.out p
      rw [HCS.out.1, HXM.out] at h1
      have h2 := Maps.size_del (k := .string p.data.toList) (HOW.out.tidy key9)
      rw [h1, HSZ.out, HCS.out.2.1] at h2
      simp at h2
      omega
    obtain ⟨hF, hM10⟩ := HF7.out.delNode HOW.out HSZ.out HSY.out p hown10 hgr10.grown (s.cnt - 1) (by rw [HCS.out.1, HXM.out, HCS.out.2.1]; simp; omega)
    rw [HCS.out.1] at hF
    have HF := Lib.hid (show FsAt w10 base g b lv7 { s7 with M := delM s.M p, cnt := s.cnt - 1, room := s.room } from HCS.out.2.2 ▸ hF)
    have HM10 := Lib.hid (HM7.out.then_ hM10 (S := ownS g b lv) (fun i _ e => .inr (.inl e)))
    clear hF hM10 hown10 hgr10 hown pg
    go_wp2
    go_ret
    rw [HEY.out]
    exact ⟨lv7, rfl, HF.out, HM10.out, HAT2.out⟩
end Go.Proofs.YtageofdcloneoaaDoor.Fs
set_option linter.unusedVariables false
set_option linter.unusedSimpArgs false
namespace Go.Proofs.YtageofdcloneoaaDoor.Fs
open Go.RowKit Go.Maps Go.Proofs.YtageofdcloneoaaDoor.Rout Go.Proofs.YtageofdcloneoaaDoor.Node Go.Proofs.YtageofdcloneoaaDoor.Tree Go.Proofs.YtageofdcloneoaaDoor.Vfs Go.Proofs.YtageofdcloneoaaDoorW.PrintWords
/-- What lies above something is there. -/
def Up (M : NMap) : Prop := ∀ a q, (M q).isSome = true → belowB a q = true → (M a).isSome = true
def renN (x : Nd) (q : ByteArray) : Nd := ⟨x.f0, q, x.f2, x.f3, x.f4⟩
theorem in_list {a q : ByteArray} (h : inB a q) : ∃ r : List UInt8, q.data.toList = a.data.toList ++ r := by
  rcases h with rfl | h
  · exact ⟨[], by simp⟩
  · obtain ⟨r, hr⟩ := List.isPrefixOf_iff_prefix.1 (show List.isPrefixOf (a ++ slash).data.toList q.data.toList = true from h)
    refine ⟨slash.data.toList ++ r, ?_⟩
    rw [← hr, ByteArray.data_append, Array.toList_append, List.append_assoc]
theorem ext_list (q : ByteArray) (a : ByteArray) (r : List UInt8) (h : q.data.toList = a.data.toList ++ r) : (q.extract a.size q.size).data.toList = r := by
  rw [ByteArray.data_extract, Array.toList_extract, List.extract_eq_take_drop, h]
  have h1 : a.size = a.data.toList.length := (size_data a).symm
  have h2 : q.size = a.data.toList.length + r.length := by rw [← size_data q, h, List.length_append]
  rw [h1, h2, List.drop_left]
  rw [Nat.add_sub_cancel_left, List.take_length]
/-- The new path, letter by letter. -/
theorem turn_list (old p s : ByteArray) (r : List UInt8) (h : s.data.toList = old.data.toList ++ r) : (turnB old p s).data.toList = p.data.toList ++ r := by
  unfold turnB
  rw [ByteArray.data_append, Array.toList_append, ext_list s old r h]
theorem turn_in {old p s : ByteArray} (h : inB old s) : inB p (turnB old p s) := by
  rcases h with rfl | h
  · left
    apply ba_ext
    rw [turn_list s p s [] (by simp)]
    simp
  · right
    obtain ⟨r, hr⟩ := List.isPrefixOf_iff_prefix.1 (show List.isPrefixOf (old ++ slash).data.toList s.data.toList = true from h)
    have h1 : s.data.toList = old.data.toList ++ (slash.data.toList ++ r) := by rw [← hr, ByteArray.data_append, Array.toList_append, List.append_assoc]
    show List.isPrefixOf (p ++ slash).data.toList (turnB old p s).data.toList = true
    rw [List.isPrefixOf_iff_prefix, turn_list old p s _ h1, ByteArray.data_append, Array.toList_append]
    exact ⟨r, by rw [List.append_assoc]⟩
theorem turn_back {old p s : ByteArray} (h : inB old s) : turnB p old (turnB old p s) = s := by
  obtain ⟨r, hr⟩ := in_list h
  apply ba_ext
  rw [turn_list p old _ r (turn_list old p s r hr), hr]
theorem turn_inj {old p s t : ByteArray} (hs : inB old s) (ht : inB old t) (h : turnB old p s = turnB old p t) : s = t := by
  rw [← turn_back (p := p) hs, h, turn_back ht]
/-- Some of the paths are moved. -/
structure Moved (M : NMap) (old p : ByteArray) (done : List ByteArray) (N : NMap) : Prop where
  new : ∀ s ∈ done, ∀ x, M s = some x → N (turnB old p s) = some (renN x (turnB old p s))
  gone : ∀ s ∈ done, N s = none
  rest : ∀ q, q ∉ done → (∀ s ∈ done, q ≠ turnB old p s) → N q = M q
section
variable {M N : NMap} {old p : ByteArray} {ss done : List ByteArray}
/-- Nothing of what is moved lies where it goes. -/
theorem far_of (hU : Up M) (hp : M p = none) {q : ByteArray} (hq : (M q).isSome = true) : ¬ inB p q := by
  intro h
  rcases h with rfl | h
  · rw [hp] at hq; cases hq
  · have := hU p q hq h; rw [hp] at this; cases this
theorem Moved.start : Moved M old p [] M := ⟨fun _ h => (List.not_mem_nil h).elim, fun _ h => (List.not_mem_nil h).elim, fun _ _ _ => rfl⟩
theorem Moved.at_ (h : Moved M old p done N) (hI : Inside M old ss) (hU : Up M) (hp : M p = none) (hd : ∀ s ∈ done, s ∈ ss) {s : ByteArray} (hs : s ∈ ss) (hn : s ∉ done) : N s = M s :=
  h.rest s hn (fun t ht e => far_of hU hp ((hI.2 s).1 hs).1 (by rw [e]; exact turn_in ((hI.2 t).1 (hd t ht)).2))
theorem Moved.free (h : Moved M old p done N) (hI : Inside M old ss) (hU : Up M) (hp : M p = none) (hd : ∀ s ∈ done, s ∈ ss) {s : ByteArray} (hs : s ∈ ss) (hn : s ∉ done) : N (turnB old p s) = none := by
  have hin := turn_in (p := p) ((hI.2 s).1 hs).2
  have hM : M (turnB old p s) = none := by
    cases hx : M (turnB old p s) with
    | none => rfl
    | some x => exact absurd hin (far_of hU hp (by rw [hx]; rfl))
  rw [h.rest _ (fun e => ?_) (fun t ht e => hn (by rw [turn_inj ((hI.2 s).1 hs).2 ((hI.2 t).1 (hd t ht)).2 e]; exact ht)), hM]
  have := ((hI.2 _).1 (hd _ e)).1
  rw [hM] at this
  cases this
theorem Moved.step (h : Moved M old p done N) (hI : Inside M old ss) (hU : Up M) (hp : M p = none) (hd : ∀ s ∈ done, s ∈ ss) {s : ByteArray} (hs : s ∈ ss) (hn : s ∉ done) {x : Nd} (hx : M s = some x) :
    Moved M old p (done ++ [s]) (putM (delM N s) (renN x (turnB old p s))) := by
  have hin := ((hI.2 s).1 hs).2
  have hne : ∀ t ∈ done ++ [s], t ≠ turnB old p s := fun t ht e => by
    have ht' : t ∈ ss := by
      rcases List.mem_append.1 ht with ht | ht
      · exact hd t ht
      · rw [List.mem_singleton.1 ht]; exact hs
    exact far_of hU hp ((hI.2 t).1 ht').1 (e ▸ turn_in hin)
  refine ⟨fun t ht y hy => ?_, fun t ht => ?_, fun q hq1 hq2 => ?_⟩
  · show (if turnB old p s = turnB old p t then some (renN x (turnB old p s)) else delM N s (turnB old p t)) = _
    by_cases e : t = s
    · subst e
      rw [if_pos rfl]
      rw [hx] at hy
      cases hy
      rfl
    · have htd : t ∈ done := by
        rcases List.mem_append.1 ht with ht | ht
        · exact ht
        · exact absurd (List.mem_singleton.1 ht) e
      have hit := ((hI.2 t).1 (hd t htd)).2
      rw [if_neg (fun e2 => e (turn_inj hit hin e2.symm))]
      show (if turnB old p t = s then none else N (turnB old p t)) = _
      rw [if_neg (fun (e2 : turnB old p t = s) => far_of hU hp ((hI.2 s).1 hs).1 (e2 ▸ turn_in hit))]
      exact h.new t htd y hy
  · show (if turnB old p s = t then some (renN x (turnB old p s)) else delM N s t) = _
    rw [if_neg (fun e => hne t ht e.symm)]
    show (if t = s then none else N t) = none
    by_cases e : t = s
    · rw [if_pos e]
    · rw [if_neg e]
      rcases List.mem_append.1 ht with ht | ht
      · exact h.gone t ht
      · exact absurd (List.mem_singleton.1 ht) e
  · show (if turnB old p s = q then some (renN x (turnB old p s)) else delM N s q) = _
    rw [if_neg (fun e => hq2 s (by simp) e.symm)]
    show (if q = s then none else N q) = _
    rw [if_neg (fun e => hq1 (by simp [e]))]
    exact h.rest q (fun e => hq1 (by simp [e])) (fun t ht => hq2 t (by simp [ht]))
open Classical in
theorem Moved.all (h : Moved M old p ss N) (hI : Inside M old ss) (hU : Up M) (hp : M p = none) : N = moveM M old p := by
  funext q
  unfold moveM
  by_cases h1 : inB p q ∧ (M (turnB p old q)).isSome = true
  · rw [if_pos h1]
    have hin := turn_in (p := old) h1.1
    have hq : turnB old p (turnB p old q) = q := turn_back h1.1
    obtain ⟨x, hx⟩ := Option.isSome_iff_exists.1 h1.2
    have h2 := h.new (turnB p old q) ((hI.2 _).2 ⟨h1.2, hin⟩) x hx
    rw [hq] at h2
    rw [h2, hx]
    rfl
  · rw [if_neg h1]
    have hne : ∀ s ∈ ss, q ≠ turnB old p s := fun s hs e => h1 (by
      have h3 := (hI.2 s).1 hs
      rw [e, turn_back h3.2]
      exact ⟨turn_in h3.2, h3.1⟩)
    by_cases h2 : inB old q
    · rw [if_pos h2]
      by_cases h3 : q ∈ ss
      · exact h.gone q h3
      · rw [h.rest q h3 hne]
        cases hx : M q with
        | none => rfl
        | some x => exact absurd ((hI.2 q).2 ⟨by rw [hx]; rfl, h2⟩) h3
    · rw [if_neg h2]
      exact h.rest q (fun h3 => h2 ((hI.2 q).1 h3).2) hne
end
end Go.Proofs.YtageofdcloneoaaDoor.Fs
set_option linter.unusedVariables false
set_option linter.unusedSimpArgs false
namespace Go.Proofs.YtageofdcloneoaaDoor.Fs
open Go.RowKit Go.Maps Go.Proofs.YtageofdcloneoaaDoor.Rout Go.Proofs.YtageofdcloneoaaDoor.Node Go.Proofs.YtageofdcloneoaaDoor.Tree Go.Proofs.YtageofdcloneoaaDoor.Vfs Go.Proofs.YtageofdcloneoaaDoorW.PrintWords
/-- A map of nodes that is a tree. -/
structure WF (M : NMap) : Prop where
  own : ∀ p x, M p = some x → x.f1 = p
  valid : ∀ p x, M p = some x → validB p = true
  may : ∀ p x, M p = some x → mayB x = true
  dir : ∀ p x, M p = some x → (parB p).2 = true → ∃ y, M (parB p).1 = some y ∧ y.f0 = 1
theorem wf_tree (l : List Nd) (T : IsTree l) : WF (mapL l) := by
  refine ⟨fun p x h => (mapL_f1 _ _ _ h).1, fun p x h => ?_, fun p x h => T.may x (mapL_f1 _ _ _ h).2, fun p x h hp => ?_⟩
  · rw [← (mapL_f1 _ _ _ h).1]; exact T.valid x (mapL_f1 _ _ _ h).2
  · obtain ⟨e, hm⟩ := mapL_f1 _ _ _ h
    rw [← e] at hp ⊢
    obtain ⟨y, hy, hy1, hy0⟩ := T.up x hm hp
    exact ⟨y, by rw [← hy1]; exact T.own y hy, hy0⟩
theorem wf_fine {M : NMap} (h : WF M) : Fine M := by
  refine ⟨fun p n hn h1 h2 => (may_link n (h.may p n hn) h1 h2).2, fun p x hx => by rw [h.own p x hx]; exact valid_size _ (h.valid p x hx), fun p x hx => ?_, fun p x hx => ?_⟩
  · by_cases h1 : x.f0 = 1
    · exact .inl h1
    by_cases h2 : x.f0 = 2
    · exact .inr (.inl h2)
    exact .inr (.inr (may_link x (h.may p x hx) h1 h2).1)
  · have h3 := h.may p x hx
    unfold mayB kindB at h3
    by_cases h1 : x.f0 = 1
    · rw [if_pos h1] at h3; simp at h3; rw [h3.2]; simp
    by_cases h2 : x.f0 = 2
    · rw [if_neg h1, if_pos h2] at h3; simp at h3; omega
    have := (may_link x (h.may p x hx) h1 h2).2
    omega
/-- A node is struck that has nothing below it. -/
theorem wf_del {M : NMap} (h : WF M) (p : ByteArray) (hp : ∀ q x, M q = some x → (parB q).2 = true → (parB q).1 ≠ p) : WF (delM M p) := by
  have hd : ∀ q x, delM M p q = some x → q ≠ p ∧ M q = some x := fun q x hq => by
    unfold delM at hq
    split at hq
    · cases hq
    · exact ⟨by assumption, hq⟩
  refine ⟨fun q x hq => h.own q x (hd q x hq).2, fun q x hq => h.valid q x (hd q x hq).2, fun q x hq => h.may q x (hd q x hq).2, fun q x hq hpar => ?_⟩
  obtain ⟨y, hy, hy0⟩ := h.dir q x (hd q x hq).2 hpar
  refine ⟨y, ?_, hy0⟩
  unfold delM
  rw [if_neg (hp q x (hd q x hq).2 hpar)]
  exact hy
/-- A node is put at a valid path whose folder is there; what was a folder stays one. -/
theorem wf_put {M : NMap} (h : WF M) (x : Nd) (hv : validB x.f1 = true) (hm : mayB x = true) (hd : (parB x.f1).2 = true → ∃ y, M (parB x.f1).1 = some y ∧ y.f0 = 1) (hk : ∀ y, M x.f1 = some y → y.f0 = 1 → x.f0 = 1) (hs : (parB x.f1).2 = true → (parB x.f1).1 ≠ x.f1) : WF (putM M x) := by
  have look : ∀ q y, M q = some y → y.f0 = 1 → ∃ z, putM M x q = some z ∧ z.f0 = 1 := fun q y hq h0 => by
    unfold putM
    by_cases e : x.f1 = q
    · rw [if_pos e]
      exact ⟨x, rfl, hk y (by rw [e]; exact hq) h0⟩
    · rw [if_neg e]
      exact ⟨y, hq, h0⟩
  have hd2 : ∀ q y, putM M x q = some y → (x.f1 = q ∧ x = y) ∨ M q = some y := fun q y hq => by
    unfold putM at hq
    split at hq
    · exact .inl ⟨by assumption, by injection hq⟩
    · exact .inr hq
  refine ⟨fun q y hq => ?_, fun q y hq => ?_, fun q y hq => ?_, fun q y hq hpar => ?_⟩
  · rcases hd2 q y hq with ⟨e, rfl⟩ | e
    · exact e
    · exact h.own q y e
  · rcases hd2 q y hq with ⟨e, rfl⟩ | e
    · rw [← e]; exact hv
    · exact h.valid q y e
  · rcases hd2 q y hq with ⟨e, rfl⟩ | e
    · exact hm
    · exact h.may q y e
  · rcases hd2 q y hq with ⟨e, rfl⟩ | e
    · rw [← e] at hpar ⊢
      obtain ⟨z, hz, hz0⟩ := hd hpar
      exact look _ z hz hz0
    · obtain ⟨z, hz, hz0⟩ := h.dir q y e hpar
      exact look _ z hz hz0
/-- What lies below something has it for its folder, or its folder lies below it. -/
theorem below_par {a q : ByteArray} (h : belowB a q = true) (hv : validB q = true) : (parB q).2 = true ∧ ((parB q).1 = a ∨ belowB a (parB q).1 = true) := by
  obtain ⟨r, hr⟩ := List.isPrefixOf_iff_prefix.1 (show List.isPrefixOf (a ++ slash).data.toList q.data.toList = true from h)
  have hq : q.data.toList = a.data.toList ++ 47 :: r := by rw [← hr, ByteArray.data_append, Array.toList_append, List.append_assoc]; rfl
  have hal : a.data.toList.length = a.size := size_data a
  have hsz : q.size = a.size + 1 + r.length := by rw [← size_data q, hq, List.length_append, hal, List.length_cons]; omega
  have hat : ((q.data[a.size]!).toNat : Int) = 47 := by
    have h1 : q.data.toList[a.size]? = some 47 := by rw [hq, List.getElem?_append_right (by omega), hal, Nat.sub_self]; rfl
    rw [Array.getElem?_toList] at h1
    rw [Array.getElem!_eq_getD, Array.getD_eq_getD_getElem?, h1]
    rfl
  rcases Lib.lastIdx_spec q 47 q.size with ⟨_, h2⟩ | ⟨i, hi, e, _, hlast⟩
  · exact absurd hat (h2 a.size (by omega))
  · have hai : a.size ≤ i := by
      rcases Nat.lt_or_ge i a.size with hlt | hge
      · exact absurd hat (hlast a.size hlt (by omega))
      · exact hge
    have he : Lib.lastIndexByte q 47 = i := e
    have hp : parB q = (q.extract 0 i, true) := by
      unfold parB
      rw [he, if_pos ⟨by omega, hv⟩, Int.toNat_natCast]
    rw [hp]
    refine ⟨rfl, ?_⟩
    have hl : (q.extract 0 i).data.toList = q.data.toList.take i := by
      rw [ByteArray.data_extract, Array.toList_extract, List.extract_eq_take_drop]
      simp
    by_cases h0 : i = a.size
    · left
      apply ba_ext
      rw [hl, hq, h0, ← hal, List.take_left]
    · right
      show List.isPrefixOf (a ++ slash).data.toList (q.extract 0 i).data.toList = true
      rw [List.isPrefixOf_iff_prefix, hl, ByteArray.data_append, Array.toList_append, hq]
      obtain ⟨m, hm⟩ : ∃ m, i = a.data.toList.length + (m + 1) := ⟨i - a.size - 1, by omega⟩
      refine ⟨r.take m, ?_⟩
      rw [hm, List.take_length_add_append, List.take_succ_cons, List.append_assoc]
      rfl
theorem wf_up {M : NMap} (h : WF M) : Up M := by
  have key : ∀ n : Nat, ∀ a q : ByteArray, q.size ≤ n → (M q).isSome = true → belowB a q = true → (M a).isSome = true := by
    intro n
    induction n with
    | zero => intro a q hn _ hb; have := below_size hb; omega
    | succ n ih =>
      intro a q hn hq hb
      obtain ⟨x, hx⟩ := Option.isSome_iff_exists.1 hq
      obtain ⟨h1, h2⟩ := below_par hb (h.valid q x hx)
      obtain ⟨y, hy, _⟩ := h.dir q x hx h1
      rcases h2 with h2 | h2
      · rw [← h2, hy]; rfl
      · have hlt : (parB q).1.size < q.size := by
          unfold parB at h1 ⊢
          split at h1
          · rename_i hc
            rw [if_pos hc]
            rcases last_cases q with e | ⟨i, hi, e⟩
            · rw [e] at hc; omega
            · rw [e]
              simp [ByteArray.size_extract]
              omega
          · cases h1
        exact ih a _ (by omega) (by rw [hy]; rfl) h2
  exact fun a q hq hb => key q.size a q (Nat.le_refl _) hq hb
/-- The root, or a folder. -/
def DirAt (M : NMap) (a : ByteArray) : Prop := a = emp ∨ ∃ x, M a = some x ∧ x.f0 = 1
theorem par_dir {M : NMap} (h : WF M) {a : ByteArray} (ha : DirAt M a) : DirAt M (parB a).1 := by
  by_cases hp : (parB a).2 = true
  · rcases ha with e | ⟨x, hx, _⟩
    · subst e
      left
      have := parB_size emp
      exact ba_ext (List.eq_nil_of_length_eq_zero (by rw [size_data]; have h0 : emp.size = 0 := rfl; omega))
    · right
      exact h.dir a x hx hp
  · left
    unfold parB at hp ⊢
    split
    · rename_i hc
      rw [if_pos hc] at hp
      exact absurd rfl hp
    · rfl
theorem wayN_dirs {M : NMap} (h : WF M) : ∀ (k : Nat) (a : ByteArray) (fl : Nat) (t : List ByteArray), DirAt M a → (wayN M k a fl t).2 = 0 → DirAt M (wayN M k a fl t).1
  | 0, _, _, _, _, h0 => absurd (show (34 : Int) = 0 from h0) (by decide)
  | _ + 1, a, _, [], ha, _ => ha
  | k + 1, a, fl, p :: r, ha, h0 => by
    rw [wayN_cons] at h0 ⊢
    unfold wayS at h0 ⊢
    by_cases h1 : p.data.toList = [] ∨ p.data.toList = [46]
    · rw [if_pos h1] at h0 ⊢; exact wayN_dirs h k _ _ _ ha h0
    rw [if_neg h1] at h0 ⊢
    by_cases h2 : p.data.toList = [46, 46]
    · rw [if_pos h2] at h0 ⊢; exact wayN_dirs h k _ _ _ (par_dir h ha) h0
    rw [if_neg h2] at h0 ⊢
    cases hm : M (underB a p) with
    | none => rw [hm] at h0; exact absurd (show (31 : Int) = 0 from h0) (by decide)
    | some n =>
      rw [hm] at h0
      dsimp only at h0 ⊢
      by_cases h3 : n.f0 = 2
      · rw [if_pos h3] at h0; exact absurd (show (33 : Int) = 0 from h0) (by decide)
      rw [if_neg h3] at h0 ⊢
      by_cases h4 : n.f0 = 1
      · rw [if_pos h4] at h0 ⊢
        exact wayN_dirs h k _ _ _ (.inr ⟨n, by rw [h.own _ n hm]; exact hm, h4⟩) h0
      rw [if_neg h4] at h0 ⊢
      by_cases h5 : 16 < fl + 1
      · rw [if_pos h5] at h0; exact absurd (show (34 : Int) = 0 from h0) (by decide)
      rw [if_neg h5] at h0 ⊢
      refine wayN_dirs h k _ _ _ ?_ h0
      split
      · exact .inl rfl
      · exact ha
/-- The folder of a name under a folder. -/
theorem under_par {f l : ByteArray} (hv : validB (underB f l) = true) (hl : pcs l = [l]) (hp : (parB (underB f l)).2 = true) : (parB (underB f l)).1 = f ∧ 0 < f.size := by
  rcases par_cut _ hv with ⟨h1, _⟩ | ⟨_, b, h2, h3⟩
  · rw [hp] at h1; cases h1
  by_cases h0 : f.size = 0
  · have e : underB f l = l := by unfold underB; rw [if_pos h0]
    rw [e, hl] at h3
    have := congrArg List.length h3
    rw [List.length_append] at this
    have h4 := List.length_pos_iff.2 (pcs_ne (parB l).1)
    simp only [List.length_cons, List.length_nil] at this
    omega
  · have e : underB f l = f ++ slash ++ l := by unfold underB; rw [if_neg h0]
    rw [e] at h2 h3 ⊢
    rw [pcs_mid, hl] at h3
    obtain ⟨_, hb⟩ := List.append_inj' h3 rfl
    obtain rfl : l = b := by simpa using hb
    refine ⟨?_, by omega⟩
    have hd := congrArg (fun a : ByteArray => a.data.toList) h2
    simp only [ByteArray.data_append, Array.toList_append, List.append_assoc] at hd
    exact ba_ext (List.append_cancel_right hd.symm)
theorem name_pcs {l : ByteArray} (h : nameB l = true) : pcs l = [l] := by
  refine pcs_none l (fun k hk => ?_)
  unfold nameB at h
  simp only [Bool.and_eq_true] at h
  have h1 := List.all_eq_true.1 h.2 47 (List.mem_of_getElem? hk)
  revert h1
  decide
/-- Where something new is to lie there is a folder. -/
theorem real_dir {M : NMap} (h : WF M) {path p : ByteArray} {o : Option Nd} (hr : realT M path = (p, o, 0)) (hv : validB p = true) (hp : (parB p).2 = true) : ∃ y, M (parB p).1 = some y ∧ y.f0 = 1 := by
  unfold realT at hr
  by_cases h0 : path.size = 0
  · rw [if_pos h0] at hr
    exact absurd (show (20 : Int) = 0 from congrArg (fun t => t.2.2) hr) (by decide)
  rw [if_neg h0] at hr
  by_cases h1 : (realF M path).2 = 0
  case neg =>
    rw [if_neg h1] at hr
    exact absurd (show (realF M path).2 = 0 from congrArg (fun t => t.2.2) hr) h1
  rw [if_pos h1] at hr
  have hpe : (realF M path).1 = p := congrArg (fun t => t.1) hr
  unfold realF at hpe h1
  rw [if_neg h0] at hpe h1
  by_cases hpv : validB path = false
  · rw [if_pos hpv] at h1
    exact absurd (show (20 : Int) = 0 from h1) (by decide)
  rw [if_neg hpv] at hpe h1
  by_cases hw : (way M (pcs path).dropLast).2 = 0
  case neg =>
    rw [if_neg hw] at h1
    exact absurd h1 hw
  rw [if_pos hw] at hpe
  have hd : DirAt M (way M (pcs path).dropLast).1 := wayN_dirs h _ _ _ _ (.inl rfl) hw
  have hn : nameB ((pcs path).getLastD emp) = true := by
    refine valid_pcs (by simpa using hpv) _ ?_
    rw [← List.dropLast_concat_getLast (pcs_ne path), List.getLastD_concat]
    rw [List.dropLast_concat_getLast (pcs_ne path)]
    exact List.getLast_mem _
  have hpe : underB (way M (pcs path).dropLast).1 ((pcs path).getLastD emp) = p := hpe
  rw [← hpe] at hv hp ⊢
  obtain ⟨e, hs⟩ := under_par hv (name_pcs hn) hp
  rw [e]
  rcases hd with e2 | hd
  · rw [e2] at hs
    exact absurd hs (by decide)
  · exact hd
theorem par_ne (a : ByteArray) (h : (parB a).2 = true) : (parB a).1 ≠ a := by
  unfold parB at h ⊢
  split at h
  · rename_i hc
    rw [if_pos hc]
    intro e
    have h1 := congrArg ByteArray.size e
    rcases last_cases a with e1 | ⟨i, hi, e1⟩
    · rw [e1] at hc; omega
    · rw [e1] at h1
      simp [ByteArray.size_extract] at h1
      omega
  · cases h
theorem realT_at (M : NMap) (s : ByteArray) (h : (realT M s).2.2 = 0) : (realT M s).2.1 = M (realT M s).1 := by
  unfold realT at *
  by_cases h0 : s.size = 0
  · rw [if_pos h0] at h; exact absurd (show (20 : Int) = 0 from h) (by decide)
  rw [if_neg h0] at *
  by_cases h1 : (realF M s).2 = 0
  · rw [if_pos h1]
  · rw [if_neg h1] at h; exact absurd h h1
/-- Make keeps a tree. -/
theorem wf_make {M M' : NMap} (h : WF M) (cnt cnt' : Nat) (room room' : Int) (n : Nd) (c : Chg) (hp : makeP M cnt room n = .inr (c, M', cnt', room')) : WF M' := by
  unfold makeP at hp
  by_cases h1 : validB n.f1 = false
  · rw [if_pos h1] at hp; cases hp
  rw [if_neg h1] at hp
  by_cases h2 : mayB n = false
  · rw [if_pos h2] at hp; cases hp
  rw [if_neg h2] at hp
  by_cases h3 : n.f0 = 2 ∧ 0 < n.f2.length
  · rw [if_pos h3] at hp; cases hp
  rw [if_neg h3] at hp
  by_cases h4 : (realT M n.f1).2.2 ≠ 0
  · rw [if_pos h4] at hp; cases hp
  rw [if_neg h4] at hp
  by_cases h5 : (realT M n.f1).2.1.isSome = true
  · rw [if_pos h5] at hp; cases hp
  rw [if_neg h5] at hp
  by_cases h6 : validB (realT M n.f1).1 = false
  · rw [if_pos h6] at hp; cases hp
  rw [if_neg h6] at hp
  by_cases h7 : 65536 ≤ cnt
  · rw [if_pos h7] at hp; cases hp
  rw [if_neg h7] at hp
  injection hp with hp
  simp only [Prod.mk.injEq] at hp
  obtain ⟨_, rfl, _, _⟩ := hp
  have h40 : (realT M n.f1).2.2 = 0 := by simpa using h4
  have hv : validB (realT M n.f1).1 = true := by simpa using h6
  have hno : M (realT M n.f1).1 = none := by
    rw [← realT_at M n.f1 h40]
    simpa using h5
  refine wf_put h _ hv (by have h8 : mayB n = true := by simpa using h2
                           exact h8) (fun hq => ?_) (fun y hy => by rw [hno] at hy; cases hy) (fun hq => par_ne _ hq)
  exact real_dir h (path := n.f1) (o := (realT M n.f1).2.1) (by rw [← h40]) hv hq
/-- Write keeps a tree. -/
theorem wf_write {M : NMap} (h : WF M) (p : ByteArray) (x : Nd) (hx : M p = some x) (h1 : x.f0 ≠ 1) (h3 : x.f0 ≠ 3) (b : List Int) (hl : ¬ 268435456 < x.f2.length + b.length) : WF (putM M ⟨x.f0, x.f1, x.f2 ++ b, x.f3, x.f4⟩) := by
  have h2 : x.f0 = 2 := by
    rcases (wf_fine h).kind p x hx with e | e | e
    · exact absurd e h1
    · exact e
    · exact absurd e h3
  have ho := h.own p x hx
  have hm := h.may p x hx
  refine wf_put h _ (by show validB x.f1 = true; rw [ho]; exact h.valid p x hx) ?_ (fun hq => by
    have hq' : (parB x.f1).2 = true := hq
    show ∃ y, M (parB x.f1).1 = some y ∧ y.f0 = 1
    rw [ho] at hq' ⊢
    exact h.dir p x hx hq') (fun y hy h0 => by
    have hy' : M x.f1 = some y := hy
    rw [ho, hx] at hy'
    cases hy'
    exact absurd h0 h1) (fun hq => par_ne _ hq)
  unfold mayB kindB at hm ⊢
  rw [if_neg h1, if_pos h2] at hm
  rw [if_neg (show ¬ (⟨x.f0, x.f1, x.f2 ++ b, x.f3, x.f4⟩ : Nd).f0 = 1 from h1), if_pos (show (⟨x.f0, x.f1, x.f2 ++ b, x.f3, x.f4⟩ : Nd).f0 = 2 from h2)]
  simp at hm ⊢
  omega
theorem par_below {q : ByteArray} (hv : validB q = true) (hp : (parB q).2 = true) : belowB (parB q).1 q = true := by
  rcases par_cut q hv with ⟨h1, _⟩ | ⟨_, b, h2, _⟩
  · rw [hp] at h1; cases h1
  · show List.isPrefixOf ((parB q).1 ++ slash).data.toList q.data.toList = true
    rw [List.isPrefixOf_iff_prefix]
    exact ⟨b.data.toList, by rw [← Array.toList_append, ← ByteArray.data_append, ← h2]⟩
/-- Remove keeps a tree. -/
theorem wf_remove {M : NMap} (h : WF M) (p : ByteArray) (hn : ¬ ∃ q, (M q).isSome = true ∧ belowB p q = true) : WF (delM M p) :=
  wf_del h p (fun q x hq hp e => hn ⟨q, by rw [hq]; rfl, by rw [← e]; exact par_below (h.valid q x hq) hp⟩)
end Go.Proofs.YtageofdcloneoaaDoor.Fs
set_option linter.unusedVariables false
set_option linter.unusedSimpArgs false
namespace Go.Proofs.YtageofdcloneoaaDoor.Fs
open Go.RowKit Go.Maps Go.Proofs.YtageofdcloneoaaDoor.Rout Go.Proofs.YtageofdcloneoaaDoor.Node Go.Proofs.YtageofdcloneoaaDoor.Tree Go.Proofs.YtageofdcloneoaaDoor.Vfs Go.Proofs.YtageofdcloneoaaDoorW.PrintWords
theorem below_trans {a b c : ByteArray} (h : belowB a b = true) (k : belowB b c = true) : belowB a c = true := by
  obtain ⟨r, hr⟩ := List.isPrefixOf_iff_prefix.1 (show List.isPrefixOf (a ++ slash).data.toList b.data.toList = true from h)
  obtain ⟨s, hs⟩ := List.isPrefixOf_iff_prefix.1 (show List.isPrefixOf (b ++ slash).data.toList c.data.toList = true from k)
  show List.isPrefixOf (a ++ slash).data.toList c.data.toList = true
  rw [List.isPrefixOf_iff_prefix]
  refine ⟨r ++ (slash.data.toList ++ s), ?_⟩
  rw [← List.append_assoc, hr, ← hs, ByteArray.data_append, Array.toList_append, List.append_assoc]
theorem in_trans {a b c : ByteArray} (h : inB a b) (k : inB b c) : inB a c := by
  rcases h with rfl | h
  · exact k
  · rcases k with rfl | k
    · exact .inr h
    · exact .inr (below_trans h k)
/-- What has a folder lies below it. -/
theorem par_below' {q : ByteArray} (hv : validB q = true) (hp : (parB q).2 = true) : belowB (parB q).1 q = true := by
  rcases par_cut q hv with ⟨h1, _⟩ | ⟨_, b, h2, _⟩
  · rw [hp] at h1; cases h1
  · show List.isPrefixOf ((parB q).1 ++ slash).data.toList q.data.toList = true
    rw [List.isPrefixOf_iff_prefix]
    refine ⟨b.data.toList, ?_⟩
    conv => rhs; rw [h2]
    rw [ByteArray.data_append, Array.toList_append]
    simp
theorem may_path (x : Nd) (q : ByteArray) : mayB (renN x q) = mayB x := rfl
/-- The folder of what was moved is its folder, moved. -/
theorem turn_par {old p t : ByteArray} (ho : belowB old t = true) (ht : validB t = true) (hq : validB (turnB old p t) = true) (hp : 0 < p.size) :
    (parB (turnB old p t)).1 = turnB old p (parB t).1 ∧ inB old (parB t).1 ∧ (parB t).2 = true := by
  obtain ⟨h1, h2⟩ := below_par ho ht
  have hin : inB old (parB t).1 := h2.imp id id
  refine ⟨?_, hin, h1⟩
  rcases par_cut t ht with ⟨h3, _⟩ | ⟨_, b, h3, h4⟩
  · rw [h1] at h3; cases h3
  have hb : pcs b = [b] := by
    have hbn : nameB b = true := valid_pcs ht _ (by rw [h4]; simp)
    exact name_pcs hbn
  obtain ⟨r, hr⟩ := in_list hin
  have htl : t.data.toList = old.data.toList ++ (r ++ (slash.data.toList ++ b.data.toList)) := by
    conv => lhs; rw [h3]
    rw [ByteArray.data_append, Array.toList_append, ByteArray.data_append, Array.toList_append, hr]
    simp only [List.append_assoc]
  have e : turnB old p t = turnB old p (parB t).1 ++ slash ++ b := by
    apply ba_ext
    rw [turn_list old p t _ htl, ByteArray.data_append, Array.toList_append, ByteArray.data_append, Array.toList_append, turn_list old p _ r hr]
    simp only [List.append_assoc]
  have hsz : 0 < (turnB old p (parB t).1).size := by
    have := congrArg List.length (turn_list old p _ r hr)
    rw [size_data, List.length_append, size_data] at this
    omega
  have e2 : turnB old p t = underB (turnB old p (parB t).1) b := by unfold underB; rw [if_neg (by omega), e]
  have hp2 : (parB (turnB old p t)).2 = true := by
    rcases par_cut _ hq with ⟨_, _, h7⟩ | ⟨h5, _⟩
    · rw [e, pcs_mid, hb] at h7
      have h8 := congrArg List.length h7
      have h9 := List.length_pos_iff.2 (pcs_ne (turnB old p (parB t).1))
      rw [List.length_append] at h8
      simp only [List.length_cons, List.length_nil] at h8
      omega
    · exact h5
  rw [e2] at hp2 hq ⊢
  exact (under_par hq hb hp2).1
/-- A step: a change, and the map and the number behind it. -/
inductive Step (M : NMap) (cnt : Nat) : Chg → NMap → Nat → Prop
  | make (c : Chg) (m t : Int) (hd : c.dest = emp) (hv : validB c.path = true) (hno : M c.path = none) (hdir : (parB c.path).2 = true → ∃ y, M (parB c.path).1 = some y ∧ y.f0 = 1) (hm : mayB ⟨c.kind, c.path, c.data, m, t⟩ = true) (h2 : ¬ (c.kind = 2 ∧ 0 < c.data.length)) (hc : ¬ 65536 ≤ cnt) : Step M cnt c (putM M ⟨c.kind, c.path, c.data, m, t⟩) (cnt + 1)
  | write (c : Chg) (x : Nd) (hk : c.kind = 4) (hd : c.dest = emp) (hx : M c.path = some x) (h1 : x.f0 ≠ 1) (h3 : x.f0 ≠ 3) (hl : ¬ 268435456 < x.f2.length + c.data.length) (hb : ¬ 1048576 < c.data.length) : Step M cnt c (putM M ⟨x.f0, x.f1, x.f2 ++ c.data, x.f3, x.f4⟩) cnt
  | remove (c : Chg) (hk : c.kind = 6) (hd : c.dest = emp) (hx : (M c.path).isSome = true) (hb : ¬ ∃ q, (M q).isSome = true ∧ belowB c.path q = true) (he : c.data = []) : Step M cnt c (delM M c.path) (cnt - 1)
  | rename (c : Chg) (hk : c.kind = 5) (hx : (M c.path).isSome = true) (hno : M c.dest = none) (hdir : (parB c.dest).2 = true → ∃ y, M (parB c.dest).1 = some y ∧ y.f0 = 1) (hb : belowB c.path c.dest = false) (hv : ∀ q, (M q).isSome = true → inB c.path q → validB (turnB c.path c.dest q) = true) (he : c.data = []) : Step M cnt c (moveM M c.path c.dest) cnt
theorem turn_self (old p : ByteArray) : turnB old p old = p := by
  apply ba_ext
  rw [turn_list old p old [] (by simp)]
  simp
open Classical in
/-- Where nothing of the old place or the new one lies, nothing is changed. -/
theorem move_rest {M : NMap} (hU : Up M) {old p a : ByteArray} (hp : M p = none) (ha : (M a).isSome = true) (ho : ¬ inB old a) : moveM M old p a = M a := by
  unfold moveM
  rw [if_neg (fun e => far_of hU hp ha e.1), if_neg ho]
open Classical in
theorem wf_move {M : NMap} (h : WF M) {old p : ByteArray} (hx : (M old).isSome = true) (hno : M p = none) (hdir : (parB p).2 = true → ∃ y, M (parB p).1 = some y ∧ y.f0 = 1) (hb : belowB old p = false) (hv : ∀ q, (M q).isSome = true → inB old q → validB (turnB old p q) = true) : WF (moveM M old p) := by
  have hU := wf_up h
  have hpv : validB p = true := by have := hv old hx (.inl rfl); rwa [turn_self] at this
  have hpp := pcs_pos hpv
  have cases_ : ∀ q x, moveM M old p q = some x → (∃ t y, q = turnB old p t ∧ inB old t ∧ M t = some y ∧ x = renN y q) ∨ (M q = some x ∧ ¬ inB old q) := by
    intro q x hq
    unfold moveM at hq
    by_cases h1 : inB p q ∧ (M (turnB p old q)).isSome = true
    · rw [if_pos h1] at hq
      obtain ⟨y, hy⟩ := Option.isSome_iff_exists.1 h1.2
      rw [hy] at hq
      injection hq with hq
      exact .inl ⟨turnB p old q, y, (turn_back h1.1).symm, turn_in h1.1, hy, hq.symm⟩
    · rw [if_neg h1] at hq
      by_cases h2 : inB old q
      · rw [if_pos h2] at hq; cases hq
      · rw [if_neg h2] at hq; exact .inr ⟨hq, h2⟩
  have moved : ∀ t y, inB old t → M t = some y → moveM M old p (turnB old p t) = some (renN y (turnB old p t)) := by
    intro t y ht hy
    unfold moveM
    rw [if_pos ⟨turn_in ht, by rw [turn_back ht, hy]; rfl⟩, turn_back ht, hy]
    rfl
  refine ⟨fun q x hq => ?_, fun q x hq => ?_, fun q x hq => ?_, fun q x hq hpar => ?_⟩
  · rcases cases_ q x hq with ⟨t, y, _, _, _, rfl⟩ | ⟨e, _⟩
    · rfl
    · exact h.own q x e
  · rcases cases_ q x hq with ⟨t, y, rfl, ht, hy, rfl⟩ | ⟨e, _⟩
    · exact hv t (by rw [hy]; rfl) ht
    · exact h.valid q x e
  · rcases cases_ q x hq with ⟨t, y, _, _, hy, rfl⟩ | ⟨e, _⟩
    · rw [may_path]; exact h.may t y hy
    · exact h.may q x e
  · rcases cases_ q x hq with ⟨t, y, rfl, ht, hy, rfl⟩ | ⟨e, hn⟩
    · rcases ht with rfl | ht
      · rw [turn_self] at hpar ⊢
        obtain ⟨z, hz, hz0⟩ := hdir hpar
        refine ⟨z, ?_, hz0⟩
        rw [move_rest hU hno (by rw [hz]; rfl), hz]
        intro hi
        have := in_trans hi (.inr (par_below' hpv hpar))
        rcases this with e | e
        · rw [e] at hno; rw [hno] at hx; cases hx
        · rw [e] at hb; cases hb
      · have hvt := h.valid t y hy
        have hvq := hv t (by rw [hy]; rfl) (.inr ht)
        obtain ⟨e1, e2, e3⟩ := turn_par ht hvt hvq hpp
        obtain ⟨z, hz, hz0⟩ := h.dir t y hy e3
        rw [e1]
        exact ⟨_, moved _ z e2 hz, hz0⟩
    · obtain ⟨z, hz, hz0⟩ := h.dir q x e hpar
      refine ⟨z, ?_, hz0⟩
      rw [move_rest hU hno (by rw [hz]; rfl), hz]
      intro hi
      exact hn (in_trans hi (.inr (par_below' (h.valid q x e) hpar)))
theorem Step.wf {M M' : NMap} {cnt n : Nat} {c : Chg} (k : Step M cnt c M' n) (h : WF M) : WF M' := by
  cases k with
  | make m t hd hv hno hdir hm h2 hc =>
    exact wf_put h _ hv hm hdir (fun y hy => by rw [hno] at hy; cases hy) (fun hq => par_ne _ hq)
  | write x hk hd hx h1 h3 hl hb => exact wf_write h _ x hx h1 h3 _ hl
  | remove hk hd hx hb he =>
    refine wf_del h _ (fun q x hq hp e => hb ⟨q, by rw [hq]; rfl, ?_⟩)
    rw [← e]
    exact par_below' (h.valid q x hq) hp
  | rename hk hx hno hdir hb hv he => exact wf_move h hx hno hdir hb hv
/-- What an act's plan says is a step. -/
theorem plan_step {M M' : NMap} (h : WF M) {cnt n : Nat} {room r : Int} {a : Ac} {c : Chg} (hp : planOf M cnt room a = some (.inr (c, M', n, r))) : Step M cnt c M' n ∧ (c.data = a.node.f2 ∨ c.data = a.bytes ∨ c.data = []) ∧ (r = room ∨ (0 ≤ room ∧ -1 ≤ r ∧ r ≤ room)) := by
  unfold planOf at hp
  by_cases k0 : a.kind = 0
  · rw [if_pos k0] at hp
    injection hp with hp
    unfold makeP at hp
    by_cases h1 : validB a.node.f1 = false
    · rw [if_pos h1] at hp; cases hp
    rw [if_neg h1] at hp
    by_cases h2 : mayB a.node = false
    · rw [if_pos h2] at hp; cases hp
    rw [if_neg h2] at hp
    by_cases h3 : a.node.f0 = 2 ∧ 0 < a.node.f2.length
    · rw [if_pos h3] at hp; cases hp
    rw [if_neg h3] at hp
    by_cases h4 : (realT M a.node.f1).2.2 ≠ 0
    · rw [if_pos h4] at hp; cases hp
    rw [if_neg h4] at hp
    by_cases h5 : (realT M a.node.f1).2.1.isSome = true
    · rw [if_pos h5] at hp; cases hp
    rw [if_neg h5] at hp
    by_cases h6 : validB (realT M a.node.f1).1 = false
    · rw [if_pos h6] at hp; cases hp
    rw [if_neg h6] at hp
    by_cases h7 : 65536 ≤ cnt
    · rw [if_pos h7] at hp; cases hp
    rw [if_neg h7] at hp
    injection hp with hp
    simp only [Prod.mk.injEq] at hp
    obtain ⟨rfl, rfl, rfl, rfl⟩ := hp
    have h40 : (realT M a.node.f1).2.2 = 0 := by simpa using h4
    have hv : validB (realT M a.node.f1).1 = true := by simpa using h6
    refine ⟨Step.make ⟨a.node.f0, (realT M a.node.f1).1, emp, a.node.f2⟩ a.node.f3 a.node.f4 rfl hv ?_ (fun hq => ?_) (show mayB a.node = true by simpa using h2) h3 h7, .inl rfl, .inl rfl⟩
    · show M (realT M a.node.f1).1 = none
      rw [← realT_at M a.node.f1 h40]
      simpa using h5
    · exact real_dir h (path := a.node.f1) (o := (realT M a.node.f1).2.1) (by rw [← h40]) hv hq
  rw [if_neg k0] at hp
  by_cases k1 : a.kind = 1
  · rw [if_pos k1] at hp
    injection hp with hp
    unfold writeP at hp
    by_cases h1 : validB a.node.f1 = false
    · rw [if_pos h1] at hp; cases hp
    rw [if_neg h1] at hp
    by_cases h2 : 1048576 < a.bytes.length
    · rw [if_pos h2] at hp; cases hp
    rw [if_neg h2] at hp
    by_cases h4 : (realT M a.node.f1).2.2 ≠ 0
    · rw [if_pos h4] at hp; cases hp
    rw [if_neg h4] at hp
    have h40 : (realT M a.node.f1).2.2 = 0 := by simpa using h4
    have hat := realT_at M a.node.f1 h40
    cases hx : (realT M a.node.f1).2.1 with
    | none => rw [hx] at hp; cases hp
    | some x =>
      rw [hx] at hp hat
      dsimp only at hp
      by_cases h5 : x.f0 = 1
      · rw [if_pos h5] at hp; cases hp
      rw [if_neg h5] at hp
      by_cases h6 : x.f0 = 3
      · rw [if_pos h6] at hp; cases hp
      rw [if_neg h6] at hp
      by_cases h7 : 268435456 < x.f2.length + a.bytes.length
      · rw [if_pos h7] at hp; cases hp
      rw [if_neg h7] at hp
      by_cases h8 : 0 ≤ room ∧ room < a.bytes.length
      · rw [if_pos h8] at hp; cases hp
      rw [if_neg h8] at hp
      injection hp with hp
      simp only [Prod.mk.injEq] at hp
      obtain ⟨rfl, rfl, rfl, rfl⟩ := hp
      refine ⟨Step.write ⟨4, (realT M a.node.f1).1, emp, a.bytes⟩ x rfl rfl hat.symm h5 h6 h7 h2, .inr (.inl rfl), ?_⟩
      by_cases h9 : 0 ≤ room
      · rw [if_pos h9]; right; omega
      · rw [if_neg h9]; exact .inl rfl
  rw [if_neg k1] at hp
  by_cases k2 : a.kind = 2
  · rw [if_pos k2] at hp
    injection hp with hp
    unfold renameP at hp
    by_cases h1 : validB a.node.f1 = false ∨ validB a.dest = false
    · rw [if_pos h1] at hp; cases hp
    rw [if_neg h1] at hp
    by_cases h2 : (realT M a.node.f1).2.2 ≠ 0
    · rw [if_pos h2] at hp; cases hp
    rw [if_neg h2] at hp
    by_cases h3 : (realT M a.node.f1).2.1.isSome = false
    · rw [if_pos h3] at hp; cases hp
    rw [if_neg h3] at hp
    by_cases h4 : (realT M a.dest).2.2 ≠ 0
    · rw [if_pos h4] at hp; cases hp
    rw [if_neg h4] at hp
    by_cases h5 : (realT M a.dest).2.1.isSome = true
    · rw [if_pos h5] at hp; cases hp
    rw [if_neg h5] at hp
    by_cases h6 : belowB (realT M a.node.f1).1 (realT M a.dest).1 = true
    · rw [if_pos h6] at hp; cases hp
    rw [if_neg h6] at hp
    by_cases h7 : ∃ q, (M q).isSome = true ∧ inB (realT M a.node.f1).1 q ∧ validB (turnB (realT M a.node.f1).1 (realT M a.dest).1 q) = false
    · rw [if_pos h7] at hp; cases hp
    rw [if_neg h7] at hp
    injection hp with hp
    simp only [Prod.mk.injEq] at hp
    obtain ⟨rfl, rfl, rfl, rfl⟩ := hp
    have h20 : (realT M a.node.f1).2.2 = 0 := by simpa using h2
    have h40 : (realT M a.dest).2.2 = 0 := by simpa using h4
    have hx : (M (realT M a.node.f1).1).isSome = true := by
      rw [← realT_at M _ h20]
      cases h8 : (realT M a.node.f1).2.1.isSome
      · exact absurd h8 h3
      · rfl
    have hv : ∀ q, (M q).isSome = true → inB (realT M a.node.f1).1 q → validB (turnB (realT M a.node.f1).1 (realT M a.dest).1 q) = true := fun q h8 h9 => by
      cases h10 : validB (turnB (realT M a.node.f1).1 (realT M a.dest).1 q)
      · exact absurd ⟨q, h8, h9, h10⟩ h7
      · rfl
    have hpv : validB (realT M a.dest).1 = true := by have := hv _ hx (.inl rfl); rwa [turn_self] at this
    exact ⟨Step.rename ⟨5, (realT M a.node.f1).1, (realT M a.dest).1, []⟩ rfl hx (by show M (realT M a.dest).1 = none; rw [← realT_at M _ h40]; simpa using h5) (fun hq => real_dir h (path := a.dest) (o := (realT M a.dest).2.1) (by rw [← h40]) hpv hq) (by simpa using h6) hv rfl, .inr (.inr rfl), .inl rfl⟩
  rw [if_neg k2] at hp
  by_cases k3 : a.kind = 3
  · rw [if_pos k3] at hp
    injection hp with hp
    unfold removeP at hp
    by_cases h2 : (realT M a.node.f1).2.2 ≠ 0
    · rw [if_pos h2] at hp; cases hp
    rw [if_neg h2] at hp
    by_cases h3 : (realT M a.node.f1).2.1.isSome = false
    · rw [if_pos h3] at hp; cases hp
    rw [if_neg h3] at hp
    by_cases h4 : ∃ q, (M q).isSome = true ∧ belowB (realT M a.node.f1).1 q = true
    · rw [if_pos h4] at hp; cases hp
    rw [if_neg h4] at hp
    injection hp with hp
    simp only [Prod.mk.injEq] at hp
    obtain ⟨rfl, rfl, rfl, rfl⟩ := hp
    have h20 : (realT M a.node.f1).2.2 = 0 := by simpa using h2
    exact ⟨Step.remove ⟨6, (realT M a.node.f1).1, emp, []⟩ rfl rfl (by show (M (realT M a.node.f1).1).isSome = true; rw [← realT_at M _ h20]; cases h8 : (realT M a.node.f1).2.1.isSome; exact absurd h8 h3; rfl) h4 rfl, .inr (.inr rfl), .inl rfl⟩
  · rw [if_neg k3] at hp; cases hp
theorem exec_ok (s : St) (c : Chg) (M' : NMap) (n : Nat) (r : Int) (hf : s.fault.2 = false) : s.exec (.inr (c, M', n, r)) = ({ s.fault.1 with log := s.log ++ [c], M := M', cnt := n, room := r }, 0) := by
  have hc : s.change c = ({ s.fault.1 with log := s.log ++ [c] }, 0) := by unfold St.change; rw [if_neg (by rw [hf]; simp)]
  show (if (s.change c).2 = 0 then _ else _) = _
  rw [hc]
  rfl
theorem exec_bad (s : St) (c : Chg) (M' : NMap) (n : Nat) (r : Int) (hf : s.fault.2 = true) : s.exec (.inr (c, M', n, r)) = (s.fault.1, 35) := by
  have hc : s.change c = (s.fault.1, 35) := by unfold St.change; rw [if_pos hf]
  show (if (s.change c).2 = 0 then _ else _) = _
  rw [hc]
  rfl
/-- A call: nothing is changed, or a step is done. -/
theorem call_cases (s : St) (h : WF s.M) (a : Ac) :
    ((s.call a).M = s.M ∧ (s.call a).cnt = s.cnt ∧ (s.call a).log = s.log) ∨
    (∃ c M' n r, planOf s.M s.cnt s.room a = some (.inr (c, M', n, r)) ∧ s.fault.2 = false ∧ Step s.M s.cnt c M' n ∧ s.call a = { s.fault.1 with log := s.log ++ [c], M := M', cnt := n, room := r }) := by
  unfold St.call
  cases hpl : planOf s.M s.cnt s.room a with
  | none =>
    left
    dsimp only
    unfold St.fail St.setRoom
    split
    · split <;> exact ⟨rfl, rfl, rfl⟩
    · split
      · split <;> exact ⟨rfl, rfl, rfl⟩
      · exact ⟨rfl, rfl, rfl⟩
  | some p =>
    dsimp only
    obtain ⟨f1, f2, f3, f4⟩ := St.fault_M s
    cases p with
    | inl e => exact .inl ⟨rfl, rfl, rfl⟩
    | inr p =>
      obtain ⟨c, M', n, r⟩ := p
      cases hf : s.fault.2
      · right
        exact ⟨c, M', n, r, rfl, rfl, (plan_step h hpl).1, by rw [exec_ok s c M' n r hf]⟩
      · rw [exec_bad s c M' n r hf]
        exact .inl ⟨f1, f2, f3⟩
theorem call_wf (s : St) (h : WF s.M) (a : Ac) : WF (s.call a).M := by
  rcases call_cases s h a with ⟨e, _⟩ | ⟨c, M', n, r, _, _, hs, e⟩
  · rw [e]; exact h
  · rw [e]; exact hs.wf h
end Go.Proofs.YtageofdcloneoaaDoor.Fs
